/- PAGES: mend. Printed by mac.py. -/
import Derived.Test.YthkocgpbpgfocaaPgE
import Derived.Test.YthkocgpbpgfocaaPgD
namespace Go.Proofs.Ythkocgpbpgfocaa
open Go.RowKit

def ChangeM (w : World) (O : Nat → Prop) (g : Nat) (L' : List (List GPair)) (w' : World) : Prop := ∃ (O' B' : Nat → Prop) (aP : Option Addr) (cP : Nat) (S : List Value), MapIs w' O' B' g aP cP S L' ∧ (∀ b, O' b → O b ∨ w.heap.size ≤ b) ∧ Keep O w w'
def MendR (w : World) (O : Nat → Prop) (g : Nat) (L' : List (List GPair)) (e : Ending) (w' : World) : Prop := e = .returned (.tuple #[]) ∧ ChangeM w O g L' w'
theorem mapIs_nil {w : World} {O : Nat → Prop} {g : Nat} (row : RowIs w g 65 [.slice none 0 0]) (hg : O g) (hlt : ∀ b, O b → b < w.heap.size) : MapIs w O (fun _ => False) g none 0 [] [] :=
  { row := row
    own := World.ownsRow_nil _ _ _ _
    pg := fun j h => absurd h (Nat.not_lt_zero j)
    og := hg
    oP := fun b hb => (by cases hb)
    oS := fun v hv => (by cases hv)
    oB := fun b hb => hb.elim
    ap := List.Pairwise.nil
    lt := hlt }
theorem merge_eq {α : Type} {L : List α} {a : Nat} (h : a + 1 < L.length) (x : α) : delAt (L.set a x) (a + 1) = L.take a ++ [x] ++ L.drop (a + 2) := by
  unfold delAt
  rw [List.set_eq_take_append_cons_drop, if_pos (by omega)]
  have e1 : (L.take a).length = a := by rw [List.length_take]; omega
  have e2 : (L.take a ++ x :: L.drop (a + 1)).take (a + 1) = L.take a ++ [x] := by
    rw [List.take_append, e1, List.take_of_length_le (by omega), show a + 1 - a = 1 by omega]
    rfl
  have e3 : (L.take a ++ x :: L.drop (a + 1)).drop (a + 1 + 1) = L.drop (a + 2) := by
    rw [List.drop_append, e1, List.drop_eq_nil_of_le (by omega), show a + 1 + 1 - a = 2 by omega, List.nil_append, List.drop_succ_cons, List.drop_drop]
  rw [e2, e3]
theorem halve_eq {α : Type} {L : List α} {a : Nat} (h : a + 1 < L.length) (x y : α) : (L.set a x).set (a + 1) y = L.take a ++ [x, y] ++ L.drop (a + 2) := by
  rw [List.set_eq_take_append_cons_drop, if_pos (by rw [List.length_set]; omega), List.drop_set_of_lt (by omega), List.take_set, List.set_eq_take_append_cons_drop, if_pos (by rw [List.length_take]; omega), List.take_take, Nat.min_eq_left (by omega), List.drop_eq_nil_of_le (by rw [List.length_take]; omega)]
  simp
theorem Keep.back_set (w : World) (p : Addr) (u : Value) : Keep (· = p.block) (w.setCell p u) w :=
  ⟨rfl, rfl, rfl, by simp [World.setCell], fun k _ hs => (Below.heap_setCell _ _ _ _ hs).symm⟩
set_option maxRecDepth 100000 in
set_option maxHeartbeats 4000000 in
theorem mend_one (O B : Nat → Prop) (g : Nat) (aP : Option Addr) (cP : Nat) (S : List Value) (L : List (List GPair)) (w : World) (M : MapIs w O B g aP cP S L) (h1 : L.length = 1) (i : Nat) :
    Calls Try.prog 39 #[.pointer (some ⟨g, 0, none⟩), .int .i64 i] w (MendR w O g (mendF L i)) := by
  obtain ⟨bP, restP, rfl, -, rowPg, hPl, -, -, hcP⟩ := own_row M.own (by omega)
  obtain ⟨h0S, a0, c0, css, eS, own0, els0⟩ := M.pg 0 (by omega)
  have x0 := M.row.cell 0
  have xf := M.row.frozen 0
  (try simp only [List.getElem?_cons_zero] at x0)
  have y0 := rowPg.cell 0
  rw [List.getElem?_append_left h0S, List.getElem?_eq_getElem h0S, eS] at y0
  have hm : mendF L i = if (L.getD 0 []).length = 0 then [] else L := by unfold mendF; rw [if_pos h1]
  have hd : L.getD 0 [] = L[0] := by rw [List.getD_eq_getElem?_getD, List.getElem?_eq_getElem (by omega), Option.getD_some]
  rw [hm, hd]
  have HM := Lib.hid M
  have ht : ((L.length : Int) == 1) = true := by rw [h1]; rfl
  have hl0 : (0 : Int) < (L.length : Int) := by omega
  have h1' : (L.length : Int) = 1 := by omega
  generalize L[0].length = n0 at *
  rw [h1] at x0
  clear M eS own0 els0 hm hd rowPg ht hl0 h1'
  rcases Nat.eq_zero_or_pos n0 with h | h
  · rw [if_pos h]
    subst h
    go_enter Try.func39, Try.ntmps39
    go_wp2_with fail
    refine bodyPost_ret (results_none rfl _ _ _) rfl ?_
    have kS : Keep (· = g) w (w.setCell ⟨g, 0, none⟩ (.slice none 0 0)) := (Keep.refl (· = g) w).setCell (p := ⟨g, 0, none⟩) (fun _ => rfl) _
    exact ⟨rfl, O, fun _ => False, none, 0, [], mapIs_nil (HM.out.row.set 0 _) HM.out.og (fun b hb => Nat.lt_of_lt_of_le (HM.out.lt b hb) kS.size), fun b hb => .inl hb, kS.mono (fun b hb => by rw [hb]; exact HM.out.og)⟩
  · rw [if_neg (by omega)]
    have hn : ((n0 : Int) == 0) = false := by simp only [beq_eq_false_iff_ne]; omega
    clear h
    go_enter Try.func39, Try.ntmps39
    go_wp2_with fail
    refine bodyPost_ret (results_none rfl _ _ _) rfl ?_
    exact ⟨rfl, O, B, _, _, _, HM.out, fun b hb => .inl hb, Keep.refl _ _⟩
set_option maxRecDepth 100000 in
set_option maxHeartbeats 4000000 in
theorem mend_c (O B : Nat → Prop) (g : Nat) (aP : Option Addr) (cP : Nat) (S : List Value) (L : List (List GPair)) (w : World) (M : MapIs w O B g aP cP S L) (i : Nat) (N : Near L i) (hLn : L.length ≤ 100000) :
    Calls Try.prog 39 #[.pointer (some ⟨g, 0, none⟩), .int .i64 i] w (MendR w O g (mendF L i)) := by
  have hi := N.hi
  by_cases h1 : L.length = 1
  · exact mend_one O B g aP cP S L w M h1 i
  have h2 : 1 < L.length := by omega
  obtain ⟨bP, restP, rfl, -, rowPg, hPl, -, -, hcP⟩ := own_row M.own (by omega)
  obtain ⟨hiS, ai, ci, cssi, eS, owni, elsi⟩ := M.pg i hi
  have hd : L.getD i [] = L[i] := by rw [List.getD_eq_getElem?_getD, List.getElem?_eq_getElem hi, Option.getD_some]
  have x0 := M.row.cell 0
  (try simp only [List.getElem?_cons_zero] at x0)
  have yi := rowPg.cell i
  rw [List.getElem?_append_left hiS, List.getElem?_eq_getElem hiS, eS] at yi
  have hm : mendF L i = if 4 ≤ L[i].length then L else L.take (i - 1) ++ twoF (L.getD (i - 1) [] ++ L.getD (i - 1 + 1) []) ++ L.drop (i - 1 + 2) := by unfold mendF; rw [if_neg h1, hd]
  have ht : ((L.length : Int) == 1) = false := by simp only [beq_eq_false_iff_ne]; omega
  have hi0 : (0 : Int) ≤ (i : Int) := by omega
  have hi1 : (i : Int) < (L.length : Int) := by omega
  rw [hm]
  have HM := Lib.hid M
  by_cases h4 : 4 ≤ L[i].length
  · rw [if_pos h4]
    have h4' : (4 : Int) ≤ (L[i].length : Int) := by omega
    clear M N eS owni elsi hm hd rowPg h1
    go_enter Try.func39, Try.ntmps39
    go_wp2_with fail
    refine bodyPost_ret (results_none rfl _ _ _) rfl ?_
    exact ⟨rfl, O, B, _, _, _, HM.out, fun b hb => .inl hb, Keep.refl _ _⟩
  rw [if_neg h4]
  have h4' : (L[i].length : Int) < 4 := by omega
  clear M eS owni elsi hm hd h1 h4
  go_enter Try.func39, Try.ntmps39
  go_upto_region 4 with fail
  have hA : (if (i : Int) - 1 < 0 then 0 else (i : Int) - 1) = ((i - 1 : Nat) : Int) := by split <;> omega
  rw [hA]
  clear hA
  have hal : i - 1 + 1 < L.length := by omega
  generalize hai : i - 1 = a at *
  have hax : a < L.length := Nat.lt_of_succ_lt hal
  obtain ⟨haS, aA, cA, cssA, eA, ownA, elsA⟩ := HM.out.pg a hax
  obtain ⟨hbS, aB, cB, cssB, eB, ownB, elsB⟩ := HM.out.pg (a + 1) hal
  have hgA : L.getD a [] = L[a] := by rw [List.getD_eq_getElem?_getD, List.getElem?_eq_getElem hax, Option.getD_some]
  have hgB : L.getD (a + 1) [] = L[a + 1] := by rw [List.getD_eq_getElem?_getD, List.getElem?_eq_getElem hal, Option.getD_some]
  have hlA := N.le _ (List.getElem_mem hax)
  have hlB := N.le _ (List.getElem_mem hal)
  have hnA := (N.ot h2 a hax).2
  have ya := rowPg.cell a
  rw [List.getElem?_append_left haS, List.getElem?_eq_getElem haS, eA] at ya
  have yb := rowPg.cell (a + 1)
  rw [List.getElem?_append_left hbS, List.getElem?_eq_getElem hbS, eB] at yb
  have ha0 : (0 : Int) ≤ (a : Int) := by omega
  have ha1 : (a : Int) < (L.length : Int) := by omega
  have ha2 : (a : Int) + 1 < (L.length : Int) := by omega
  have ha3 : (0 : Int) ≤ (a : Int) + 1 := by omega
  have hLm : (L.length : Int) ≤ 100000 := by omega
  have hw1 : IntKind.i64.wrap ((a : Int) + 1) = (a : Int) + 1 := by rw [IntKind.wrap_i64]; omega
  have hn1 : ((a : Int) + 1).toNat = a + 1 := by omega
  rw [eA] at ownA
  rw [eB] at ownB
  have HEA := Lib.hid eA
  have HEB := Lib.hid eB
  have HGS := Lib.hid (elsA.app elsB)
  have h3A := elsA.lens3
  have hoA := ones3 elsA
  have hoB := ones3 elsB
  have hlsA : cssA.flatten.length = L[a].length * 3 := ownA.1
  have hlsB : cssB.flatten.length = L[a + 1].length * 3 := ownB.1
  clear yi N eA eB h4' h3A
  have LA := (Lies.of_owned ownA).mono (q := fun _ => True) (fun _ _ => trivial)
  have LB := (Lies.of_owned ownB).mono (q := fun _ => True) (fun _ _ => trivial)
  generalize eLA : L[a] = lA at *
  generalize eLB : L[a + 1] = lB at *
  have HLA := Lib.hid hgA
  have HLB := Lib.hid hgB
  clear hgA hgB eLA eLB ownA ownB elsA elsB
  have kd : Keep Nix w w.drew := (Keep.refl Nix w).drew
  refine wp_region_held_drew (S := (fun w' => w'.cell? ⟨g, 0, none⟩ = some (.slice (some ⟨bP, 0, none⟩) L.length cP) ∧ w'.cell? ⟨bP, a, none⟩ = some (.slice aA lA.length cA) ∧ w'.cell? ⟨bP, a + 1, none⟩ = some (.slice aB lB.length cB))) (by kernel_rfl) (⟨x0, ya, yb⟩) (fun hHeld => ?_)
  have HWD : Hid (w.drew.heap.size = w.heap.size) := rfl
  generalize w.drew = wd at *
  refine wpAnyH_take (i := 0) (v := ?_) rfl (by kernel_rfl) (by kernel_rfl) (by kernel_rfl) (fun _ _ _ h => h) (Or.inl ⟨by kernel_rfl, ?_⟩) hHeld ?_
  rotate_left
  · intro w' hSw
    (try dsimp only at hSw)
    (try simp only [List.getElem_toArray]); (try simp only [List.getElem_cons_succ]); (try simp only [List.getElem_cons_zero])
    go_simp
    try with_reducible rfl
  (try simp only [Act.put]); (try simp only [List.getElem_toArray]); (try simp only [List.getElem_cons_succ]); (try simp only [List.getElem_cons_zero]); (try simp only [List.setIfInBounds_toArray]); (try simp only [List.set_cons_succ]); (try simp only [List.set_cons_zero])
  refine wpAnyH_take (i := 1) (v := ?_) rfl (by kernel_rfl) (by kernel_rfl) (by kernel_rfl) (fun _ _ _ h => h) (Or.inl ⟨by kernel_rfl, ?_⟩) hHeld ?_
  rotate_left
  · intro w' hSw
    (try dsimp only at hSw)
    (try simp only [List.getElem_toArray]); (try simp only [List.getElem_cons_succ]); (try simp only [List.getElem_cons_zero])
    go_simp
    try with_reducible rfl
  (try simp only [Act.put]); (try simp only [List.getElem_toArray]); (try simp only [List.getElem_cons_succ]); (try simp only [List.getElem_cons_zero]); (try simp only [List.setIfInBounds_toArray]); (try simp only [List.set_cons_succ]); (try simp only [List.set_cons_zero])
  refine wpAnyH_take (i := 2) (v := ?_) rfl (by kernel_rfl) (by kernel_rfl) (by kernel_rfl) (fun _ _ _ h => h) (Or.inl ⟨by kernel_rfl, ?_⟩) hHeld ?_
  rotate_left
  · intro w' hSw
    (try dsimp only at hSw)
    (try simp only [List.getElem_toArray]); (try simp only [List.getElem_cons_succ]); (try simp only [List.getElem_cons_zero])
    go_simp
    try with_reducible rfl
  (try simp only [Act.put]); (try simp only [List.getElem_toArray]); (try simp only [List.getElem_cons_succ]); (try simp only [List.getElem_cons_zero]); (try simp only [List.setIfInBounds_toArray]); (try simp only [List.set_cons_succ]); (try simp only [List.set_cons_zero])
  refine wpAnyH_take (i := 3) (v := ?_) rfl (by kernel_rfl) (by kernel_rfl) (by kernel_rfl) (fun _ _ _ h => h) (Or.inl ⟨by kernel_rfl, ?_⟩) hHeld ?_
  rotate_left
  · intro w' hSw
    (try dsimp only at hSw)
    (try simp only [List.getElem_toArray]); (try simp only [List.getElem_cons_succ]); (try simp only [List.getElem_cons_zero])
    go_simp
    try with_reducible rfl
  (try simp only [Act.put]); (try simp only [List.getElem_toArray]); (try simp only [List.getElem_cons_succ]); (try simp only [List.getElem_cons_zero]); (try simp only [List.setIfInBounds_toArray]); (try simp only [List.set_cons_succ]); (try simp only [List.set_cons_zero])
  refine wpAnyH_take (i := 4) (v := ?_) rfl (by kernel_rfl) (by kernel_rfl) (by kernel_rfl) (fun _ _ _ h => h) (Or.inl ⟨by kernel_rfl, ?_⟩) hHeld ?_
  rotate_left
  · intro w' hSw
    (try dsimp only at hSw)
    (try simp only [List.getElem_toArray]); (try simp only [List.getElem_cons_succ]); (try simp only [List.getElem_cons_zero])
    go_simp
    try with_reducible rfl
  (try simp only [Act.put]); (try simp only [List.getElem_toArray]); (try simp only [List.getElem_cons_succ]); (try simp only [List.getElem_cons_zero]); (try simp only [List.setIfInBounds_toArray]); (try simp only [List.set_cons_succ]); (try simp only [List.set_cons_zero])
  refine wpAnyH_take (i := 5) (v := ?_) rfl (by kernel_rfl) (by kernel_rfl) (by kernel_rfl) (fun _ _ _ h => h) (Or.inl ⟨by kernel_rfl, ?_⟩) hHeld ?_
  rotate_left
  · intro w' hSw
    (try dsimp only at hSw)
    (try simp only [List.getElem_toArray]); (try simp only [List.getElem_cons_succ]); (try simp only [List.getElem_cons_zero])
    go_simp
    try with_reducible rfl
  (try simp only [Act.put]); (try simp only [List.getElem_toArray]); (try simp only [List.getElem_cons_succ]); (try simp only [List.getElem_cons_zero]); (try simp only [List.setIfInBounds_toArray]); (try simp only [List.set_cons_succ]); (try simp only [List.set_cons_zero])
  refine wpAnyH_take (i := 6) (v := ?_) rfl (by kernel_rfl) (by kernel_rfl) (by kernel_rfl) (fun _ _ _ h => h) (Or.inl ⟨by kernel_rfl, ?_⟩) hHeld ?_
  rotate_left
  · intro w' hSw
    (try dsimp only at hSw)
    (try simp only [List.getElem_toArray]); (try simp only [List.getElem_cons_succ]); (try simp only [List.getElem_cons_zero])
    go_simp
    try with_reducible rfl
  (try simp only [Act.put]); (try simp only [List.getElem_toArray]); (try simp only [List.getElem_cons_succ]); (try simp only [List.getElem_cons_zero]); (try simp only [List.setIfInBounds_toArray]); (try simp only [List.set_cons_succ]); (try simp only [List.set_cons_zero])
  refine wpAnyH_take (i := 7) (v := ?_) rfl (by kernel_rfl) (by kernel_rfl) (by kernel_rfl) (fun _ _ _ h => h) (Or.inl ⟨by kernel_rfl, ?_⟩) hHeld ?_
  rotate_left
  · intro w' hSw
    (try dsimp only at hSw)
    (try simp only [List.getElem_toArray]); (try simp only [List.getElem_cons_succ]); (try simp only [List.getElem_cons_zero])
    go_simp
    try with_reducible rfl
  (try simp only [Act.put]); (try simp only [List.getElem_toArray]); (try simp only [List.getElem_cons_succ]); (try simp only [List.getElem_cons_zero]); (try simp only [List.setIfInBounds_toArray]); (try simp only [List.set_cons_succ]); (try simp only [List.set_cons_zero])
  refine wpAnyH_take (i := 8) (v := ?_) rfl (by kernel_rfl) (by kernel_rfl) (by kernel_rfl) (fun _ _ _ h => h) (Or.inl ⟨by kernel_rfl, ?_⟩) hHeld ?_
  rotate_left
  · intro w' hSw
    (try dsimp only at hSw)
    (try simp only [List.getElem_toArray]); (try simp only [List.getElem_cons_succ]); (try simp only [List.getElem_cons_zero])
    go_simp
    try with_reducible rfl
  (try simp only [Act.put]); (try simp only [List.getElem_toArray]); (try simp only [List.getElem_cons_succ]); (try simp only [List.getElem_cons_zero]); (try simp only [List.setIfInBounds_toArray]); (try simp only [List.set_cons_succ]); (try simp only [List.set_cons_zero])
  refine wpAnyH_take (i := 9) (v := ?_) rfl (by kernel_rfl) (by kernel_rfl) (by kernel_rfl) (fun _ _ _ h => h) (Or.inl ⟨by kernel_rfl, ?_⟩) hHeld ?_
  rotate_left
  · intro w' hSw
    (try dsimp only at hSw)
    (try simp only [List.getElem_toArray]); (try simp only [List.getElem_cons_succ]); (try simp only [List.getElem_cons_zero])
    go_simp
    try with_reducible rfl
  (try simp only [Act.put]); (try simp only [List.getElem_toArray]); (try simp only [List.getElem_cons_succ]); (try simp only [List.getElem_cons_zero]); (try simp only [List.setIfInBounds_toArray]); (try simp only [List.set_cons_succ]); (try simp only [List.set_cons_zero])
  refine wpAnyH_take (i := 10) (v := ?_) rfl (by kernel_rfl) (by kernel_rfl) (by kernel_rfl) (fun _ _ _ h => h) (Or.inl ⟨by kernel_rfl, ?_⟩) hHeld ?_
  rotate_left
  · intro w' hSw
    (try dsimp only at hSw)
    (try simp only [List.getElem_toArray]); (try simp only [List.getElem_cons_succ]); (try simp only [List.getElem_cons_zero])
    go_simp
    try with_reducible rfl
  (try simp only [Act.put]); (try simp only [List.getElem_toArray]); (try simp only [List.getElem_cons_succ]); (try simp only [List.getElem_cons_zero]); (try simp only [List.setIfInBounds_toArray]); (try simp only [List.set_cons_succ]); (try simp only [List.set_cons_zero])
  refine wpAnyH_take (i := 11) (v := ?_) rfl (by kernel_rfl) (by kernel_rfl) (by kernel_rfl) (fun _ _ _ h => h) (Or.inl ⟨by kernel_rfl, ?_⟩) hHeld ?_
  rotate_left
  · intro w' hSw
    (try dsimp only at hSw)
    (try simp only [List.getElem_toArray]); (try simp only [List.getElem_cons_succ]); (try simp only [List.getElem_cons_zero])
    go_simp
    try with_reducible rfl
  (try simp only [Act.put]); (try simp only [List.getElem_toArray]); (try simp only [List.getElem_cons_succ]); (try simp only [List.getElem_cons_zero]); (try simp only [List.setIfInBounds_toArray]); (try simp only [List.set_cons_succ]); (try simp only [List.set_cons_zero])
  refine wpAnyH_take (i := 12) (v := ?_) rfl (by kernel_rfl) (by kernel_rfl) (by kernel_rfl) (fun _ _ _ h => h) (Or.inl ⟨by kernel_rfl, ?_⟩) hHeld ?_
  rotate_left
  · intro w' hSw
    (try dsimp only at hSw)
    (try simp only [List.getElem_toArray]); (try simp only [List.getElem_cons_succ]); (try simp only [List.getElem_cons_zero])
    go_simp
    try with_reducible rfl
  (try simp only [Act.put]); (try simp only [List.getElem_toArray]); (try simp only [List.getElem_cons_succ]); (try simp only [List.getElem_cons_zero]); (try simp only [List.setIfInBounds_toArray]); (try simp only [List.set_cons_succ]); (try simp only [List.set_cons_zero])
  refine wpAnyH_take (i := 13) (v := ?_) rfl (by kernel_rfl) (by kernel_rfl) (by kernel_rfl) (fun _ _ _ h => h) (Or.inl ⟨by kernel_rfl, ?_⟩) hHeld ?_
  rotate_left
  · intro w' hSw
    (try dsimp only at hSw)
    (try simp only [List.getElem_toArray]); (try simp only [List.getElem_cons_succ]); (try simp only [List.getElem_cons_zero])
    go_simp
    try with_reducible rfl
  (try simp only [Act.put]); (try simp only [List.getElem_toArray]); (try simp only [List.getElem_cons_succ]); (try simp only [List.getElem_cons_zero]); (try simp only [List.setIfInBounds_toArray]); (try simp only [List.set_cons_succ]); (try simp only [List.set_cons_zero])
  refine wpAnyH_take (i := 14) (v := ?_) rfl (by kernel_rfl) (by kernel_rfl) (by kernel_rfl) (fun _ _ _ h => h) (Or.inl ⟨by kernel_rfl, ?_⟩) hHeld ?_
  rotate_left
  · intro w' hSw
    (try dsimp only at hSw)
    (try simp only [List.getElem_toArray]); (try simp only [List.getElem_cons_succ]); (try simp only [List.getElem_cons_zero])
    go_simp
    try with_reducible rfl
  (try simp only [Act.put]); (try simp only [List.getElem_toArray]); (try simp only [List.getElem_cons_succ]); (try simp only [List.getElem_cons_zero]); (try simp only [List.setIfInBounds_toArray]); (try simp only [List.set_cons_succ]); (try simp only [List.set_cons_zero])
  refine wpAnyH_ready (rs := [15]) (by kernel_rfl) (by simp) ?_
  refine AllReadyH.cons rfl (fun K hK => ?_) AllReadyH.nil
  go_simp
  obtain ⟨rowM, kA, -, -⟩ := kk_alloc kd #[.slice aA lA.length cA, .slice aB lB.length cB] 22
  have hWs : (wd.alloc (.cells #[.slice aA lA.length cA, .slice aB lB.length cB] 22)).heap.size = w.heap.size + 1 := by simp [HWD.out]
  have hgl := HM.out.lt _ HM.out.og
  have hPl2 := rowPg.lt
  refine hK.out _ _ (⟨(kA.cell hgl id).trans x0, (kA.cell hPl2 id).trans ya, (kA.cell hPl2 id).trans yb⟩) (fun hHeld => ?_)
  clear hK K
  (try simp only [Act.put]); (try simp only [List.getElem_toArray]); (try simp only [List.getElem_cons_succ]); (try simp only [List.getElem_cons_zero]); (try simp only [List.setIfInBounds_toArray]); (try simp only [List.set_cons_succ]); (try simp only [List.set_cons_zero])
  replace LA := LA.keep kA (fun _ _ h => h)
  replace LB := LB.keep kA (fun _ _ h => h)
  have HWS := Lib.hid hWs
  clear hWs x0 ya yb
  generalize wd.alloc (.cells #[.slice aA lA.length cA, .slice aB lB.length cB] 22) = wA at *
  refine wpAnyH_ready (rs := [16]) (by kernel_rfl) (by simp) ?_
  refine AllReadyH.cons rfl (fun K hK => ?_) AllReadyH.nil
  go_simp
  go_fit (concat_c _ 2 aA aB lA.length lB.length cA cB cssA.flatten cssB.flatten wA rowM hlsA hlsB LA LB hoA hoB (by omega) (by omega))
  rintro e w5 ⟨a5, c5, rfl, own5, k5⟩
  go_wp2_with fail
  refine hK.out _ _ (⟨(k5.cell (p := ⟨g, 0, none⟩) (by have := kA.size; exact Nat.lt_of_lt_of_le hgl this) id).trans hHeld.1, (k5.cell (p := ⟨bP, a, none⟩) (Nat.lt_of_lt_of_le hPl2 kA.size) id).trans hHeld.2.1, (k5.cell (p := ⟨bP, a + 1, none⟩) (Nat.lt_of_lt_of_le hPl2 kA.size) id).trans hHeld.2.2⟩) (fun hHeld => ?_)
  clear hK K
  (try simp only [Act.put]); (try simp only [List.getElem_toArray]); (try simp only [List.getElem_cons_succ]); (try simp only [List.getElem_cons_zero]); (try simp only [List.setIfInBounds_toArray]); (try simp only [List.set_cons_succ]); (try simp only [List.set_cons_zero])
  have kB := kA.trans k5
  clear k5 LA LB rowM kA hoA hoB
  refine wpAnyH_take (i := 17) (v := ?_) rfl (by kernel_rfl) (by kernel_rfl) (by kernel_rfl) (fun _ _ _ h => h) (Or.inl ⟨by kernel_rfl, ?_⟩) hHeld ?_
  rotate_left
  · intro w' hSw
    (try dsimp only at hSw)
    (try simp only [List.getElem_toArray]); (try simp only [List.getElem_cons_succ]); (try simp only [List.getElem_cons_zero])
    go_simp
    try with_reducible rfl
  (try simp only [Act.put]); (try simp only [List.getElem_toArray]); (try simp only [List.getElem_cons_succ]); (try simp only [List.getElem_cons_zero]); (try simp only [List.setIfInBounds_toArray]); (try simp only [List.set_cons_succ]); (try simp only [List.set_cons_zero])
  refine wpAnyH_done (by kernel_rfl) ?_ _
  clear hHeld
  have hsB := kB.size
  have rowP5 := rowPg.keep kB id
  have row5 := HM.out.row.keep kB id
  have M5 := HM.out.keep kB.nix (T := fun _ => False) (fun _ _ h => h)
  have pg5 : ∀ (T : Nat → Prop) (w6 : World), Keep T w5 w6 → (∀ b, T b → b = bP) → PageIs w6 B (.slice a5 (lA.length + lB.length) c5) (lA ++ lB) := fun T w6 k6 hT => by
    refine ⟨a5, c5, cssA ++ cssB, by rw [List.length_append], ?_, ?_⟩
    · rw [List.length_append, List.flatten_append]
      exact owned_keep (own_weak own5) k6 (fun b hb h => by have := (own5.lt b hb).1; have := hT b h; have := HWS.out; omega)
    · exact (HGS.out.keep rGPair_lawful kB (fun _ _ h => h)).keep rGPair_lawful k6 (fun b hb h => by have := hT b h; subst this; exact (HM.out.oB _ hb).2.2.1 rfl)
  have x5 := row5.cell 0
  (try simp only [List.getElem?_cons_zero] at x5)
  have f5 := row5.frozen 0
  have ya5 := rowP5.cell a
  rw [List.getElem?_append_left haS, List.getElem?_eq_getElem haS, HEA.out] at ya5
  have fa5 := rowP5.frozen a
  have hgP : g ≠ bP := fun e => (HM.out.oP bP rfl).2 e.symm
  have hSl := HM.out.len
  have hOP : O bP := (HM.out.oP bP rfl).1
  have hOg : O g := HM.out.og
  rcases Nat.lt_or_ge 8 (lA.length + lB.length) with h8 | h8
  · have h8' : (8 : Int) < (lA.length : Int) + (lB.length : Int) := by omega
    go_upto_region 9 with fail
    obtain ⟨n, hn⟩ : ∃ n, lA.length + lB.length = n := ⟨_, rfl⟩
    have hnI : (lA.length : Int) + (lB.length : Int) = (n : Int) := by omega
    obtain ⟨h, hh⟩ : ∃ h, n / 2 = h := ⟨_, rfl⟩
    have hhI : (n : Int) / 2 = (h : Int) := by omega
    rw [hnI, hhI]
    rw [hn] at h8 own5 pg5
    rw [hn]
    have h4 : 4 ≤ h ∧ h + 4 ≤ n ∧ h < n ∧ n ≤ 16 := by omega
    have HN := Lib.hid hn
    have HH := Lib.hid hh
    obtain ⟨b5, rest5, rfl, hb5, row55, hl55, hx55, hc55, hm55⟩ := own_row own5 (by omega)
    have ho5 := ones3 HGS.out
    rw [List.flatten_append] at ho5
    generalize hzs : cssA.flatten ++ cssB.flatten = zs at *
    have HZS : Hid ((cssA ++ cssB).flatten = zs) := by show _ = _; rw [List.flatten_append]; exact hzs
    have L5 : Lies w5 (fun _ => True) (some ⟨b5, 0, none⟩) zs := (Lies.of_owned own5).mono (fun _ _ => trivial)
    have L1 : Lies w5 (fun _ => True) (some ⟨b5, 0, none⟩) (zs.take (h * 3)) := row55.lies _ trivial (fun j u hu => by
      have hj := (List.getElem?_eq_some_iff.1 hu).1
      rw [List.length_take] at hj
      rw [List.getElem?_take_of_lt (by omega)] at hu
      rw [Nat.zero_add, List.getElem?_append_left (by omega)]; exact hu)
    have L2 : Lies w5 (fun _ => True) (some ⟨b5, h * 3, none⟩) (zs.drop (h * 3)) := row55.lies _ trivial (fun j u hu => by
      have hj := (List.getElem?_eq_some_iff.1 hu).1
      rw [List.length_drop] at hj
      rw [List.getElem?_drop] at hu
      rw [List.getElem?_append_left (by omega)]; exact hu)
    have hh0 : (0 : Int) ≤ (h : Int) := by omega
    have hhn : (h : Int) ≤ (n : Int) := by omega
    have hhc : (h : Int) ≤ (c5 : Int) := by omega
    have hch : ¬ c5 = h := by omega
    have hhn' : h ≤ n := by omega
    have HL5 := Lib.hid own5
    have HO5 := Lib.hid ho5
    have hx5l : zs.length = n * 3 := hx55
    clear hnI hhI hn hh hb5 row55 hl55 hx55 own5 L5 ho5 hzs hlsA hlsB M5 ya5 pg5
    have kd5 : Keep Nix w5 w5.drew := (Keep.refl Nix w5).drew
    refine wp_region_held_drew (S := (fun w' => w'.cell? ⟨g, 0, none⟩ = some (.slice (some ⟨bP, 0, none⟩) L.length cP))) (by kernel_rfl) (x5) (fun hHeld => ?_)
    generalize w5.drew = wd5 at *
    refine wpAnyH_take (i := 0) (v := ?_) rfl (by kernel_rfl) (by kernel_rfl) (by kernel_rfl) (fun _ _ _ h => h) (Or.inl ⟨by kernel_rfl, ?_⟩) hHeld ?_
    rotate_left
    · intro w' hSw
      (try dsimp only at hSw)
      (try simp only [List.getElem_toArray]); (try simp only [List.getElem_cons_succ]); (try simp only [List.getElem_cons_zero])
      go_simp
      try with_reducible rfl
    (try simp only [Act.put]); (try simp only [List.getElem_toArray]); (try simp only [List.getElem_cons_succ]); (try simp only [List.getElem_cons_zero]); (try simp only [List.setIfInBounds_toArray]); (try simp only [List.set_cons_succ]); (try simp only [List.set_cons_zero])
    refine wpAnyH_take (i := 1) (v := ?_) rfl (by kernel_rfl) (by kernel_rfl) (by kernel_rfl) (fun _ _ _ h => h) (Or.inl ⟨by kernel_rfl, ?_⟩) hHeld ?_
    rotate_left
    · intro w' hSw
      (try dsimp only at hSw)
      (try simp only [List.getElem_toArray]); (try simp only [List.getElem_cons_succ]); (try simp only [List.getElem_cons_zero])
      go_simp
      try with_reducible rfl
    (try simp only [Act.put]); (try simp only [List.getElem_toArray]); (try simp only [List.getElem_cons_succ]); (try simp only [List.getElem_cons_zero]); (try simp only [List.setIfInBounds_toArray]); (try simp only [List.set_cons_succ]); (try simp only [List.set_cons_zero])
    refine wpAnyH_take (i := 2) (v := ?_) rfl (by kernel_rfl) (by kernel_rfl) (by kernel_rfl) (fun _ _ _ h => h) (Or.inl ⟨by kernel_rfl, ?_⟩) hHeld ?_
    rotate_left
    · intro w' hSw
      (try dsimp only at hSw)
      (try simp only [List.getElem_toArray]); (try simp only [List.getElem_cons_succ]); (try simp only [List.getElem_cons_zero])
      go_simp
      try with_reducible rfl
    (try simp only [Act.put]); (try simp only [List.getElem_toArray]); (try simp only [List.getElem_cons_succ]); (try simp only [List.getElem_cons_zero]); (try simp only [List.setIfInBounds_toArray]); (try simp only [List.set_cons_succ]); (try simp only [List.set_cons_zero])
    refine wpAnyH_take (i := 3) (v := ?_) rfl (by kernel_rfl) (by kernel_rfl) (by kernel_rfl) (fun _ _ _ h => h) (Or.inl ⟨by kernel_rfl, ?_⟩) hHeld ?_
    rotate_left
    · intro w' hSw
      (try dsimp only at hSw)
      (try simp only [List.getElem_toArray]); (try simp only [List.getElem_cons_succ]); (try simp only [List.getElem_cons_zero])
      go_simp
      try with_reducible rfl
    (try simp only [Act.put]); (try simp only [List.getElem_toArray]); (try simp only [List.getElem_cons_succ]); (try simp only [List.getElem_cons_zero]); (try simp only [List.setIfInBounds_toArray]); (try simp only [List.set_cons_succ]); (try simp only [List.set_cons_zero])
    refine wpAnyH_take (i := 4) (v := ?_) rfl (by kernel_rfl) (by kernel_rfl) (by kernel_rfl) (fun _ _ _ h => h) (Or.inl ⟨by kernel_rfl, ?_⟩) hHeld ?_
    rotate_left
    · intro w' hSw
      (try dsimp only at hSw)
      (try simp only [List.getElem_toArray]); (try simp only [List.getElem_cons_succ]); (try simp only [List.getElem_cons_zero])
      go_simp
      try with_reducible rfl
    (try simp only [Act.put]); (try simp only [List.getElem_toArray]); (try simp only [List.getElem_cons_succ]); (try simp only [List.getElem_cons_zero]); (try simp only [List.setIfInBounds_toArray]); (try simp only [List.set_cons_succ]); (try simp only [List.set_cons_zero])
    refine wpAnyH_take (i := 5) (v := ?_) rfl (by kernel_rfl) (by kernel_rfl) (by kernel_rfl) (fun _ _ _ h => h) (Or.inl ⟨by kernel_rfl, ?_⟩) hHeld ?_
    rotate_left
    · intro w' hSw
      (try dsimp only at hSw)
      (try simp only [List.getElem_toArray]); (try simp only [List.getElem_cons_succ]); (try simp only [List.getElem_cons_zero])
      go_simp
      try with_reducible rfl
    (try simp only [Act.put]); (try simp only [List.getElem_toArray]); (try simp only [List.getElem_cons_succ]); (try simp only [List.getElem_cons_zero]); (try simp only [List.setIfInBounds_toArray]); (try simp only [List.set_cons_succ]); (try simp only [List.set_cons_zero])
    refine wpAnyH_take (i := 6) (v := ?_) rfl (by kernel_rfl) (by kernel_rfl) (by kernel_rfl) (fun _ _ _ h => h) (Or.inl ⟨by kernel_rfl, ?_⟩) hHeld ?_
    rotate_left
    · intro w' hSw
      (try dsimp only at hSw)
      (try simp only [List.getElem_toArray]); (try simp only [List.getElem_cons_succ]); (try simp only [List.getElem_cons_zero])
      go_simp
      try with_reducible rfl
    (try simp only [Act.put]); (try simp only [List.getElem_toArray]); (try simp only [List.getElem_cons_succ]); (try simp only [List.getElem_cons_zero]); (try simp only [List.setIfInBounds_toArray]); (try simp only [List.set_cons_succ]); (try simp only [List.set_cons_zero])
    refine wpAnyH_take (i := 7) (v := ?_) rfl (by kernel_rfl) (by kernel_rfl) (by kernel_rfl) (fun _ _ _ h => h) (Or.inl ⟨by kernel_rfl, ?_⟩) hHeld ?_
    rotate_left
    · intro w' hSw
      (try dsimp only at hSw)
      (try simp only [List.getElem_toArray]); (try simp only [List.getElem_cons_succ]); (try simp only [List.getElem_cons_zero])
      go_simp
      try with_reducible rfl
    (try simp only [Act.put]); (try simp only [List.getElem_toArray]); (try simp only [List.getElem_cons_succ]); (try simp only [List.getElem_cons_zero]); (try simp only [List.setIfInBounds_toArray]); (try simp only [List.set_cons_succ]); (try simp only [List.set_cons_zero])
    refine wpAnyH_take (i := 8) (v := ?_) rfl (by kernel_rfl) (by kernel_rfl) (by kernel_rfl) (fun _ _ _ h => h) (Or.inl ⟨by kernel_rfl, ?_⟩) hHeld ?_
    rotate_left
    · intro w' hSw
      (try dsimp only at hSw)
      (try simp only [List.getElem_toArray]); (try simp only [List.getElem_cons_succ]); (try simp only [List.getElem_cons_zero])
      go_simp
      try with_reducible rfl
    (try simp only [Act.put]); (try simp only [List.getElem_toArray]); (try simp only [List.getElem_cons_succ]); (try simp only [List.getElem_cons_zero]); (try simp only [List.setIfInBounds_toArray]); (try simp only [List.set_cons_succ]); (try simp only [List.set_cons_zero])
    refine wpAnyH_take (i := 9) (v := ?_) rfl (by kernel_rfl) (by kernel_rfl) (by kernel_rfl) (fun _ _ _ h => h) (Or.inl ⟨by kernel_rfl, ?_⟩) hHeld ?_
    rotate_left
    · intro w' hSw
      (try dsimp only at hSw)
      (try simp only [List.getElem_toArray]); (try simp only [List.getElem_cons_succ]); (try simp only [List.getElem_cons_zero])
      go_simp
      try with_reducible rfl
    (try simp only [Act.put]); (try simp only [List.getElem_toArray]); (try simp only [List.getElem_cons_succ]); (try simp only [List.getElem_cons_zero]); (try simp only [List.setIfInBounds_toArray]); (try simp only [List.set_cons_succ]); (try simp only [List.set_cons_zero])
    refine wpAnyH_take (i := 10) (v := ?_) rfl (by kernel_rfl) (by kernel_rfl) (by kernel_rfl) (fun _ _ _ h => h) (Or.inl ⟨by kernel_rfl, ?_⟩) hHeld ?_
    rotate_left
    · intro w' hSw
      (try dsimp only at hSw)
      (try simp only [List.getElem_toArray]); (try simp only [List.getElem_cons_succ]); (try simp only [List.getElem_cons_zero])
      go_simp
      try with_reducible rfl
    (try simp only [Act.put]); (try simp only [List.getElem_toArray]); (try simp only [List.getElem_cons_succ]); (try simp only [List.getElem_cons_zero]); (try simp only [List.setIfInBounds_toArray]); (try simp only [List.set_cons_succ]); (try simp only [List.set_cons_zero])
    refine wpAnyH_take (i := 11) (v := ?_) rfl (by kernel_rfl) (by kernel_rfl) (by kernel_rfl) (fun _ _ _ h => h) (Or.inl ⟨by kernel_rfl, ?_⟩) hHeld ?_
    rotate_left
    · intro w' hSw
      (try dsimp only at hSw)
      (try simp only [List.getElem_toArray]); (try simp only [List.getElem_cons_succ]); (try simp only [List.getElem_cons_zero])
      go_simp
      try with_reducible rfl
    (try simp only [Act.put]); (try simp only [List.getElem_toArray]); (try simp only [List.getElem_cons_succ]); (try simp only [List.getElem_cons_zero]); (try simp only [List.setIfInBounds_toArray]); (try simp only [List.set_cons_succ]); (try simp only [List.set_cons_zero])
    refine wpAnyH_take (i := 12) (v := ?_) rfl (by kernel_rfl) (by kernel_rfl) (by kernel_rfl) (fun _ _ _ h => h) (Or.inl ⟨by kernel_rfl, ?_⟩) hHeld ?_
    rotate_left
    · intro w' hSw
      (try dsimp only at hSw)
      (try simp only [List.getElem_toArray]); (try simp only [List.getElem_cons_succ]); (try simp only [List.getElem_cons_zero])
      go_simp
      try with_reducible rfl
    (try simp only [Act.put]); (try simp only [List.getElem_toArray]); (try simp only [List.getElem_cons_succ]); (try simp only [List.getElem_cons_zero]); (try simp only [List.setIfInBounds_toArray]); (try simp only [List.set_cons_succ]); (try simp only [List.set_cons_zero])
    refine wpAnyH_take (i := 13) (v := ?_) rfl (by kernel_rfl) (by kernel_rfl) (by kernel_rfl) (fun _ _ _ h => h) (Or.inl ⟨by kernel_rfl, ?_⟩) hHeld ?_
    rotate_left
    · intro w' hSw
      (try dsimp only at hSw)
      (try simp only [List.getElem_toArray]); (try simp only [List.getElem_cons_succ]); (try simp only [List.getElem_cons_zero])
      go_simp
      try with_reducible rfl
    (try simp only [Act.put]); (try simp only [List.getElem_toArray]); (try simp only [List.getElem_cons_succ]); (try simp only [List.getElem_cons_zero]); (try simp only [List.setIfInBounds_toArray]); (try simp only [List.set_cons_succ]); (try simp only [List.set_cons_zero])
    refine wpAnyH_take (i := 15) (v := ?_) rfl (by kernel_rfl) (by kernel_rfl) (by kernel_rfl) (fun _ _ _ h => h) (Or.inl ⟨by kernel_rfl, ?_⟩) hHeld ?_
    rotate_left
    · intro w' hSw
      (try dsimp only at hSw)
      (try simp only [List.getElem_toArray]); (try simp only [List.getElem_cons_succ]); (try simp only [List.getElem_cons_zero])
      go_simp
      try with_reducible rfl
    (try simp only [Act.put]); (try simp only [List.getElem_toArray]); (try simp only [List.getElem_cons_succ]); (try simp only [List.getElem_cons_zero]); (try simp only [List.setIfInBounds_toArray]); (try simp only [List.set_cons_succ]); (try simp only [List.set_cons_zero])
    refine wpAnyH_take (i := 16) (v := ?_) rfl (by kernel_rfl) (by kernel_rfl) (by kernel_rfl) (fun _ _ _ h => h) (Or.inl ⟨by kernel_rfl, ?_⟩) hHeld ?_
    rotate_left
    · intro w' hSw
      (try dsimp only at hSw)
      (try simp only [List.getElem_toArray]); (try simp only [List.getElem_cons_succ]); (try simp only [List.getElem_cons_zero])
      go_simp
      try with_reducible rfl
    (try simp only [Act.put]); (try simp only [List.getElem_toArray]); (try simp only [List.getElem_cons_succ]); (try simp only [List.getElem_cons_zero]); (try simp only [List.setIfInBounds_toArray]); (try simp only [List.set_cons_succ]); (try simp only [List.set_cons_zero])
    refine wpAnyH_take (i := 17) (v := ?_) rfl (by kernel_rfl) (by kernel_rfl) (by kernel_rfl) (fun _ _ _ h => h) (Or.inl ⟨by kernel_rfl, ?_⟩) hHeld ?_
    rotate_left
    · intro w' hSw
      (try dsimp only at hSw)
      (try simp only [List.getElem_toArray]); (try simp only [List.getElem_cons_succ]); (try simp only [List.getElem_cons_zero])
      go_simp
      try with_reducible rfl
    (try simp only [Act.put]); (try simp only [List.getElem_toArray]); (try simp only [List.getElem_cons_succ]); (try simp only [List.getElem_cons_zero]); (try simp only [List.setIfInBounds_toArray]); (try simp only [List.set_cons_succ]); (try simp only [List.set_cons_zero])
    refine wpAnyH_ready (rs := [14]) (by kernel_rfl) (by simp) ?_
    refine AllReadyH.cons rfl (fun K hK => ?_) AllReadyH.nil
    go_simp
    go_fit (clP_c ⟨b5, 0, none⟩ h c5 (zs.take (h * 3)) wd5 (by rw [List.length_take]; omega) (L1.keep kd5 (fun _ _ h => h)) (fun u hu => HO5.out u (List.mem_of_mem_take hu)) (by omega))
    rintro e w6 ⟨a6, c6, rfl, own6, k6⟩
    go_wp2_with fail
    have kB6 := kd5.trans k6
    refine hK.out _ _ ((kB6.cell row5.lt id).trans x5) (fun hHeld => ?_)
    clear hK K
    (try simp only [Act.put]); (try simp only [List.getElem_toArray]); (try simp only [List.getElem_cons_succ]); (try simp only [List.getElem_cons_zero]); (try simp only [List.setIfInBounds_toArray]); (try simp only [List.set_cons_succ]); (try simp only [List.set_cons_zero])
    clear k6 L1
    refine wpAnyH_ready (rs := [18]) (by kernel_rfl) (by simp) ?_
    refine AllReadyH.cons rfl (fun K hK => ?_) AllReadyH.nil
    go_simp
    go_fit (clP_c ⟨b5, h * 3, none⟩ (n - h) (c5 - h) (zs.drop (h * 3)) w6 (by rw [List.length_drop]; omega) (L2.keep kB6 (fun _ _ h => h)) (fun u hu => HO5.out u (List.mem_of_mem_drop hu)) (by omega))
    rintro e w7 ⟨a7, c7, rfl, own7, k7⟩
    go_wp2_with fail
    have kB7 := kB6.trans k7
    refine hK.out _ _ ((kB7.cell row5.lt id).trans x5) (fun hHeld => ?_)
    clear hK K
    (try simp only [Act.put]); (try simp only [List.getElem_toArray]); (try simp only [List.getElem_cons_succ]); (try simp only [List.getElem_cons_zero]); (try simp only [List.setIfInBounds_toArray]); (try simp only [List.set_cons_succ]); (try simp only [List.set_cons_zero])
    clear L2
    have rowP7 := rowP5.keep kB7 id
    have y7 := rowP7.cell a
    rw [List.getElem?_append_left haS, List.getElem?_eq_getElem haS] at y7
    have f7 := rowP7.frozen a
    refine wpAnyH_take (i := 19) (v := ?_) rfl (by kernel_rfl) (by kernel_rfl) (by kernel_rfl) (fun _ _ _ h => h) (Or.inl ⟨by kernel_rfl, ?_⟩) hHeld ?_
    rotate_left
    · intro w' hSw
      (try dsimp only at hSw)
      (try simp only [List.getElem_toArray]); (try simp only [List.getElem_cons_succ]); (try simp only [List.getElem_cons_zero])
      go_simp
      try with_reducible rfl
    (try simp only [Act.put]); (try simp only [List.getElem_toArray]); (try simp only [List.getElem_cons_succ]); (try simp only [List.getElem_cons_zero]); (try simp only [List.setIfInBounds_toArray]); (try simp only [List.set_cons_succ]); (try simp only [List.set_cons_zero])
    refine wpAnyH_ready (rs := [20]) (by kernel_rfl) (by simp) ?_
    refine AllReadyH.cons rfl (fun K hK => ?_) AllReadyH.nil
    go_simp
    have k8 : Keep (· = bP) w7 (w7.setCell ⟨bP, a, none⟩ (.slice a6 h c6)) := (Keep.refl (· = bP) w7).setCell (p := ⟨bP, a, none⟩) (fun _ => rfl) _
    refine hK.out _ _ ((k8.cell (p := ⟨g, 0, none⟩) (Nat.lt_of_lt_of_le row5.lt kB7.size) hgP).trans ((kB7.cell row5.lt id).trans x5)) (fun hHeld => ?_)
    clear hK K
    (try simp only [Act.put]); (try simp only [List.getElem_toArray]); (try simp only [List.getElem_cons_succ]); (try simp only [List.getElem_cons_zero]); (try simp only [List.setIfInBounds_toArray]); (try simp only [List.set_cons_succ]); (try simp only [List.set_cons_zero])
    have rowP8 := rowP7.set a (.slice a6 h c6)
    have y8 := rowP8.cell (a + 1)
    rw [List.set_append_left _ _ haS, List.getElem?_append_left (by rw [List.length_set]; exact hbS), List.getElem?_eq_getElem (by rw [List.length_set]; exact hbS)] at y8
    have f8 := rowP8.frozen (a + 1)
    refine wpAnyH_take (i := 21) (v := ?_) rfl (by kernel_rfl) (by kernel_rfl) (by kernel_rfl) (fun _ _ _ h => h) (Or.inl ⟨by kernel_rfl, ?_⟩) hHeld ?_
    rotate_left
    · intro w' hSw
      (try dsimp only at hSw)
      (try simp only [List.getElem_toArray]); (try simp only [List.getElem_cons_succ]); (try simp only [List.getElem_cons_zero])
      go_simp
      try with_reducible rfl
    (try simp only [Act.put]); (try simp only [List.getElem_toArray]); (try simp only [List.getElem_cons_succ]); (try simp only [List.getElem_cons_zero]); (try simp only [List.setIfInBounds_toArray]); (try simp only [List.set_cons_succ]); (try simp only [List.set_cons_zero])
    refine wpAnyH_ready (rs := [22]) (by kernel_rfl) (by simp) ?_
    refine AllReadyH.cons rfl (fun K hK => ?_) AllReadyH.nil
    go_simp
    have k9 : Keep (· = bP) (w7.setCell ⟨bP, a, none⟩ (.slice a6 h c6)) ((w7.setCell ⟨bP, a, none⟩ (.slice a6 h c6)).setCell ⟨bP, a + 1, none⟩ (.slice a7 (n - h) c7)) := (Keep.refl (· = bP) _).setCell (p := ⟨bP, a + 1, none⟩) (fun _ => rfl) _
    refine hK.out _ _ ((k9.cell (p := ⟨g, 0, none⟩) (Nat.lt_of_lt_of_le row5.lt (Nat.le_trans kB7.size k8.size)) hgP).trans ((k8.cell (p := ⟨g, 0, none⟩) (Nat.lt_of_lt_of_le row5.lt kB7.size) hgP).trans ((kB7.cell row5.lt id).trans x5))) (fun hHeld => ?_)
    clear hK K
    (try simp only [Act.put]); (try simp only [List.getElem_toArray]); (try simp only [List.getElem_cons_succ]); (try simp only [List.getElem_cons_zero]); (try simp only [List.setIfInBounds_toArray]); (try simp only [List.set_cons_succ]); (try simp only [List.set_cons_zero])
    refine wpAnyH_done (by kernel_rfl) ?_ _
    clear hHeld y7 f7 f8
    go_wp2_with fail
    go_end0
    have h3 := HGS.out.lens3
    have hbl : (lA ++ lB).length = n := by rw [List.length_append]; exact HN.out
    have hz1 : zs.take (h * 3) = ((cssA ++ cssB).take h).flatten := by rw [← HZS.out]; exact flat_take3 h3 h
    have hz2 : zs.drop (h * 3) = ((cssA ++ cssB).drop h).flatten := by rw [← HZS.out]; exact flat_drop3 h3 h
    have hl1 : ((lA ++ lB).take h).length = h := by rw [List.length_take]; omega
    have hl2 : ((lA ++ lB).drop h).length = n - h := by rw [List.length_drop]; omega
    rw [hz1] at own6
    rw [hz2] at own7
    have hnB : ∀ b, B b → b ≠ bP := fun b hb e => by subst e; exact (HM.out.oB _ hb).2.2.1 rfl
    have hs6 := kB6.size
    have h6b : ∀ b, OwnB (.slice a6 h c6) b → w.heap.size ≤ b ∧ b < w6.heap.size := fun b hb => ⟨by have := (own6.lt b hb).1; have := kd5.size; omega, (own6.lt b hb).2⟩
    have h7b : ∀ b, OwnB (.slice a7 (n - h) c7) b → w6.heap.size ≤ b := fun b hb => (own7.lt b hb).1
    have hw6 := kB.trans kB6
    have kv : Keep (· = bP) w6 (w6.setCell ⟨bP, a, none⟩ (.slice a6 h c6)) := (Keep.refl (· = bP) w6).setCell (p := ⟨bP, a, none⟩) (fun _ => rfl) _
    have rowPv := (rowP5.keep kB6 id).set a (.slice a6 h c6)
    rw [List.set_append_left _ _ haS] at rowPv
    have hnc := (owned_bounds HM.out.own).2.1
    have ownv := row_own (base := 0) (sz := 1) (n := L.length) (cap := cP) rowPv (Nat.zero_le _) (by rw [List.length_append, List.length_set, ← List.length_append]; exact hPl) (by rw [List.length_set]; omega) hnc hcP
    have Pv : PageIs (w6.setCell ⟨bP, a, none⟩ (.slice a6 h c6)) B (.slice a6 h c6) ((lA ++ lB).take h) :=
      ⟨a6, c6, (cssA ++ cssB).take h, by rw [hl1], by rw [hl1]; exact owned_keep (own_weak own6) kv (fun b hb e => by have := h6b b hb; omega), ((HGS.out.takeN h).keep rGPair_lawful hw6 (fun _ _ h => h)).keep rGPair_lawful kv hnB⟩
    have Mv := HM.out.setPage hax (hw6.nix.trans kv) (fun b hb => .inl (by rw [hb]; rfl)) ownv Pv (fun b hb => .inr (h6b b hb).1) (fun _ h => h) (fun b hb => .inl hb)
    have kB9 : Keep (· = bP) (w6.setCell ⟨bP, a, none⟩ (.slice a6 h c6)) ((w7.setCell ⟨bP, a, none⟩ (.slice a6 h c6)).setCell ⟨bP, a + 1, none⟩ (.slice a7 (n - h) c7)) := (((Keep.back_set w6 ⟨bP, a, none⟩ (.slice a6 h c6)).trans k7.nix).trans k8).trans k9
    have rowP9 := (rowP7.set a (.slice a6 h c6)).set (a + 1) (.slice a7 (n - h) c7)
    rw [List.set_append_left _ _ haS, List.set_append_left _ _ (by rw [List.length_set]; exact hbS)] at rowP9
    have own9 := row_own (base := 0) (sz := 1) (n := L.length) (cap := cP) rowP9 (Nat.zero_le _) (by rw [List.length_append, List.length_set, List.length_set, ← List.length_append]; exact hPl) (by rw [List.length_set, List.length_set]; omega) hnc hcP
    have k79 := k8.trans k9
    have P9 : PageIs ((w7.setCell ⟨bP, a, none⟩ (.slice a6 h c6)).setCell ⟨bP, a + 1, none⟩ (.slice a7 (n - h) c7)) B (.slice a7 (n - h) c7) ((lA ++ lB).drop h) :=
      ⟨a7, c7, (cssA ++ cssB).drop h, by rw [hl2], by rw [hl2]; exact owned_keep (own_weak own7) k79 (fun b hb e => by have := h7b b hb; omega), ((HGS.out.dropN h).keep rGPair_lawful (hw6.trans k7) (fun _ _ h => h)).keep rGPair_lawful k79 hnB⟩
    have hLs : (L.set a ((lA ++ lB).take h)).length = L.length := List.length_set
    have hsv : (w6.setCell ⟨bP, a, none⟩ (.slice a6 h c6)).heap.size = w6.heap.size := by simp [World.setCell]
    have M9 := Mv.setPage (i := a + 1) (by rw [hLs]; exact hal) kB9 (fun b hb => .inl (by rw [hb, hLs]; rfl)) (by rw [hLs]; exact own9) P9 (fun b hb => .inr (by rw [hsv]; exact h7b b hb)) (fun _ h => h) (fun b hb => .inl hb)
    have h2F : twoF (lA ++ lB) = [(lA ++ lB).take h, (lA ++ lB).drop h] := by unfold twoF; rw [if_neg (by omega), hbl, HH.out]
    rw [halve_eq hal] at M9
    rw [HLA.out, HLB.out, h2F]
    exact ⟨rfl, _, _, _, _, _, M9, fun b hb => by
      rcases hb with hb | hb
      · exact hb.imp id (·.1)
      · exact .inr (by have := hb.1; have := hw6.size; omega), ((hw6.trans k7).nix.trans k79).mono (fun b hb => by rw [hb]; exact hOP)⟩
  · have h8' : (lA.length : Int) + (lB.length : Int) ≤ 8 := by omega
    obtain ⟨v, hv⟩ : ∃ v, Value.slice a5 (lA.length + lB.length) c5 = v := ⟨_, rfl⟩
    have k6 : Keep (· = bP) w5 (w5.setCell ⟨bP, a, none⟩ (.slice a5 (lA.length + lB.length) c5)) := (Keep.refl (· = bP) w5).setCell (p := ⟨bP, a, none⟩) (fun _ => rfl) _
    have P6 := pg5 _ _ k6 (fun _ h => h)
    have rowP6 := rowP5.set a (.slice a5 (lA.length + lB.length) c5)
    rw [List.set_append_left _ _ haS] at rowP6
    have own6 := row_own (base := 0) (sz := 1) (n := L.length) (cap := cP) rowP6 (Nat.zero_le _) (by rw [List.length_append, List.length_set, ← List.length_append]; exact hPl) (by rw [List.length_set]; omega) (owned_bounds HM.out.own).2.1 hcP
    have M6 := HM.out.setPage hax (kB.nix.trans k6) (fun b hb => .inl (by rw [hb]; rfl)) own6 P6 (fun b hb => .inr (by have := (own5.lt b hb).1; have := HWS.out; omega)) (fun _ h => h) (fun b hb => .inl hb)
    have x6 := (k6.cell (p := ⟨g, 0, none⟩) row5.lt hgP).trans x5
    have e1 : ((a + 1 : Nat) : Int) = (a : Int) + 1 := by omega
    have e2 : ((a + 1 + 1 : Nat) : Int) = (a : Int) + 2 := by omega
    have hD := Delete_cB _ 0 L.length cP (a + 1) (a + 1 + 1) rfl (some ⟨bP, 0, none⟩) _ own6 (fun u hu => by
      rcases List.mem_or_eq_of_mem_set hu with h | rfl
      · exact HM.out.ones u h
      · rfl) hal
    rw [e1, e2] at hD
    have hw2 : IntKind.i64.wrap ((a : Int) + 2) = (a : Int) + 2 := by rw [IntKind.wrap_i64]; omega
    have HM6 := Lib.hid M6
    have row6 := row5.keep k6 hgP
    clear M5 M6 own6 P6 rowP6 pg5 hv e1 e2 rowP5 rowPg own5
    go_wp2_with fail
    go_fit hD
    clear hD
    rintro e w7 ⟨rfl, own7, k7⟩
    have row7 := row6.keep k7 (fun h => by have e : some bP = some g := h; cases e; exact hgP rfl)
    have x7 := row7.cell 0
    (try simp only [List.getElem?_cons_zero] at x7)
    have f7 := row7.frozen 0
    clear x6 x5 f5 ya5 fa5
    go_wp2_with fail
    refine bodyPost_ret (results_none rfl _ _ _) rfl ?_
    have kS : Keep (· = g) w7 (w7.setCell ⟨g, 0, none⟩ (.slice (some ⟨bP, 0, none⟩) (L.length - 1) cP)) := (Keep.refl (· = g) w7).setCell (p := ⟨g, 0, none⟩) (fun _ => rfl) _
    have row8 := row7.set 0 (.slice (some ⟨bP, 0, none⟩) (L.length - 1) cP)
    have own8 := owned_keep own7 kS (fun b hb e => by have e2 : some bP = some b := hb; cases e2; exact hgP e.symm)
    have k78 : Keep (fun b => b = bP ∨ b = g) (w5.setCell ⟨bP, a, none⟩ (.slice a5 (lA.length + lB.length) c5)) (w7.setCell ⟨g, 0, none⟩ (.slice (some ⟨bP, 0, none⟩) (L.length - 1) cP)) := (k7.mono (fun b hb => by have e2 : some bP = some b := hb; cases e2; exact .inl rfl)).trans (kS.mono (fun b hb => .inr hb))
    have hl2 : (L.set a (lA ++ lB)).length = L.length := List.length_set
    have M8 := HM6.out.delPage (j := a + 1) (by rw [hl2]; exact hal) k78 (fun b hb => by
      rw [hl2]
      rcases hb with rfl | rfl
      · exact .inl rfl
      · exact .inr rfl) (by rw [hl2]; exact row8) (by rw [hl2]; exact own8)
    rw [merge_eq hal] at M8
    have h2F : twoF (lA ++ lB) = [lA ++ lB] := by unfold twoF; rw [if_pos (by rw [List.length_append]; exact h8)]
    rw [HLA.out, HLB.out, h2F]
    exact ⟨rfl, _, _, _, _, _, M8, fun b hb => hb.imp id (·.1), (kB.nix.trans (k6.mono (fun b hb => by rw [hb]; exact hOP))).trans (k78.mono (fun b hb => by rcases hb with rfl | rfl; exact hOP; exact hOg))⟩
end Go.Proofs.Ythkocgpbpgfocaa
