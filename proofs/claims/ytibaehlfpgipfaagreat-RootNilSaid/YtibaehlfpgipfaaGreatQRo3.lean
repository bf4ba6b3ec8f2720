/- ROOT: catalog, Routes. Printed by mac.py. -/
import Derived.Test.YtibaehlfpgipfaaGreatQRo2
namespace Go.Proofs.YtibaehlfpgipfaaGreat
open Go.RowKit

theorem own_row {w : World} {base e sz n cap : Nat} {a : Option Addr} {xs : List Value} (h : w.ownsRow base e sz (.slice a n cap) n xs) (h0 : 0 < n) : ∃ b rest, a = some ⟨b, 0, none⟩ ∧ base ≤ b ∧ RowIs w b e (xs ++ rest) ∧ (xs ++ rest).length = cap * sz ∧ xs.length = n * sz ∧ n ≤ cap ∧ cap ≤ maxLen := by
  have hx := h.1
  obtain ⟨-, h1, h2⟩ := owned_bounds h
  cases a with
  | none =>
    rcases h.2 with ⟨h3, h4⟩ | ⟨g, cap', cur, h3, _⟩
    · omega
    · cases h3
  | some a =>
    obtain ⟨b, rest, rfl, h3, h4, h5⟩ := RowIs.of_owned h
    exact ⟨b, rest, rfl, h3, h4, h5, hx, h1, h2⟩
def lastC (R : RootS) : GCatalog := R.cats.getLast?.getD cat1
set_option maxRecDepth 100000 in
set_option maxHeartbeats 2000000 in
theorem catalog_c (O : Nat → Prop) (g n : Nat) (R : RootS) (w : World) (H : IsRoot w O g n R) :
    Calls Tryz.prog 23 #[.pointer (some ⟨g, 0, none⟩)] w (Ret rGCatalog w (lastC R)) := by
  have hinfo : (Tryz.prog.info? 50).map (·.size) = some 4 := by kernel_rfl
  have H0 := Lib.hid H.lt
  have kA : Keep Nix w (w.alloc (.cells #[.int .i64 0, .int .i64 0, .slice none 0 0, .slice none 0 0] 50)) := (Keep.refl Nix w).alloc _
  have rowZ : RowIs (w.alloc (.cells #[.int .i64 0, .int .i64 0, .slice none 0 0, .slice none 0 0] 50)) w.heap.size 50 [.int .i64 0, .int .i64 0, .slice none 0 0, .slice none 0 0] := RowIs.alloc w _ _
  obtain ⟨lt, og, ok, bM, aC, cC, aO, cO, aS, cS, aU, cU, cssC, D, B⟩ := H.nix kA
  have hpos : 0 < R.cats.length := List.length_pos_iff.2 ok.ex
  obtain ⟨m, hm⟩ : ∃ m, R.cats.length = m + 1 := ⟨R.cats.length - 1, by omega⟩
  have hlen := ok.len.1
  have hmlt : m < R.cats.length := by omega
  have hlast : lastC R = R.cats[m] := by
    unfold lastC
    rw [List.getLast?_eq_getElem?, hm, Nat.add_sub_cancel, List.getElem?_eq_getElem hmlt]
    rfl
  have hsm := ok.small _ (List.getElem_mem hmlt)
  have hmc : m < cssC.length := by rw [B.els.1]; exact hmlt
  have hel := B.els.2 m _ _ (List.getElem?_eq_getElem hmc) (List.getElem?_eq_getElem hmlt)
  have hce : cssC[m]? = some cssC[m] := List.getElem?_eq_getElem hmc
  obtain ⟨b, rest, rfl, hb, rowb, hlr, hlx, hc, hmx⟩ := own_row B.rowC hpos
  have hob := B.oC b rfl
  have rowX := B.row
  have hcl : ∀ d ∈ cssC, d.length = 4 := by
    intro d hd
    obtain ⟨i, hi, rfl⟩ := List.mem_iff_getElem.1 hd
    exact rGCatalog_lawful.len (B.els.2 i _ (R.cats[i]'(by rw [← B.els.1]; exact hi)) (List.getElem?_eq_getElem hi) (List.getElem?_eq_getElem _))
  rw [hlast]
  generalize hcc : R.cats[m] = c at *
  generalize cssC[m] = cm at *
  have hel2 := hel
  obtain ⟨aT, cT, aX, cX, rfl, -⟩ := rGCatalog_open hel
  have hcell : ∀ j u, ([.int .i64 c.fVersion, .int .i64 c.fNext, .slice aT c.fTables.length cT, .slice aX c.fIndexes.length cX] : List Value)[j]? = some u → (cssC.flatten ++ rest)[m * 4 + j]? = some u := fun j u hu => by
    have := flat_at cssC hcl m _ hce j u hu
    rw [List.getElem?_append_left (List.getElem?_eq_some_iff.1 this).1]
    exact this
  have HM := Lib.hid hm
  have kd : Keep Nix (w.alloc (.cells #[.int .i64 0, .int .i64 0, .slice none 0 0, .slice none 0 0] 50)) ((w.alloc (.cells #[.int .i64 0, .int .i64 0, .slice none 0 0, .slice none 0 0] 50))).drew := (Keep.refl Nix _).drew
  have HSS : Hid (∀ w', Keep Nix (w.alloc (.cells #[.int .i64 0, .int .i64 0, .slice none 0 0, .slice none 0 0] 50)) w' → w'.cell? ⟨g, 1, none⟩ = some (.slice (some ⟨b, 0, none⟩) R.cats.length cC) ∧ w'.cell? ⟨b, m * 4, none⟩ = some (.int .i64 c.fVersion) ∧ w'.cell? ⟨b, m * 4 + 1, none⟩ = some (.int .i64 c.fNext) ∧ w'.cell? ⟨b, m * 4 + 2, none⟩ = some (.slice aT c.fTables.length cT) ∧ w'.cell? ⟨b, m * 4 + 3, none⟩ = some (.slice aX c.fIndexes.length cX)) := fun w' k => by
    have r1 := rowX.keep k id
    have r2 := rowb.keep k id
    exact ⟨by simpa using r1.cell 1, (r2.cell (m * 4)).trans (hcell 0 _ rfl), (r2.cell (m * 4 + 1)).trans (hcell 1 _ rfl), (r2.cell (m * 4 + 2)).trans (hcell 2 _ rfl), (r2.cell (m * 4 + 3)).trans (hcell 3 _ rfl)⟩
  have hi0 : (0 : Int) ≤ (m : Int) := by omega
  have hi1 : (m : Int) < (R.cats.length : Int) := by omega
  have hsub : IntKind.i64.wrap ((R.cats.length : Int) - 1) = (m : Int) := by rw [IntKind.wrap_i64]; omega
  have HO := Lib.hid (fun w' (k : Keep Nix (w.alloc (.cells #[.int .i64 0, .int .i64 0, .slice none 0 0, .slice none 0 0] 50)) w') => Own_c c [.int .i64 c.fVersion, .int .i64 c.fNext, .slice aT c.fTables.length cT, .slice aX c.fIndexes.length cX] w' (rGCatalog_lawful.nix hel2 k) hsm.1)
  have HRZ := Lib.hid rowZ
  clear hel hel2 hcell hce hcl hlr hlx rowb rowX B rowZ hm hmc hcc hlast
  go_enter Tryz.func23, Tryz.ntmps23
  go_upto_region 1 with fail
  refine wp_region_held_drew (S := (fun w' => w'.cell? ⟨g, 1, none⟩ = some (.slice (some ⟨b, 0, none⟩) R.cats.length cC) ∧ w'.cell? ⟨b, m * 4, none⟩ = some (.int .i64 c.fVersion) ∧ w'.cell? ⟨b, m * 4 + 1, none⟩ = some (.int .i64 c.fNext) ∧ w'.cell? ⟨b, m * 4 + 2, none⟩ = some (.slice aT c.fTables.length cT) ∧ w'.cell? ⟨b, m * 4 + 3, none⟩ = some (.slice aX c.fIndexes.length cX))) (by kernel_rfl) (HSS.out _ kd) (fun hHeld => ?_)
  have HRZ := Lib.hid (HRZ.out.keep kd id)
  have HO := Lib.hid (fun w' (k : Keep Nix ((w.alloc (.cells #[.int .i64 0, .int .i64 0, .slice none 0 0, .slice none 0 0] 50))).drew w') => HO.out w' (kd.trans k))
  have HSS := Lib.hid (fun w' (k : Keep Nix ((w.alloc (.cells #[.int .i64 0, .int .i64 0, .slice none 0 0, .slice none 0 0] 50))).drew w') => HSS.out w' (kd.trans k))
  have kk : Keep Nix w ((w.alloc (.cells #[.int .i64 0, .int .i64 0, .slice none 0 0, .slice none 0 0] 50))).drew := kA.trans kd
  have hsz : Hid (w.heap.size < ((w.alloc (.cells #[.int .i64 0, .int .i64 0, .slice none 0 0, .slice none 0 0] 50))).drew.heap.size) := HRZ.out.lt
  clear kd kA
  generalize ((w.alloc (.cells #[.int .i64 0, .int .i64 0, .slice none 0 0, .slice none 0 0] 50))).drew = w2 at *
  refine wpAnyH_take (i := 0) (v := ?_) rfl (by kernel_rfl) (by kernel_rfl) (by kernel_rfl) (fun _ _ _ h => h) (Or.inl ⟨by kernel_rfl, ?_⟩) hHeld ?_
  rotate_left
  · intro w' hSw
    (try dsimp only at hSw)
    (try simp only [List.getElem_toArray]); (try simp only [List.getElem_cons_succ]); (try simp only [List.getElem_cons_zero])
    go_simp
    try with_reducible rfl
  (try simp only [Act.put]); (try simp only [List.getElem_toArray]); (try simp only [List.getElem_cons_succ]); (try simp only [List.getElem_cons_zero]); (try simp only [List.setIfInBounds_toArray]); (try simp only [List.set_cons_succ]); (try simp only [List.set_cons_zero])
  refine wpAnyH_take (i := 1) (v := ?_) rfl (by kernel_rfl) (by kernel_rfl) (by kernel_rfl) (fun _ _ _ h => h) (Or.inl ⟨by kernel_rfl, ?_⟩) hHeld ?_
  rotate_left
  · intro w' hSw
    (try dsimp only at hSw)
    (try simp only [List.getElem_toArray]); (try simp only [List.getElem_cons_succ]); (try simp only [List.getElem_cons_zero])
    go_simp
    try with_reducible rfl
  (try simp only [Act.put]); (try simp only [List.getElem_toArray]); (try simp only [List.getElem_cons_succ]); (try simp only [List.getElem_cons_zero]); (try simp only [List.setIfInBounds_toArray]); (try simp only [List.set_cons_succ]); (try simp only [List.set_cons_zero])
  refine wpAnyH_take (i := 2) (v := ?_) rfl (by kernel_rfl) (by kernel_rfl) (by kernel_rfl) (fun _ _ _ h => h) (Or.inl ⟨by kernel_rfl, ?_⟩) hHeld ?_
  rotate_left
  · intro w' hSw
    (try dsimp only at hSw)
    (try simp only [List.getElem_toArray]); (try simp only [List.getElem_cons_succ]); (try simp only [List.getElem_cons_zero])
    go_simp
    try with_reducible rfl
  (try simp only [Act.put]); (try simp only [List.getElem_toArray]); (try simp only [List.getElem_cons_succ]); (try simp only [List.getElem_cons_zero]); (try simp only [List.setIfInBounds_toArray]); (try simp only [List.set_cons_succ]); (try simp only [List.set_cons_zero])
  refine wpAnyH_take (i := 3) (v := ?_) rfl (by kernel_rfl) (by kernel_rfl) (by kernel_rfl) (fun _ _ _ h => h) (Or.inl ⟨by kernel_rfl, ?_⟩) hHeld ?_
  rotate_left
  · intro w' hSw
    (try dsimp only at hSw)
    (try simp only [List.getElem_toArray]); (try simp only [List.getElem_cons_succ]); (try simp only [List.getElem_cons_zero])
    go_simp
    try with_reducible rfl
  (try simp only [Act.put]); (try simp only [List.getElem_toArray]); (try simp only [List.getElem_cons_succ]); (try simp only [List.getElem_cons_zero]); (try simp only [List.setIfInBounds_toArray]); (try simp only [List.set_cons_succ]); (try simp only [List.set_cons_zero])
  refine wpAnyH_take (i := 4) (v := ?_) rfl (by kernel_rfl) (by kernel_rfl) (by kernel_rfl) (fun _ _ _ h => h) (Or.inl ⟨by kernel_rfl, ?_⟩) hHeld ?_
  rotate_left
  · intro w' hSw
    (try dsimp only at hSw)
    (try simp only [List.getElem_toArray]); (try simp only [List.getElem_cons_succ]); (try simp only [List.getElem_cons_zero])
    go_simp
    try with_reducible rfl
  (try simp only [Act.put]); (try simp only [List.getElem_toArray]); (try simp only [List.getElem_cons_succ]); (try simp only [List.getElem_cons_zero]); (try simp only [List.setIfInBounds_toArray]); (try simp only [List.set_cons_succ]); (try simp only [List.set_cons_zero])
  refine wpAnyH_take (i := 5) (v := ?_) rfl (by kernel_rfl) (by kernel_rfl) (by kernel_rfl) (fun _ _ _ h => h) (Or.inl ⟨by kernel_rfl, ?_⟩) hHeld ?_
  rotate_left
  · intro w' hSw
    (try dsimp only at hSw)
    (try simp only [List.getElem_toArray]); (try simp only [List.getElem_cons_succ]); (try simp only [List.getElem_cons_zero])
    go_simp
    try with_reducible rfl
  (try simp only [Act.put]); (try simp only [List.getElem_toArray]); (try simp only [List.getElem_cons_succ]); (try simp only [List.getElem_cons_zero]); (try simp only [List.setIfInBounds_toArray]); (try simp only [List.set_cons_succ]); (try simp only [List.set_cons_zero])
  refine wpAnyH_take (i := 6) (v := ?_) rfl (by kernel_rfl) (by kernel_rfl) (by kernel_rfl) (fun _ _ _ h => h) (Or.inl ⟨by kernel_rfl, ?_⟩) hHeld ?_
  rotate_left
  · intro w' hSw
    (try dsimp only at hSw)
    (try simp only [List.getElem_toArray]); (try simp only [List.getElem_cons_succ]); (try simp only [List.getElem_cons_zero])
    go_simp
    try with_reducible rfl
  (try simp only [Act.put]); (try simp only [List.getElem_toArray]); (try simp only [List.getElem_cons_succ]); (try simp only [List.getElem_cons_zero]); (try simp only [List.setIfInBounds_toArray]); (try simp only [List.set_cons_succ]); (try simp only [List.set_cons_zero])
  refine wpAnyH_take (i := 7) (v := ?_) rfl (by kernel_rfl) (by kernel_rfl) (by kernel_rfl) (fun _ _ _ h => h) (Or.inl ⟨by kernel_rfl, ?_⟩) hHeld ?_
  rotate_left
  · intro w' hSw
    (try dsimp only at hSw)
    (try simp only [List.getElem_toArray]); (try simp only [List.getElem_cons_succ]); (try simp only [List.getElem_cons_zero])
    go_simp
    try with_reducible rfl
  (try simp only [Act.put]); (try simp only [List.getElem_toArray]); (try simp only [List.getElem_cons_succ]); (try simp only [List.getElem_cons_zero]); (try simp only [List.setIfInBounds_toArray]); (try simp only [List.set_cons_succ]); (try simp only [List.set_cons_zero])
  refine wpAnyH_take (i := 8) (v := ?_) rfl (by kernel_rfl) (by kernel_rfl) (by kernel_rfl) (fun _ _ _ h => h) (Or.inl ⟨by kernel_rfl, ?_⟩) hHeld ?_
  rotate_left
  · intro w' hSw
    (try dsimp only at hSw)
    (try simp only [List.getElem_toArray]); (try simp only [List.getElem_cons_succ]); (try simp only [List.getElem_cons_zero])
    go_simp
    try with_reducible rfl
  (try simp only [Act.put]); (try simp only [List.getElem_toArray]); (try simp only [List.getElem_cons_succ]); (try simp only [List.getElem_cons_zero]); (try simp only [List.setIfInBounds_toArray]); (try simp only [List.set_cons_succ]); (try simp only [List.set_cons_zero])
  refine wpAnyH_take (i := 9) (v := ?_) rfl (by kernel_rfl) (by kernel_rfl) (by kernel_rfl) (fun _ _ _ h => h) (Or.inl ⟨by kernel_rfl, ?_⟩) hHeld ?_
  rotate_left
  · intro w' hSw
    (try dsimp only at hSw)
    (try simp only [List.getElem_toArray]); (try simp only [List.getElem_cons_succ]); (try simp only [List.getElem_cons_zero])
    go_simp
    try with_reducible rfl
  (try simp only [Act.put]); (try simp only [List.getElem_toArray]); (try simp only [List.getElem_cons_succ]); (try simp only [List.getElem_cons_zero]); (try simp only [List.setIfInBounds_toArray]); (try simp only [List.set_cons_succ]); (try simp only [List.set_cons_zero])
  refine wpAnyH_take (i := 10) (v := ?_) rfl (by kernel_rfl) (by kernel_rfl) (by kernel_rfl) (fun _ _ _ h => h) (Or.inl ⟨by kernel_rfl, ?_⟩) hHeld ?_
  rotate_left
  · intro w' hSw
    (try dsimp only at hSw)
    (try simp only [List.getElem_toArray]); (try simp only [List.getElem_cons_succ]); (try simp only [List.getElem_cons_zero])
    go_simp
    try with_reducible rfl
  (try simp only [Act.put]); (try simp only [List.getElem_toArray]); (try simp only [List.getElem_cons_succ]); (try simp only [List.getElem_cons_zero]); (try simp only [List.setIfInBounds_toArray]); (try simp only [List.set_cons_succ]); (try simp only [List.set_cons_zero])
  refine wpAnyH_take (i := 11) (v := ?_) rfl (by kernel_rfl) (by kernel_rfl) (by kernel_rfl) (fun _ _ _ h => h) (Or.inl ⟨by kernel_rfl, ?_⟩) hHeld ?_
  rotate_left
  · intro w' hSw
    (try dsimp only at hSw)
    (try simp only [List.getElem_toArray]); (try simp only [List.getElem_cons_succ]); (try simp only [List.getElem_cons_zero])
    go_simp
    try with_reducible rfl
  (try simp only [Act.put]); (try simp only [List.getElem_toArray]); (try simp only [List.getElem_cons_succ]); (try simp only [List.getElem_cons_zero]); (try simp only [List.setIfInBounds_toArray]); (try simp only [List.set_cons_succ]); (try simp only [List.set_cons_zero])
  have HC := Lib.hid (HO.out w2 (Keep.refl _ _))
  refine wpAnyH_ready (rs := [12]) (by kernel_rfl) (by simp) ?_
  refine AllReadyH.cons rfl (fun K hK => ?_) AllReadyH.nil
  (try simp only [List.getElem_toArray]); (try simp only [List.getElem_cons_succ]); (try simp only [List.getElem_cons_zero])
  go_simp
  go_fit HC.out
  rintro e w3 ⟨cn, rfl, rn, k3⟩
  clear HC
  go_wp2_with fail
  refine hK.out _ _ ((HSS.out _ k3)) (fun hHeld => ?_)
  clear hK K
  (try simp only [Act.put]); (try simp only [List.getElem_toArray]); (try simp only [List.getElem_cons_succ]); (try simp only [List.getElem_cons_zero]); (try simp only [List.setIfInBounds_toArray]); (try simp only [List.set_cons_succ]); (try simp only [List.set_cons_zero])
  have rn2 := rn
  obtain ⟨bT, dT, bX, dX, rfl, -⟩ := rGCatalog_open rn
  have rowZ := HRZ.out.keep k3 id
  have z0 := rowZ.cell 0
  (try simp only [List.getElem?_cons_zero] at z0)
  have z1 := rowZ.cell 1
  (try simp only [List.getElem?_cons_succ] at z1); (try simp only [List.getElem?_cons_zero] at z1)
  have z2 := rowZ.cell 2
  (try simp only [List.getElem?_cons_succ] at z2); (try simp only [List.getElem?_cons_zero] at z2)
  have z3 := rowZ.cell 3
  (try simp only [List.getElem?_cons_succ] at z3); (try simp only [List.getElem?_cons_zero] at z3)
  have zf0 := rowZ.frozen 0
  have zf1 := rowZ.frozen 1
  have zf2 := rowZ.frozen 2
  have zf3 := rowZ.frozen 3
  have kS : Keep (· = w.heap.size) w3 ((((w3.setCell ⟨w.heap.size, 0, none⟩ (.int .i64 c.fVersion)).setCell ⟨w.heap.size, 1, none⟩ (.int .i64 c.fNext)).setCell ⟨w.heap.size, 2, none⟩ (.slice bT c.fTables.length dT)).setCell ⟨w.heap.size, 3, none⟩ (.slice bX c.fIndexes.length dX)) := ((((Keep.refl (· = w.heap.size) w3).setCell (p := ⟨w.heap.size, 0, none⟩) (fun _ => rfl) _).setCell (p := ⟨w.heap.size, 1, none⟩) (fun _ => rfl) _).setCell (p := ⟨w.heap.size, 2, none⟩) (fun _ => rfl) _).setCell (p := ⟨w.heap.size, 3, none⟩) (fun _ => rfl) _
  have rowR : RowIs ((((w3.setCell ⟨w.heap.size, 0, none⟩ (.int .i64 c.fVersion)).setCell ⟨w.heap.size, 1, none⟩ (.int .i64 c.fNext)).setCell ⟨w.heap.size, 2, none⟩ (.slice bT c.fTables.length dT)).setCell ⟨w.heap.size, 3, none⟩ (.slice bX c.fIndexes.length dX)) w.heap.size 50 [.int .i64 c.fVersion, .int .i64 c.fNext, .slice bT c.fTables.length dT, .slice bX c.fIndexes.length dX] := (((rowZ.set 0 (.int .i64 c.fVersion)).set 1 (.int .i64 c.fNext)).set 2 (.slice bT c.fTables.length dT)).set 3 (.slice bX c.fIndexes.length dX)
  have HZR := Lib.hid rowR
  clear rn rowR rowZ HO
  refine wpAnyH_ready (rs := [13]) (by kernel_rfl) (by simp) ?_
  refine AllReadyH.cons rfl (fun K hK => ?_) AllReadyH.nil
  (try simp only [List.getElem_toArray]); (try simp only [List.getElem_cons_succ]); (try simp only [List.getElem_cons_zero])
  go_simp
  have hH := hHeld
  have hbw : b ≠ w.heap.size ∧ g ≠ w.heap.size := by
    have := H0.out b hob.1
    have := H0.out g og
    omega
  refine hK.out _ _ (⟨(kS.cell (by have := hsz.out; have := k3.size; have := H0.out g og; show g < _; omega) hbw.2).trans hH.1, (kS.cell (by have := hsz.out; have := k3.size; have := H0.out b hob.1; show b < _; omega) hbw.1).trans hH.2.1, (kS.cell (by have := hsz.out; have := k3.size; have := H0.out b hob.1; show b < _; omega) hbw.1).trans hH.2.2.1, (kS.cell (by have := hsz.out; have := k3.size; have := H0.out b hob.1; show b < _; omega) hbw.1).trans hH.2.2.2.1, (kS.cell (by have := hsz.out; have := k3.size; have := H0.out b hob.1; show b < _; omega) hbw.1).trans hH.2.2.2.2⟩) (fun hHeld => ?_)
  clear hK K
  (try simp only [Act.put]); (try simp only [List.getElem_toArray]); (try simp only [List.getElem_cons_succ]); (try simp only [List.getElem_cons_zero]); (try simp only [List.setIfInBounds_toArray]); (try simp only [List.set_cons_succ]); (try simp only [List.set_cons_zero])
  refine wpAnyH_done (by kernel_rfl) ?_ _
  clear hHeld hH z0 z1 z2 z3 zf0 zf1 zf2 zf3
  go_wp2_with fail
  refine bodyPost_ret (results_cell_row (by rfl) _ _ _ _ _ _ _ (by rfl) HZR.out Tryz.underlying50 (by rfl) hinfo) rfl ?_
  have hsS := kS.size
  have hsz1 := hsz.out
  have hkk := kk.size
  exact ⟨[.int .i64 c.fVersion, .int .i64 c.fNext, .slice bT c.fTables.length dT, .slice bX c.fIndexes.length dX], rfl, rGCatalog_lawful.mono (rGCatalog_lawful.keep rn2 kS (fun b hb e => by have := hb.1; omega)) (fun b hb => ⟨by have := hb.1; omega, by have := hb.2; omega⟩), (kk.trans k3).then kS (fun i hi e => by omega)⟩
end Go.Proofs.YtibaehlfpgipfaaGreat
