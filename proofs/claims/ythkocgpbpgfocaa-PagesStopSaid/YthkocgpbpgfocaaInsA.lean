/- slices.Insert of one element (A). Printed by genIns.py and mac.py. -/
import Derived.Test.YthkocgpbpgfocaaCpR
import Derived.Test.YthkocgpbpgfocaaOpens
import Derived.Deep.RegionHeld3
import Derived.Deep.DeepCutAuto
import Derived.Deep.CutBlock
namespace Go.Proofs.Ythkocgpbpgfocaa
open Go.RowKit

set_option maxHeartbeats 4000000 in
set_option maxRecDepth 100000 in
theorem Ins_endA (w : World) (base g n c b1 : Nat) (xs xc : List Value) (own : w.ownsRow base 29 3 (.slice (some ⟨g, 0, none⟩) n c) n xs) (rowX : RowIs w b1 29 xc) (hxc : xc.length = 3) (h1 : ∀ u ∈ xc, u.oneCell' = true) (hn : n ≤ 1000000) (hb : base ≤ w.heap.size) :
    Calls Try.prog 32 #[.slice (some ⟨g, 0, none⟩) n c, .int .i64 n, .slice (some ⟨b1, 0, none⟩) 1 1] w (InsR 29 3 w base (.slice (some ⟨g, 0, none⟩) n c) n (xs ++ xc)) := by
  obtain ⟨i, z, hi, hz, hsz, hby, hzs⟩ := T_lPair.info
  have hnc : n ≤ c := (owned_bounds own).2.1
  have hr : ∀ ty, ∃ v' w', (Builtin.append_ #[22, 22] ty #[.slice (some ⟨g, 0, none⟩) n c, .slice (some ⟨b1, 0, none⟩) 1 1]).run Try.prog w = .ok v' w' ∧ InsR 29 3 w base (.slice (some ⟨g, 0, none⟩) n c) n (xs ++ xc) (.returned v') w' := fun ty => by
    obtain ⟨v', w', hrun, hown', hg, -, hf⟩ := run_append_own_at (P := Try.prog) w base 22 ty 29 i z 3 56 T_lPair.under hi hz hsz hby hzs T_lPair.pos _ n xs own ⟨b1, 0, none⟩ 1 1 xc (by omega) (fun j u hu => by
      rw [Addr.add_lit, rowX.cell, Nat.zero_add]; exact hu) h1 (by unfold maxLen; omega) (by omega) hb
    obtain ⟨a', cap', rfl⟩ := owned_shape hown'
    refine ⟨_, _, hrun, _, rfl, hown', fun b hb => ?_, (Keep.refl _ w).grown hg (fun k hk _ => hk)⟩
    rcases hf with h | h
    · left; have hb' : (Value.slice a' (n + 1) cap').ownBlock = some b := hb; rw [h] at hb'; exact hb'
    · right; have hb' : (Value.slice a' (n + 1) cap').ownBlock = some b := hb; rw [h] at hb'; cases hb'; exact Nat.le_refl _
  obtain ⟨v', w', hrun, hI⟩ := hr 22
  have HI := Lib.hid hI
  clear hr own rowX h1 hi hz hsz hby hzs hI
  by_cases hcn : c = n
  · subst hcn
    go_enter Try.func32, Try.ntmps32
    go_wp2_with (at_builtin; refine Lib.wpList_append_run _ rfl _ _ _ _ rfl _ _ rfl rfl _ _ hrun ?_)
    go_ret
    exact HI.out
  · go_enter Try.func32, Try.ntmps32
    go_wp2_with (at_builtin; refine Lib.wpList_append_run _ rfl _ _ _ _ rfl _ _ rfl rfl _ _ hrun ?_)
    go_ret
    exact HI.out
set_option maxHeartbeats 4000000 in
set_option maxRecDepth 100000 in
theorem Ins_roomA (w : World) (base g n c k b1 : Nat) (xs rest xc : List Value) (row : RowIs w g 29 (xs ++ rest)) (hxs : xs.length = n * 3) (hrl : (xs ++ rest).length = c * 3) (ho : ∀ u ∈ xs, u.oneCell' = true) (rowX : RowIs w b1 29 xc) (hxc : xc.length = 3) (h1 : ∀ u ∈ xc, u.oneCell' = true) (hbg : b1 ≠ g) (hn : n ≤ 1000000) (hk : k < n) (hroom : n + 1 ≤ c) (hbg0 : base ≤ g) (hcm : c ≤ maxLen) :
    Calls Try.prog 32 #[.slice (some ⟨g, 0, none⟩) n c, .int .i64 k, .slice (some ⟨b1, 0, none⟩) 1 1] w (InsR 29 3 w base (.slice (some ⟨g, 0, none⟩) n c) n (xs.take (k * 3) ++ xc ++ xs.drop (k * 3))) := by
  obtain ⟨i, z, hi, hz, hsz, hby, hzs⟩ := T_lPair.info
  have hsz2 : (Try.prog.info? 29).map (·.size) = some 3 := by rw [hi]; simp [hsz]
  have hov : ∀ lb cb, (callFunc 48 #[.slice (some ⟨b1, 0, none⟩) 1 1, .slice (some ⟨g, ((k + 1) * 3), none⟩) lb cb]).run Try.prog w = .ok (.value (.bool false)) w := fun lb cb => by
    rw [run_callFunc_extern Try.func48 (by kernel_rfl) (by kernel_rfl) (by kernel_rfl) (e := Extern.SlicesOverlaps.overlaps #[22, 22] #[4]) (by kernel_rfl),
      Lib.run_overlaps_apart w 22 4 29 T_lPair.under 3 (fun w => by simp [sizeOf, typeInfo, hi, hsz]) ⟨b1, 0, none⟩ ⟨g, ((k + 1) * 3), none⟩ 1 1 lb cb hbg 29 29 _ _ rowX.shape row.shape (by rw [hrl]; omega) (rowX.frozen 0) (rowX.frozen _)]
    rfl
  obtain ⟨A, B, hA, hB⟩ : ∃ A B, xs.take (k * 3) = A ∧ xs.drop (k * 3) = B := ⟨_, _, rfl, rfl⟩
  have hab : xs = A ++ B := by rw [← hA, ← hB, List.take_append_drop]
  have hAl : A.length = k * 3 := by rw [← hA, List.length_take]; omega
  have hBl : B.length = (n - k) * 3 := by rw [← hB, List.length_drop]; omega
  have hRl : 3 ≤ rest.length := by rw [List.length_append] at hrl; omega
  rw [hA, hB]
  subst hab
  have rowD : RowIs w.drew g 29 (A ++ B ++ rest) := row
  have hoB : ∀ u ∈ B, u.oneCell' = true := fun u hu => ho u (List.mem_append_right _ hu)
  have hl3 : (A ++ B ++ rest).length = c * 3 := hrl
  have hcp1 : ∀ ty dc sc, (Builtin.copy_ #[22, 22] ty #[.slice (some ⟨g, ((k + 1) * 3), none⟩) (n + 1 - (k + 1)) dc, .slice (some ⟨g, k * 3, none⟩) (n + 1 - k) sc]).run Try.prog w.drew = .ok (goInt ((n - k : Nat) : Int)) (w.drew.setRow g ((A ++ B ++ rest).take (k * 3 + 3) ++ B ++ (A ++ B ++ rest).drop (k * 3 + 3 + B.length)).toArray) := fun ty dc sc => by
    have h := run_copy_sz (P := Try.prog) w.drew 22 22 ty 29 3 g (((k + 1) * 3)) (n + 1 - (k + 1)) dc ⟨g, k * 3, none⟩ (n + 1 - k) sc (n - k) (A ++ B ++ rest) 29 B T_lPair.under hsz2 rowD (by simp only [Nat.min_def]; split <;> omega) hBl (fun j u hu => by
      rw [Addr.add_lit, rowD.cell, List.append_assoc, List.getElem?_append_right (by omega), hAl, Nat.add_sub_cancel_left, List.getElem?_append_left (List.getElem?_eq_some_iff.1 hu).1]; exact hu) (by rw [hl3, hBl]; omega) hoB
    rw [show ((k + 1) * 3) = k * 3 + 3 by omega] at h ⊢
    exact h
  obtain ⟨R2, hR2⟩ : ∃ R2, (A ++ B ++ rest).take (k * 3 + 3) ++ B ++ (A ++ B ++ rest).drop (k * 3 + 3 + B.length) = R2 := ⟨_, rfl⟩
  rw [hR2] at hcp1
  have row2 : RowIs (w.drew.setRow g R2.toArray) g 29 R2 := rowD.setRow' 
  have kk2 : Keep (· = g) w (w.drew.setRow g R2.toArray) := (Keep.refl (· = g) w).drew.setRow (fun _ => rfl) _
  have rowX2 : RowIs (w.drew.setRow g R2.toArray) b1 29 xc := rowX.keep kk2 hbg
  have hl2 : R2.length = c * 3 := by rw [← hR2]; simp only [List.length_append, List.length_take, List.length_drop] at *; omega
  obtain ⟨R3, hR3⟩ : ∃ R3, R2.take (k * 3) ++ xc ++ R2.drop (k * 3 + xc.length) = R3 := ⟨_, rfl⟩
  have hcp2 : ∀ ty dc, (Builtin.copy_ #[22, 22] ty #[.slice (some ⟨g, k * 3, none⟩) (n + 1 - k) dc, .slice (some ⟨b1, 0, none⟩) 1 1]).run Try.prog (w.drew.setRow g R2.toArray) = .ok (goInt ((1 : Nat) : Int)) ((w.drew.setRow g R2.toArray).setRow g R3.toArray) := fun ty dc => by
    have h := run_copy_sz (P := Try.prog) (w.drew.setRow g R2.toArray) 22 22 ty 29 3 g (k * 3) (n + 1 - k) dc ⟨b1, 0, none⟩ 1 1 1 R2 29 xc T_lPair.under hsz2 row2 (by simp only [Nat.min_def]; split <;> omega) hxc (fun j u hu => by
      rw [Addr.add_lit, rowX2.cell, Nat.zero_add]; exact hu) (by rw [hl2, hxc]; omega) h1
    rw [hR3] at h
    exact h
  have row3 : RowIs ((w.drew.setRow g R2.toArray).setRow g R3.toArray) g 29 (A ++ xc ++ B ++ rest.drop 3) := by
    have e3 : A ++ xc ++ B ++ rest.drop 3 = R3 := by rw [← hR3, ← hR2, room_list hAl hRl hxc]
    rw [e3]
    exact row2.setRow'
  have kk3 : Keep (· = g) w ((w.drew.setRow g R2.toArray).setRow g R3.toArray) := kk2.setRow (fun _ => rfl) _
  have hOB : ∀ i, OwnB (.slice (some ⟨g, 0, none⟩) (n + 1) c) i → OwnB (.slice (some ⟨g, 0, none⟩) n c) i ∨ w.heap.size ≤ i := fun i h => .inl h
  have HI : Hid (InsR 29 3 w base (.slice (some ⟨g, 0, none⟩) n c) n (A ++ xc ++ B) (.returned (.slice (some ⟨g, 0, none⟩) (n + 1) c)) ((w.drew.setRow g R2.toArray).setRow g R3.toArray)) := ⟨_, rfl, row_own row3 hbg0 (by simp only [List.length_append, List.length_drop] at *; omega) (by simp only [List.length_append] at *; omega) hroom hcm, hOB, kk3.mono (fun i e => by rw [e]; rfl)⟩
  have hck : ¬ c = k := by omega
  have hck1 : ¬ c = k + 1 := by omega
  have hkn : ¬ (k : Int) = (n : Int) := by omega
  have hkn2 : ((k : Int) == (n : Int)) = false := by simp; omega
  have hw1 : IntKind.i64.wrap ((n : Int) + 1) = (n : Int) + 1 := by unfold IntKind.wrap; simp [IntKind.bits, IntKind.signed]; omega
  have hw2 : IntKind.i64.wrap ((k : Int) + 1) = (k : Int) + 1 := by unfold IntKind.wrap; simp [IntKind.bits, IntKind.signed]; omega
  have hr1 : (n : Int) + 1 ≤ (c : Int) := by omega
  have hn1 : ((n : Int) + 1).toNat = n + 1 := by omega
  have hn2 : ((k : Int) + 1).toNat = k + 1 := by omega
  have hb1 : (0 : Int) ≤ (n : Int) + 1 := by omega
  have hb2 : (0 : Int) ≤ (k : Int) + 1 := by omega
  have hb3 : (k : Int) ≤ (n : Int) := by omega
  have hb4 : (k : Int) + 1 ≤ (n : Int) + 1 := by omega
  have hb5 : (k : Int) ≤ (n : Int) + 1 := by omega
  have hkn3 : k ≤ n := by omega
  have hkn4 : ¬ k = n := by omega
  clear hi hz hsz hby hzs row rowD rowX rowX2 row2 row3 kk2 kk3 ho h1 hoB hR3 hR2 hA hB hsz2 hOB
  go_enter Try.func32, Try.ntmps32
  go_upto_region 14 with fail
  go_wp2_with (simp only [hov])
  refine wp_region_held_drew (S := (fun _ => True)) (by kernel_rfl) (trivial) (fun hHeld => ?_)
  refine wpAnyH_take (i := 0) (v := ?_) rfl (by kernel_rfl) (by kernel_rfl) (by kernel_rfl) (fun _ _ _ h => h) (Or.inl ⟨by kernel_rfl, ?_⟩) hHeld ?_
  rotate_left
  · intro w' hSw
    (try dsimp only at hSw)
    (try simp only [List.getElem_toArray]); (try simp only [List.getElem_cons_succ]); (try simp only [List.getElem_cons_zero])
    go_simp
    try with_reducible rfl
  (try simp only [Act.put]); (try simp only [List.getElem_toArray]); (try simp only [List.getElem_cons_succ]); (try simp only [List.getElem_cons_zero]); (try simp only [List.setIfInBounds_toArray]); (try simp only [List.set_cons_succ]); (try simp only [List.set_cons_zero])
  refine wpAnyH_take (i := 1) (v := ?_) rfl (by kernel_rfl) (by kernel_rfl) (by kernel_rfl) (fun _ _ _ h => h) (Or.inl ⟨by kernel_rfl, ?_⟩) hHeld ?_
  rotate_left
  · intro w' hSw
    (try dsimp only at hSw)
    (try simp only [List.getElem_toArray]); (try simp only [List.getElem_cons_succ]); (try simp only [List.getElem_cons_zero])
    go_simp
    try with_reducible rfl
  (try simp only [Act.put]); (try simp only [List.getElem_toArray]); (try simp only [List.getElem_cons_succ]); (try simp only [List.getElem_cons_zero]); (try simp only [List.setIfInBounds_toArray]); (try simp only [List.set_cons_succ]); (try simp only [List.set_cons_zero])
  refine wpAnyH_take (i := 2) (v := ?_) rfl (by kernel_rfl) (by kernel_rfl) (by kernel_rfl) (fun _ _ _ h => h) (Or.inl ⟨by kernel_rfl, ?_⟩) hHeld ?_
  rotate_left
  · intro w' hSw
    (try dsimp only at hSw)
    (try simp only [List.getElem_toArray]); (try simp only [List.getElem_cons_succ]); (try simp only [List.getElem_cons_zero])
    go_simp
    try with_reducible rfl
  (try simp only [Act.put]); (try simp only [List.getElem_toArray]); (try simp only [List.getElem_cons_succ]); (try simp only [List.getElem_cons_zero]); (try simp only [List.setIfInBounds_toArray]); (try simp only [List.set_cons_succ]); (try simp only [List.set_cons_zero])
  refine wpAnyH_take (i := 3) (v := ?_) rfl (by kernel_rfl) (by kernel_rfl) (by kernel_rfl) (fun _ _ _ h => h) (Or.inl ⟨by kernel_rfl, ?_⟩) hHeld ?_
  rotate_left
  · intro w' hSw
    (try dsimp only at hSw)
    (try simp only [List.getElem_toArray]); (try simp only [List.getElem_cons_succ]); (try simp only [List.getElem_cons_zero])
    go_simp
    try with_reducible rfl
  (try simp only [Act.put]); (try simp only [List.getElem_toArray]); (try simp only [List.getElem_cons_succ]); (try simp only [List.getElem_cons_zero]); (try simp only [List.setIfInBounds_toArray]); (try simp only [List.set_cons_succ]); (try simp only [List.set_cons_zero])
  refine wpAnyH_take (i := 4) (v := ?_) rfl (by kernel_rfl) (by kernel_rfl) (by kernel_rfl) (fun _ _ _ h => h) (Or.inl ⟨by kernel_rfl, ?_⟩) hHeld ?_
  rotate_left
  · intro w' hSw
    (try dsimp only at hSw)
    (try simp only [List.getElem_toArray]); (try simp only [List.getElem_cons_succ]); (try simp only [List.getElem_cons_zero])
    go_simp
    try with_reducible rfl
  (try simp only [Act.put]); (try simp only [List.getElem_toArray]); (try simp only [List.getElem_cons_succ]); (try simp only [List.getElem_cons_zero]); (try simp only [List.setIfInBounds_toArray]); (try simp only [List.set_cons_succ]); (try simp only [List.set_cons_zero])
  refine wpAnyH_take (i := 5) (v := ?_) rfl (by kernel_rfl) (by kernel_rfl) (by kernel_rfl) (fun _ _ _ h => h) (Or.inl ⟨by kernel_rfl, ?_⟩) hHeld ?_
  rotate_left
  · intro w' hSw
    (try dsimp only at hSw)
    (try simp only [List.getElem_toArray]); (try simp only [List.getElem_cons_succ]); (try simp only [List.getElem_cons_zero])
    go_simp
    try with_reducible rfl
  (try simp only [Act.put]); (try simp only [List.getElem_toArray]); (try simp only [List.getElem_cons_succ]); (try simp only [List.getElem_cons_zero]); (try simp only [List.setIfInBounds_toArray]); (try simp only [List.set_cons_succ]); (try simp only [List.set_cons_zero])
  refine wpAnyH_take (i := 6) (v := ?_) rfl (by kernel_rfl) (by kernel_rfl) (by kernel_rfl) (fun _ _ _ h => h) (Or.inl ⟨by kernel_rfl, ?_⟩) hHeld ?_
  rotate_left
  · intro w' hSw
    (try dsimp only at hSw)
    (try simp only [List.getElem_toArray]); (try simp only [List.getElem_cons_succ]); (try simp only [List.getElem_cons_zero])
    go_simp
    try with_reducible rfl
  (try simp only [Act.put]); (try simp only [List.getElem_toArray]); (try simp only [List.getElem_cons_succ]); (try simp only [List.getElem_cons_zero]); (try simp only [List.setIfInBounds_toArray]); (try simp only [List.set_cons_succ]); (try simp only [List.set_cons_zero])
  refine wpAnyH_take (i := 7) (v := ?_) rfl (by kernel_rfl) (by kernel_rfl) (by kernel_rfl) (fun _ _ _ h => h) (Or.inl ⟨by kernel_rfl, ?_⟩) hHeld ?_
  rotate_left
  · intro w' hSw
    (try dsimp only at hSw)
    (try simp only [List.getElem_toArray]); (try simp only [List.getElem_cons_succ]); (try simp only [List.getElem_cons_zero])
    go_simp
    try with_reducible rfl
  (try simp only [Act.put]); (try simp only [List.getElem_toArray]); (try simp only [List.getElem_cons_succ]); (try simp only [List.getElem_cons_zero]); (try simp only [List.setIfInBounds_toArray]); (try simp only [List.set_cons_succ]); (try simp only [List.set_cons_zero])
  refine wpAnyH_ready (rs := [8]) (by kernel_rfl) (by simp) ?_
  refine AllReadyH.cons rfl (fun K hK => ?_) AllReadyH.nil
  refine step_copy_run rfl _ _ 22 22 rfl _ _ (by simp [Act.eval]; rfl) (by simp [Act.eval]; rfl) (hcp1 _ _ _) ?_
  refine hK.out _ _ (trivial) (fun hHeld => ?_)
  clear hK K
  (try simp only [Act.put]); (try simp only [List.getElem_toArray]); (try simp only [List.getElem_cons_succ]); (try simp only [List.getElem_cons_zero]); (try simp only [List.setIfInBounds_toArray]); (try simp only [List.set_cons_succ]); (try simp only [List.set_cons_zero])
  refine wpAnyH_done (by kernel_rfl) ?_ _
  clear hHeld
  go_wp2_with (at_builtin; refine wpl_copy_run _ rfl _ _ 22 22 rfl _ _ rfl rfl (hcp2 _ _) ?_)
  go_ret
  exact HI.out
set_option maxHeartbeats 4000000 in
set_option maxRecDepth 100000 in
theorem Ins_growA (w : World) (base g n k b1 : Nat) (xs rest xc : List Value) (row : RowIs w g 29 (xs ++ rest)) (hxs : xs.length = n * 3) (ho : ∀ u ∈ xs, u.oneCell' = true) (rowX : RowIs w b1 29 xc) (hxc : xc.length = 3) (h1 : ∀ u ∈ xc, u.oneCell' = true) (hn : n ≤ 1000000) (hk : k < n) (hbw : base ≤ w.heap.size) :
    Calls Try.prog 32 #[.slice (some ⟨g, 0, none⟩) n n, .int .i64 k, .slice (some ⟨b1, 0, none⟩) 1 1] w (InsR 29 3 w base (.slice (some ⟨g, 0, none⟩) n n) n (xs.take (k * 3) ++ xc ++ xs.drop (k * 3))) := by
  obtain ⟨i, z, hi, hz, hsz, hby, hzs⟩ := T_lPair.info
  have hsz2 : (Try.prog.info? 29).map (·.size) = some 3 := by rw [hi]; simp [hsz]
  obtain ⟨A, B, hA, hB⟩ : ∃ A B, xs.take (k * 3) = A ∧ xs.drop (k * 3) = B := ⟨_, _, rfl, rfl⟩
  have hab : xs = A ++ B := by rw [← hA, ← hB, List.take_append_drop]
  have hAl : A.length = k * 3 := by rw [← hA, List.length_take]; omega
  have hBl : B.length = (n - k) * 3 := by rw [← hB, List.length_drop]; omega
  rw [hA, hB]
  subst hab
  have hoB : ∀ u ∈ B, u.oneCell' = true := fun u hu => ho u (List.mem_append_right _ hu)
  have hold : (Builtin.firstCells i.size k (.slice (some ⟨g, 0, none⟩) k n)).run Try.prog w.drew = .ok A.toArray w.drew :=
    run_firstCells_some (P := Try.prog) w.drew i.size k ⟨g, 0, none⟩ k n A (by rw [hsz]; exact hAl) (fun j u hu => by
      rw [Addr.add_lit, Nat.zero_add, World.cell?_drew, row.cell, List.append_assoc, List.getElem?_append_left (List.getElem?_eq_some_iff.1 hu).1]; exact hu)
  have hkk : (n : Int) + 1 - (k : Int) = ((n + 1 - k : Nat) : Int) := by omega
  obtain ⟨G, Z, hG, hG2, hZ, hrz⟩ : ∃ G Z, n + 1 ≤ G ∧ G ≤ 9223372036854775807 ∧ Z.length = (G - k) * 3 ∧ ∀ ty, (Builtin.append_ #[22, 3] ty #[.slice (some ⟨g, 0, none⟩) k n, .int .i64 ((n : Int) + 1 - (k : Int))]).run Try.prog w = .ok (.slice (some ⟨w.heap.size, 0, none⟩) (n + 1) G) (w.drew.alloc (.cells (A ++ Z).toArray 29)) := by
    refine ⟨grownCap w (n + 1) n 29, (Builtin.zeroCells z.cells (n + 1 - k) ++ Builtin.zeroCells z.cells (grownCap w (n + 1) n 29 - (n + 1))).toList, grownCap_ge _ _ _ _, ?_, ?_, fun ty => ?_⟩
    · have := grownCap_le_maxLen w (n + 1) n 29 (by unfold maxLen; omega)
      unfold maxLen at this
      omega
    · have := grownCap_ge w (n + 1) n 29
      simp [Builtin.zeroCells, hzs]; omega
    · have hik : k + (n + 1 - k) = n + 1 := by omega
      have h := Lib.run_append_grow_zeros w 22 3 ty 29 i z .i64 .i64 T_lPair.under Try.underlying3 hi hz (some ⟨g, 0, none⟩) k n A hold (n + 1 - k) (by omega) (by rw [hsz]; omega) (by omega) (by omega) (by rw [hby]; omega) (by rw [hby, hik]; exact growslice_fits (by omega) (by omega))
      rw [hik] at h
      rw [hkk, h]
      congr 3
      simp
  obtain ⟨gN, hgN⟩ : ∃ gN, w.heap.size = gN := ⟨_, rfl⟩
  have rowN : RowIs (w.drew.alloc (.cells (A ++ Z).toArray 29)) w.drew.heap.size 29 (A ++ Z) := RowIs.alloc w.drew _ _
  have kN : Keep Nix w (w.drew.alloc (.cells (A ++ Z).toArray 29)) := ((Keep.refl Nix w).drew).alloc _
  have hdz : w.drew.heap.size = w.heap.size := rfl
  rw [hdz, hgN] at rowN
  rw [hgN] at hrz
  have hgg : g < gN := by rw [← hgN]; exact row.lt
  have hbg1 : b1 < gN := by rw [← hgN]; exact rowX.lt
  replace row := row.keep kN id
  replace rowX := rowX.keep kN id
  obtain ⟨W1, hW1⟩ : ∃ W1, w.drew.alloc (.cells (A ++ Z).toArray 29) = W1 := ⟨_, rfl⟩
  rw [hW1] at hrz row rowX rowN kN
  have hcpA : ∀ ty dc, (Builtin.copy_ #[22, 22] ty #[.slice (some ⟨gN, k * 3, none⟩) (n + 1 - k) dc, .slice (some ⟨b1, 0, none⟩) 1 1]).run Try.prog W1 = .ok (goInt ((1 : Nat) : Int)) (W1.setRow gN ((A ++ Z).take (k * 3) ++ xc ++ (A ++ Z).drop (k * 3 + xc.length)).toArray) := fun ty dc =>
    run_copy_sz (P := Try.prog) W1 22 22 ty 29 3 gN (k * 3) (n + 1 - k) dc ⟨b1, 0, none⟩ 1 1 1 (A ++ Z) 29 xc T_lPair.under hsz2 rowN (by simp only [Nat.min_def]; split <;> omega) hxc (fun j u hu => by
      rw [Addr.add_lit, rowX.cell, Nat.zero_add]; exact hu) (by rw [List.length_append]; omega) h1
  obtain ⟨R1, hR1⟩ : ∃ R1, (A ++ Z).take (k * 3) ++ xc ++ (A ++ Z).drop (k * 3 + xc.length) = R1 := ⟨_, rfl⟩
  rw [hR1] at hcpA
  have hl1 : R1.length = (A ++ Z).length := by rw [← hR1]; simp only [List.length_append, List.length_take, List.length_drop] at *; omega
  have rowN1 : RowIs (W1.setRow gN R1.toArray) gN 29 R1 := rowN.setRow'
  have kN1 : Keep (· = gN) W1 (W1.setRow gN R1.toArray) := (Keep.refl (· = gN) W1).setRow (fun _ => rfl) _
  have row1 : RowIs (W1.setRow gN R1.toArray) g 29 (A ++ B ++ rest) := row.keep kN1 (by omega)
  obtain ⟨W2, hW2⟩ : ∃ W2, W1.setRow gN R1.toArray = W2 := ⟨_, rfl⟩
  rw [hW2] at hcpA rowN1 row1 kN1
  have rowD : RowIs W2.drew gN 29 R1 := rowN1
  have rowE : RowIs W2.drew g 29 (A ++ B ++ rest) := row1
  have hcpB : ∀ ty dc sc, (Builtin.copy_ #[22, 22] ty #[.slice (some ⟨gN, ((k + 1) * 3), none⟩) (n + 1 - (k + 1)) dc, .slice (some ⟨g, k * 3, none⟩) (n - k) sc]).run Try.prog W2.drew = .ok (goInt ((n - k : Nat) : Int)) (W2.drew.setRow gN (R1.take (k * 3 + 3) ++ B ++ R1.drop (k * 3 + 3 + B.length)).toArray) := fun ty dc sc => by
    have h := run_copy_sz (P := Try.prog) W2.drew 22 22 ty 29 3 gN (((k + 1) * 3)) (n + 1 - (k + 1)) dc ⟨g, k * 3, none⟩ (n - k) sc (n - k) R1 29 B T_lPair.under hsz2 rowD (by simp only [Nat.min_def]; split <;> omega) hBl (fun j u hu => by
      rw [Addr.add_lit, rowE.cell, List.append_assoc, List.getElem?_append_right (by omega), hAl, Nat.add_sub_cancel_left, List.getElem?_append_left (List.getElem?_eq_some_iff.1 hu).1]; exact hu) (by rw [hl1, List.length_append]; omega) hoB
    rw [show ((k + 1) * 3) = k * 3 + 3 by omega] at h ⊢
    exact h
  obtain ⟨R2, hR2⟩ : ∃ R2, R1.take (k * 3 + 3) ++ B ++ R1.drop (k * 3 + 3 + B.length) = R2 := ⟨_, rfl⟩
  rw [hR2] at hcpB
  have kk3 : Keep (· = g) w (W2.drew.setRow gN R2.toArray) := ((((kN.then kN1 (fun i hi e => by omega)).drew).setRow (fun h => by omega) _) : Keep Nix w _).nix
  have row3 : RowIs (W2.drew.setRow gN R2.toArray) gN 29 (A ++ xc ++ B ++ Z.drop (3 + B.length)) := by
    have e3 : A ++ xc ++ B ++ Z.drop (3 + B.length) = R2 := by rw [← hR2, ← hR1, grow_list hAl (by omega) hxc]
    rw [e3]
    exact rowD.setRow'
  have hOB : ∀ i, OwnB (.slice (some ⟨gN, 0, none⟩) (n + 1) G) i → OwnB (.slice (some ⟨g, 0, none⟩) n n) i ∨ w.heap.size ≤ i := fun i h => .inr (by have e : some gN = some i := h; cases e; omega)
  have HI : Hid (InsR 29 3 w base (.slice (some ⟨g, 0, none⟩) n n) n (A ++ xc ++ B) (.returned (.slice (some ⟨gN, 0, none⟩) (n + 1) G)) (W2.drew.setRow gN R2.toArray)) := ⟨_, rfl, row_own row3 (by omega) (by simp only [List.length_append, List.length_drop] at *; omega) (by simp only [List.length_append] at *; omega) hG (by unfold maxLen; omega), hOB, kk3.mono (fun i e => by rw [e]; rfl)⟩
  have hck : ¬ n = k := by omega
  have hGk : ¬ G = k := by omega
  have hGk1 : ¬ G = k + 1 := by omega
  have hkn : ¬ (k : Int) = (n : Int) := by omega
  have hkn2 : ((k : Int) == (n : Int)) = false := by simp; omega
  have hw1 : IntKind.i64.wrap ((n : Int) + 1) = (n : Int) + 1 := by unfold IntKind.wrap; simp [IntKind.bits, IntKind.signed]; omega
  have hw2 : IntKind.i64.wrap ((k : Int) + 1) = (k : Int) + 1 := by unfold IntKind.wrap; simp [IntKind.bits, IntKind.signed]; omega
  have hw3 : IntKind.i64.wrap ((n : Int) + 1 - (k : Int)) = (n : Int) + 1 - (k : Int) := by unfold IntKind.wrap; simp [IntKind.bits, IntKind.signed]; omega
  have hr1 : (n : Int) < (n : Int) + 1 := by omega
  have hn1 : ((n : Int) + 1).toNat = n + 1 := by omega
  have hn2 : ((k : Int) + 1).toNat = k + 1 := by omega
  have hb1 : (0 : Int) ≤ (n : Int) + 1 := by omega
  have hb2 : (0 : Int) ≤ (k : Int) + 1 := by omega
  have hb3 : (k : Int) ≤ (n : Int) := by omega
  have hb4 : (k : Int) + 1 ≤ (n : Int) + 1 := by omega
  have hb5 : (k : Int) ≤ (n : Int) + 1 := by omega
  have hkn3 : k ≤ n := by omega
  have hGB : (G : Int) ≤ 9223372036854775807 := by omega
  clear hi hz hsz hby hzs row rowD rowE rowX rowN rowN1 row1 row3 kN kN1 kk3 ho h1 hoB hR1 hR2 hA hB hsz2 hold hkk hdz hW1 hW2 hgN hl1 hOB
  go_enter Try.func32, Try.ntmps32
  go_upto_region 9 with fail
  go_wp2_with (at_builtin; refine Lib.wpList_append_run _ rfl _ _ _ _ rfl _ _ rfl rfl _ _ (hrz _) ?_)
  go_wp2_with (at_builtin; refine wpl_copy_run _ rfl _ _ 22 22 rfl _ _ rfl rfl (hcpA _ _) ?_)
  refine wp_region_held_drew (S := (fun _ => True)) (by kernel_rfl) (trivial) (fun hHeld => ?_)
  refine wpAnyH_take (i := 0) (v := ?_) rfl (by kernel_rfl) (by kernel_rfl) (by kernel_rfl) (fun _ _ _ h => h) (Or.inl ⟨by kernel_rfl, ?_⟩) hHeld ?_
  rotate_left
  · intro w' hSw
    (try dsimp only at hSw)
    (try simp only [List.getElem_toArray]); (try simp only [List.getElem_cons_succ]); (try simp only [List.getElem_cons_zero])
    go_simp
    try with_reducible rfl
  (try simp only [Act.put]); (try simp only [List.getElem_toArray]); (try simp only [List.getElem_cons_succ]); (try simp only [List.getElem_cons_zero]); (try simp only [List.setIfInBounds_toArray]); (try simp only [List.set_cons_succ]); (try simp only [List.set_cons_zero])
  refine wpAnyH_take (i := 1) (v := ?_) rfl (by kernel_rfl) (by kernel_rfl) (by kernel_rfl) (fun _ _ _ h => h) (Or.inl ⟨by kernel_rfl, ?_⟩) hHeld ?_
  rotate_left
  · intro w' hSw
    (try dsimp only at hSw)
    (try simp only [List.getElem_toArray]); (try simp only [List.getElem_cons_succ]); (try simp only [List.getElem_cons_zero])
    go_simp
    try with_reducible rfl
  (try simp only [Act.put]); (try simp only [List.getElem_toArray]); (try simp only [List.getElem_cons_succ]); (try simp only [List.getElem_cons_zero]); (try simp only [List.setIfInBounds_toArray]); (try simp only [List.set_cons_succ]); (try simp only [List.set_cons_zero])
  refine wpAnyH_take (i := 2) (v := ?_) rfl (by kernel_rfl) (by kernel_rfl) (by kernel_rfl) (fun _ _ _ h => h) (Or.inl ⟨by kernel_rfl, ?_⟩) hHeld ?_
  rotate_left
  · intro w' hSw
    (try dsimp only at hSw)
    (try simp only [List.getElem_toArray]); (try simp only [List.getElem_cons_succ]); (try simp only [List.getElem_cons_zero])
    go_simp
    try with_reducible rfl
  (try simp only [Act.put]); (try simp only [List.getElem_toArray]); (try simp only [List.getElem_cons_succ]); (try simp only [List.getElem_cons_zero]); (try simp only [List.setIfInBounds_toArray]); (try simp only [List.set_cons_succ]); (try simp only [List.set_cons_zero])
  refine wpAnyH_take (i := 3) (v := ?_) rfl (by kernel_rfl) (by kernel_rfl) (by kernel_rfl) (fun _ _ _ h => h) (Or.inl ⟨by kernel_rfl, ?_⟩) hHeld ?_
  rotate_left
  · intro w' hSw
    (try dsimp only at hSw)
    (try simp only [List.getElem_toArray]); (try simp only [List.getElem_cons_succ]); (try simp only [List.getElem_cons_zero])
    go_simp
    try with_reducible rfl
  (try simp only [Act.put]); (try simp only [List.getElem_toArray]); (try simp only [List.getElem_cons_succ]); (try simp only [List.getElem_cons_zero]); (try simp only [List.setIfInBounds_toArray]); (try simp only [List.set_cons_succ]); (try simp only [List.set_cons_zero])
  refine wpAnyH_take (i := 4) (v := ?_) rfl (by kernel_rfl) (by kernel_rfl) (by kernel_rfl) (fun _ _ _ h => h) (Or.inl ⟨by kernel_rfl, ?_⟩) hHeld ?_
  rotate_left
  · intro w' hSw
    (try dsimp only at hSw)
    (try simp only [List.getElem_toArray]); (try simp only [List.getElem_cons_succ]); (try simp only [List.getElem_cons_zero])
    go_simp
    try with_reducible rfl
  (try simp only [Act.put]); (try simp only [List.getElem_toArray]); (try simp only [List.getElem_cons_succ]); (try simp only [List.getElem_cons_zero]); (try simp only [List.setIfInBounds_toArray]); (try simp only [List.set_cons_succ]); (try simp only [List.set_cons_zero])
  refine wpAnyH_take (i := 5) (v := ?_) rfl (by kernel_rfl) (by kernel_rfl) (by kernel_rfl) (fun _ _ _ h => h) (Or.inl ⟨by kernel_rfl, ?_⟩) hHeld ?_
  rotate_left
  · intro w' hSw
    (try dsimp only at hSw)
    (try simp only [List.getElem_toArray]); (try simp only [List.getElem_cons_succ]); (try simp only [List.getElem_cons_zero])
    go_simp
    try with_reducible rfl
  (try simp only [Act.put]); (try simp only [List.getElem_toArray]); (try simp only [List.getElem_cons_succ]); (try simp only [List.getElem_cons_zero]); (try simp only [List.setIfInBounds_toArray]); (try simp only [List.set_cons_succ]); (try simp only [List.set_cons_zero])
  refine wpAnyH_take (i := 6) (v := ?_) rfl (by kernel_rfl) (by kernel_rfl) (by kernel_rfl) (fun _ _ _ h => h) (Or.inl ⟨by kernel_rfl, ?_⟩) hHeld ?_
  rotate_left
  · intro w' hSw
    (try dsimp only at hSw)
    (try simp only [List.getElem_toArray]); (try simp only [List.getElem_cons_succ]); (try simp only [List.getElem_cons_zero])
    go_simp
    try with_reducible rfl
  (try simp only [Act.put]); (try simp only [List.getElem_toArray]); (try simp only [List.getElem_cons_succ]); (try simp only [List.getElem_cons_zero]); (try simp only [List.setIfInBounds_toArray]); (try simp only [List.set_cons_succ]); (try simp only [List.set_cons_zero])
  refine wpAnyH_take (i := 7) (v := ?_) rfl (by kernel_rfl) (by kernel_rfl) (by kernel_rfl) (fun _ _ _ h => h) (Or.inl ⟨by kernel_rfl, ?_⟩) hHeld ?_
  rotate_left
  · intro w' hSw
    (try dsimp only at hSw)
    (try simp only [List.getElem_toArray]); (try simp only [List.getElem_cons_succ]); (try simp only [List.getElem_cons_zero])
    go_simp
    try with_reducible rfl
  (try simp only [Act.put]); (try simp only [List.getElem_toArray]); (try simp only [List.getElem_cons_succ]); (try simp only [List.getElem_cons_zero]); (try simp only [List.setIfInBounds_toArray]); (try simp only [List.set_cons_succ]); (try simp only [List.set_cons_zero])
  refine wpAnyH_ready (rs := [8]) (by kernel_rfl) (by simp) ?_
  refine AllReadyH.cons rfl (fun K hK => ?_) AllReadyH.nil
  refine step_copy_run rfl _ _ 22 22 rfl _ _ (by simp [Act.eval]; rfl) (by simp [Act.eval]; rfl) (hcpB _ _ _) ?_
  refine hK.out _ _ (trivial) (fun hHeld => ?_)
  clear hK K
  (try simp only [Act.put]); (try simp only [List.getElem_toArray]); (try simp only [List.getElem_cons_succ]); (try simp only [List.getElem_cons_zero]); (try simp only [List.setIfInBounds_toArray]); (try simp only [List.set_cons_succ]); (try simp only [List.set_cons_zero])
  refine wpAnyH_done (by kernel_rfl) ?_ _
  clear hHeld
  go_wp2_with fail
  go_ret
  exact HI.out
/-- slices.Insert of one element, at a place that there is. -/
theorem Insert_cA (w : World) (base n c k b1 : Nat) (a : Option Addr) (xs xc : List Value) (own : w.ownsRow base 29 3 (.slice a n c) n xs) (h0 : 0 < n) (ho : ∀ u ∈ xs, u.oneCell' = true) (rowX : RowIs w b1 29 xc) (hxc : xc.length = 3) (h1 : ∀ u ∈ xc, u.oneCell' = true) (hbg : ¬ OwnB (.slice a n c) b1) (hn : n ≤ 1000000) (hk : k ≤ n) (hb : base ≤ w.heap.size) :
    Calls Try.prog 32 #[.slice a n c, .int .i64 k, .slice (some ⟨b1, 0, none⟩) 1 1] w (InsR 29 3 w base (.slice a n c) n (xs.take (k * 3) ++ xc ++ xs.drop (k * 3))) := by
  obtain ⟨g, rest, rfl, hg, row, hrl, hxs, hnc, hcm⟩ := own_row own h0
  have hB : ∀ b, OwnB (.slice (some ⟨g, 0, none⟩) n c) b ↔ b = g := fun b => ⟨fun h => by cases h; rfl, fun h => by rw [h]; rfl⟩
  by_cases hkn : k = n
  · subst hkn
    have e : xs.take (k * 3) ++ xc ++ xs.drop (k * 3) = xs ++ xc := by rw [← hxs, List.take_length, List.drop_length, List.append_nil]
    rw [e]
    exact (Ins_endA w base g k c b1 xs xc own rowX hxc h1 hn hb)
  · by_cases hr : n + 1 ≤ c
    · exact (Ins_roomA w base g n c k b1 xs rest xc row hxs hrl ho rowX hxc h1 (fun e => hbg ((hB b1).2 e)) hn (by omega) hr hg hcm)
    · obtain rfl : n = c := by omega
      exact (Ins_growA w base g n k b1 xs rest xc row hxs ho rowX hxc h1 hn (by omega) hb)
end Go.Proofs.Ythkocgpbpgfocaa
