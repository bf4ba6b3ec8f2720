/- ROUTE: the groups that have keys of a span. Printed by mac.py. -/
import Derived.Test.YtpblmaklbnpbfaaRt7
import Derived.Test.YtpblmaklbnpbfaaRt8
namespace Go.Proofs.Ytpblmaklbnpbfaa
open Go.RowKit

def baseL (n : Nat) : List Int := (List.range n).map (fun i : Nat => (i : Int) + 1)
def rowsL (r : GRoutes) (s : GSpan) : List Int := if (partF s (allF 114)).2 then baseL r.fBase.toNat else []
def entL (r : GRoutes) (s : GSpan) (l : List GOwner) : List Int := (l.filter fun o => (PartF r o.fGroup s).2).map (·.fGroup)
def overF (r : GRoutes) (s : GSpan) : List Int := sortI (rowsL r s ++ entL r s r.fSpans)
theorem baseL_succ (n : Nat) : baseL (n + 1) = baseL n ++ [(n : Int) + 1] := by unfold baseL; rw [List.range_succ, List.map_append]; rfl
theorem baseL_len (n : Nat) : (baseL n).length = n := by simp [baseL]
theorem entL_snoc (r : GRoutes) (s : GSpan) (l : List GOwner) (o : GOwner) : entL r s (l ++ [o]) = entL r s l ++ if (PartF r o.fGroup s).2 then [o.fGroup] else [] := by
  unfold entL; rw [List.filter_append, List.map_append]; congr 1
  cases h : (PartF r o.fGroup s).2 <;> simp [h]
theorem entL_len (r : GRoutes) (s : GSpan) (l : List GOwner) : (entL r s l).length ≤ l.length := by unfold entL; rw [List.length_map]; exact List.length_filter_le _ _
def RetI (base : Nat) (w : World) (l : List Int) (e : Ending) (w' : World) : Prop := ∃ (a : Option Addr) (cap : Nat), e = .returned (.slice a l.length cap) ∧ w'.ownsRow base 3 1 (.slice a l.length cap) l.length (ints l) ∧ Keep Nix w w'
theorem kk_alloc {w cur : World} (k : Keep Nix w cur) (cs : Array Value) (T : TypeId) : RowIs (cur.alloc (.cells cs T)) cur.heap.size T cs.toList ∧ Keep Nix w (cur.alloc (.cells cs T)) ∧ w.heap.size ≤ cur.heap.size ∧ cur.heap.size ≤ (cur.alloc (.cells cs T)).heap.size :=
  ⟨RowIs.alloc cur cs T, k.alloc _, k.size, by simp⟩
theorem kk_cell2 {w cur : World} {g : Nat} (k : Keep Nix w cur) (hg : w.heap.size ≤ g) (u v : Value) : Keep Nix w ((cur.setCell ⟨g, 0, none⟩ u).setCell ⟨g, 1, none⟩ v) :=
  (k.setCell (p := ⟨g, 0, none⟩) (fun h => absurd h (Nat.not_lt.2 hg)) u).setCell (p := ⟨g, 1, none⟩) (fun h => absurd h (Nat.not_lt.2 hg)) v
section
attribute [local go_sem ↓] ldz_Routes
set_option maxRecDepth 100000 in
set_option maxHeartbeats 8000000 in
theorem Over_c {p q : Nat → Prop} (r : GRoutes) (csr : List Value) (s : GSpan) (css : List Value) (w : World) (hr : rGRoutes w p csr r) (hs : rGSpan w q css s) (hb : 1 ≤ r.fBase ∧ r.fBase ≤ 4) (hn : r.fSpans.length ≤ 4) :
    Calls Try.prog 15 #[.agg csr.toArray, .agg css.toArray] w (RetI w.heap.size w (overF r s)) := by
  have HR := Lib.hid hr
  have HS := Lib.hid hs
  obtain ⟨aS, cS, aC, cC, rfl, -, -, hS, -⟩ := rGRoutes_open hr
  obtain ⟨sF, dF, sT, dT, rfl, -⟩ := rGSpan_open hs
  have HL := Lib.hid hS
  have k1 := fun (w : World) (o : Obj) => (Keep.refl Nix w).alloc o
  have kk : Keep Nix w (((w.alloc (.cells #[.int .i64 r.fEpoch, .int .i64 r.fBase, .slice aS r.fSpans.length cS, .int .i64 r.fMoving, .slice aC r.fCut.length cC] 25))).alloc (.cells #[.slice sF s.fFrom.length dF, .slice sT s.fTo.length dT] 29)) := (k1 _ _).trans (k1 _ _)
  have row0 : RowIs (((w.alloc (.cells #[.int .i64 r.fEpoch, .int .i64 r.fBase, .slice aS r.fSpans.length cS, .int .i64 r.fMoving, .slice aC r.fCut.length cC] 25))).alloc (.cells #[.slice sF s.fFrom.length dF, .slice sT s.fTo.length dT] 29)) w.heap.size 25 [.int .i64 r.fEpoch, .int .i64 r.fBase, .slice aS r.fSpans.length cS, .int .i64 r.fMoving, .slice aC r.fCut.length cC] := (RowIs.alloc w _ _).keep (k1 _ _) id
  have rowS : RowIs (((w.alloc (.cells #[.int .i64 r.fEpoch, .int .i64 r.fBase, .slice aS r.fSpans.length cS, .int .i64 r.fMoving, .slice aC r.fCut.length cC] 25))).alloc (.cells #[.slice sF s.fFrom.length dF, .slice sT s.fTo.length dT] 29)) (w.heap.size + 1) 29 [.slice sF s.fFrom.length dF, .slice sT s.fTo.length dT] := by
    have h := RowIs.alloc (w.alloc (.cells #[.int .i64 r.fEpoch, .int .i64 r.fBase, .slice aS r.fSpans.length cS, .int .i64 r.fMoving, .slice aC r.fCut.length cC] 25)) #[.slice sF s.fFrom.length dF, .slice sT s.fTo.length dT] 29
    simpa using h
  obtain ⟨P0, HP0⟩ : ∃ y, Hid (partF s (allF 114) = y) := ⟨_, rfl⟩
  obtain ⟨x0, v⟩ := P0
  obtain ⟨Y, HY⟩ : ∃ Y, Hid (overF r s = Y) := ⟨_, rfl⟩
  rw [HY.out]
  obtain ⟨hb1, hb4⟩ := hb
  clear hr hs k1 hS
  go_enter Try.func15, Try.ntmps15
  go_upto_region 2 with fail
  generalize (((w.alloc (.cells #[.int .i64 r.fEpoch, .int .i64 r.fBase, .slice aS r.fSpans.length cS, .int .i64 r.fMoving, .slice aC r.fCut.length cC] 25))).alloc (.cells #[.slice sF s.fFrom.length dF, .slice sT s.fTo.length dT] 29)) = w1 at *
  generalize hbs : w.heap.size = bs at *
  go_cut [7] from 6 to 56 (fun s7 wx => s7 = .bool v ∧ Keep Nix w1 wx)
  case first =>
    as_aux_lemma =>
    have hO : ∀ w', Keep Nix w1 w' → (fun w' => w'.cell? ⟨bs + 1, 0, none⟩ = some (.slice sF s.fFrom.length dF) ∧ w'.cell? ⟨bs + 1, 1, none⟩ = some (.slice sT s.fTo.length dT)) w' := fun w' k => ⟨(rowS.keep k id).cell 0, (rowS.keep k id).cell 1⟩
    have HO := Lib.hid hO
    have kd : Keep Nix w1 w1.drew := (Keep.refl Nix w1).drew
    clear hO row0 rowS HL HR HY hb1 hb4 hn
    refine wp_region_held_drew (S := (fun w' => w'.cell? ⟨bs + 1, 0, none⟩ = some (.slice sF s.fFrom.length dF) ∧ w'.cell? ⟨bs + 1, 1, none⟩ = some (.slice sT s.fTo.length dT))) (by kernel_rfl) ((HO.out _ kd)) (fun hHeld => ?_)
    generalize w1.drew = wd at *
    refine wpAnyH_take (i := 0) (v := ?_) rfl (by kernel_rfl) (by kernel_rfl) (by kernel_rfl) (fun _ _ _ h => h) (Or.inl ⟨by kernel_rfl, ?_⟩) hHeld ?_
    rotate_left
    · intro w' hSw
      (try dsimp only at hSw)
      (try simp only [List.getElem_toArray]); (try simp only [List.getElem_cons_succ]); (try simp only [List.getElem_cons_zero])
      go_simp
      try with_reducible rfl
    (try simp only [Act.put]); (try simp only [List.getElem_toArray]); (try simp only [List.getElem_cons_succ]); (try simp only [List.getElem_cons_zero]); (try simp only [List.setIfInBounds_toArray]); (try simp only [List.set_cons_succ]); (try simp only [List.set_cons_zero])
    refine wpAnyH_ready (rs := [1, 6]) (by kernel_rfl) (by simp) ?_
    refine AllReadyH.cons rfl (fun K hK => ?_) (AllReadyH.cons rfl (fun K hK => ?_) AllReadyH.nil)
    · go_simp
      go_fit (all_c _)
      rintro e w2 ⟨csa, rfl, ra, k2⟩
      (try replace rowM := rowM.keep k2 id)
      replace kd := kd.trans k2
      clear k2
      go_wp2_with fail
      refine hK.out _ _ ((HO.out _ kd)) (fun hHeld => ?_)
      clear hK K
      (try simp only [Act.put]); (try simp only [List.getElem_toArray]); (try simp only [List.getElem_cons_succ]); (try simp only [List.getElem_cons_zero]); (try simp only [List.setIfInBounds_toArray]); (try simp only [List.set_cons_succ]); (try simp only [List.set_cons_zero])
      refine wpAnyH_ready (rs := [2, 6]) (by kernel_rfl) (by simp) ?_
      refine AllReadyH.cons rfl (fun K hK => ?_) (AllReadyH.cons rfl (fun K hK => ?_) AllReadyH.nil)
      · go_simp
        go_fit (part_c s (allF 114) [.slice sF s.fFrom.length dF, .slice sT s.fTo.length dT] csa _ (rGSpan_lawful.nix HS.out (kk.trans kd)) ra)
        rw [HP0.out]
        rintro e w3 ⟨csx, rfl, rx, k3⟩
        obtain ⟨a1, c1, a2, c2, rfl, -⟩ := rGSpan_open rx
        (try replace rowM := rowM.keep k3 id)
        replace kd := kd.trans k3
        clear k3 ra rx
        go_wp2_with fail
        refine hK.out _ _ ((HO.out _ kd)) (fun hHeld => ?_)
        clear hK K
        (try simp only [Act.put]); (try simp only [List.getElem_toArray]); (try simp only [List.getElem_cons_succ]); (try simp only [List.getElem_cons_zero]); (try simp only [List.setIfInBounds_toArray]); (try simp only [List.set_cons_succ]); (try simp only [List.set_cons_zero])
        refine wpAnyH_take (i := 3) (v := ?_) rfl (by kernel_rfl) (by kernel_rfl) (by kernel_rfl) (fun _ _ _ h => h) (Or.inl ⟨by kernel_rfl, ?_⟩) hHeld ?_
        rotate_left
        · intro w' hSw
          (try dsimp only at hSw)
          (try simp only [List.getElem_toArray]); (try simp only [List.getElem_cons_succ]); (try simp only [List.getElem_cons_zero])
          go_simp
          try with_reducible rfl
        (try simp only [Act.put]); (try simp only [List.getElem_toArray]); (try simp only [List.getElem_cons_succ]); (try simp only [List.getElem_cons_zero]); (try simp only [List.setIfInBounds_toArray]); (try simp only [List.set_cons_succ]); (try simp only [List.set_cons_zero])
        refine wpAnyH_take (i := 4) (v := ?_) rfl (by kernel_rfl) (by kernel_rfl) (by kernel_rfl) (fun _ _ _ h => h) (Or.inl ⟨by kernel_rfl, ?_⟩) hHeld ?_
        rotate_left
        · intro w' hSw
          (try dsimp only at hSw)
          (try simp only [List.getElem_toArray]); (try simp only [List.getElem_cons_succ]); (try simp only [List.getElem_cons_zero])
          go_simp
          try with_reducible rfl
        (try simp only [Act.put]); (try simp only [List.getElem_toArray]); (try simp only [List.getElem_cons_succ]); (try simp only [List.getElem_cons_zero]); (try simp only [List.setIfInBounds_toArray]); (try simp only [List.set_cons_succ]); (try simp only [List.set_cons_zero])
        refine wpAnyH_take (i := 5) (v := ?_) rfl (by kernel_rfl) (by kernel_rfl) (by kernel_rfl) (fun _ _ _ h => h) (Or.inl ⟨by kernel_rfl, ?_⟩) hHeld ?_
        rotate_left
        · intro w' hSw
          (try dsimp only at hSw)
          (try simp only [List.getElem_toArray]); (try simp only [List.getElem_cons_succ]); (try simp only [List.getElem_cons_zero])
          go_simp
          try with_reducible rfl
        (try simp only [Act.put]); (try simp only [List.getElem_toArray]); (try simp only [List.getElem_cons_succ]); (try simp only [List.getElem_cons_zero]); (try simp only [List.setIfInBounds_toArray]); (try simp only [List.set_cons_succ]); (try simp only [List.set_cons_zero])
        refine wpAnyH_ready (rs := [6]) (by kernel_rfl) (by simp) ?_
        refine AllReadyH.cons rfl (fun K hK => ?_) AllReadyH.nil
        go_simp
        obtain ⟨rowM, kA, hgm, hgmA⟩ := kk_alloc kd #[.slice none 0 0, .slice none 0 0] 29
        (try replace ra := rGSpan_lawful.nix ra ((Keep.refl Nix _).alloc (.cells #[.slice none 0 0, .slice none 0 0] 29)))
        have HGM := Lib.hid hgm
        replace kd := kA
        clear kA hgmA hgm
        refine hK.out _ _ ((HO.out _ kd)) (fun hHeld => ?_)
        clear hK K
        (try simp only [Act.put]); (try simp only [List.getElem_toArray]); (try simp only [List.getElem_cons_succ]); (try simp only [List.getElem_cons_zero]); (try simp only [List.setIfInBounds_toArray]); (try simp only [List.set_cons_succ]); (try simp only [List.set_cons_zero])
        first
          | generalize w3.alloc (.cells #[.slice none 0 0, .slice none 0 0] 29) = wA at *
          | generalize w2.alloc (.cells #[.slice none 0 0, .slice none 0 0] 29) = wA at *
          | generalize wd.alloc (.cells #[.slice none 0 0, .slice none 0 0] 29) = wA at *
        refine wpAnyH_ready (rs := [7]) (by kernel_rfl) (by simp) ?_
        refine AllReadyH.cons rfl (fun K hK => ?_) AllReadyH.nil
        have q0 := rowM.cell 0
        (try simp only [List.getElem?_cons_zero] at q0)
        have q1 := rowM.cell 1
        (try simp only [List.getElem?_cons_succ] at q1); (try simp only [List.getElem?_cons_zero] at q1)
        have h0 := rowM.frozen 0
        have h1 := rowM.frozen 1
        (try simp only [List.getElem_toArray]); (try simp only [List.getElem_cons_succ]); (try simp only [List.getElem_cons_zero])
        go_simp
        clear q0 q1 h0 h1 rowM
        refine hK.out _ _ ((HO.out _ (kk_cell2 kd HGM.out _ _))) (fun hHeld => ?_)
        clear hK K
        (try simp only [Act.put]); (try simp only [List.getElem_toArray]); (try simp only [List.getElem_cons_succ]); (try simp only [List.getElem_cons_zero]); (try simp only [List.setIfInBounds_toArray]); (try simp only [List.set_cons_succ]); (try simp only [List.set_cons_zero])
        refine wpAnyH_take (i := 8) (v := ?_) rfl (by kernel_rfl) (by kernel_rfl) (by kernel_rfl) (fun _ _ _ h => h) (Or.inl ⟨by kernel_rfl, ?_⟩) hHeld ?_
        rotate_left
        · intro w' hSw
          (try dsimp only at hSw)
          (try simp only [List.getElem_toArray]); (try simp only [List.getElem_cons_succ]); (try simp only [List.getElem_cons_zero])
          go_simp
          try with_reducible rfl
        (try simp only [Act.put]); (try simp only [List.getElem_toArray]); (try simp only [List.getElem_cons_succ]); (try simp only [List.getElem_cons_zero]); (try simp only [List.setIfInBounds_toArray]); (try simp only [List.set_cons_succ]); (try simp only [List.set_cons_zero])
        refine wpAnyH_done (by kernel_rfl) ?_ _
        clear hHeld
        go_wp2_with fail
        go_meet
        exact ⟨rfl, kk_cell2 kd HGM.out _ _⟩
      · go_simp
        obtain ⟨rowM, kA, hgm, hgmA⟩ := kk_alloc kd #[.slice none 0 0, .slice none 0 0] 29
        (try replace ra := rGSpan_lawful.nix ra ((Keep.refl Nix _).alloc (.cells #[.slice none 0 0, .slice none 0 0] 29)))
        have HGM := Lib.hid hgm
        replace kd := kA
        clear kA hgmA hgm
        refine hK.out _ _ ((HO.out _ kd)) (fun hHeld => ?_)
        clear hK K
        (try simp only [Act.put]); (try simp only [List.getElem_toArray]); (try simp only [List.getElem_cons_succ]); (try simp only [List.getElem_cons_zero]); (try simp only [List.setIfInBounds_toArray]); (try simp only [List.set_cons_succ]); (try simp only [List.set_cons_zero])
        first
          | generalize w3.alloc (.cells #[.slice none 0 0, .slice none 0 0] 29) = wA at *
          | generalize w2.alloc (.cells #[.slice none 0 0, .slice none 0 0] 29) = wA at *
          | generalize wd.alloc (.cells #[.slice none 0 0, .slice none 0 0] 29) = wA at *
        refine wpAnyH_ready (rs := [2]) (by kernel_rfl) (by simp) ?_
        refine AllReadyH.cons rfl (fun K hK => ?_) AllReadyH.nil
        go_simp
        go_fit (part_c s (allF 114) [.slice sF s.fFrom.length dF, .slice sT s.fTo.length dT] csa _ (rGSpan_lawful.nix HS.out (kk.trans kd)) ra)
        rw [HP0.out]
        rintro e w3 ⟨csx, rfl, rx, k3⟩
        obtain ⟨a1, c1, a2, c2, rfl, -⟩ := rGSpan_open rx
        (try replace rowM := rowM.keep k3 id)
        replace kd := kd.trans k3
        clear k3 ra rx
        go_wp2_with fail
        refine hK.out _ _ ((HO.out _ kd)) (fun hHeld => ?_)
        clear hK K
        (try simp only [Act.put]); (try simp only [List.getElem_toArray]); (try simp only [List.getElem_cons_succ]); (try simp only [List.getElem_cons_zero]); (try simp only [List.setIfInBounds_toArray]); (try simp only [List.set_cons_succ]); (try simp only [List.set_cons_zero])
        refine wpAnyH_take (i := 3) (v := ?_) rfl (by kernel_rfl) (by kernel_rfl) (by kernel_rfl) (fun _ _ _ h => h) (Or.inl ⟨by kernel_rfl, ?_⟩) hHeld ?_
        rotate_left
        · intro w' hSw
          (try dsimp only at hSw)
          (try simp only [List.getElem_toArray]); (try simp only [List.getElem_cons_succ]); (try simp only [List.getElem_cons_zero])
          go_simp
          try with_reducible rfl
        (try simp only [Act.put]); (try simp only [List.getElem_toArray]); (try simp only [List.getElem_cons_succ]); (try simp only [List.getElem_cons_zero]); (try simp only [List.setIfInBounds_toArray]); (try simp only [List.set_cons_succ]); (try simp only [List.set_cons_zero])
        refine wpAnyH_take (i := 4) (v := ?_) rfl (by kernel_rfl) (by kernel_rfl) (by kernel_rfl) (fun _ _ _ h => h) (Or.inl ⟨by kernel_rfl, ?_⟩) hHeld ?_
        rotate_left
        · intro w' hSw
          (try dsimp only at hSw)
          (try simp only [List.getElem_toArray]); (try simp only [List.getElem_cons_succ]); (try simp only [List.getElem_cons_zero])
          go_simp
          try with_reducible rfl
        (try simp only [Act.put]); (try simp only [List.getElem_toArray]); (try simp only [List.getElem_cons_succ]); (try simp only [List.getElem_cons_zero]); (try simp only [List.setIfInBounds_toArray]); (try simp only [List.set_cons_succ]); (try simp only [List.set_cons_zero])
        refine wpAnyH_take (i := 5) (v := ?_) rfl (by kernel_rfl) (by kernel_rfl) (by kernel_rfl) (fun _ _ _ h => h) (Or.inl ⟨by kernel_rfl, ?_⟩) hHeld ?_
        rotate_left
        · intro w' hSw
          (try dsimp only at hSw)
          (try simp only [List.getElem_toArray]); (try simp only [List.getElem_cons_succ]); (try simp only [List.getElem_cons_zero])
          go_simp
          try with_reducible rfl
        (try simp only [Act.put]); (try simp only [List.getElem_toArray]); (try simp only [List.getElem_cons_succ]); (try simp only [List.getElem_cons_zero]); (try simp only [List.setIfInBounds_toArray]); (try simp only [List.set_cons_succ]); (try simp only [List.set_cons_zero])
        refine wpAnyH_ready (rs := [7]) (by kernel_rfl) (by simp) ?_
        refine AllReadyH.cons rfl (fun K hK => ?_) AllReadyH.nil
        have q0 := rowM.cell 0
        (try simp only [List.getElem?_cons_zero] at q0)
        have q1 := rowM.cell 1
        (try simp only [List.getElem?_cons_succ] at q1); (try simp only [List.getElem?_cons_zero] at q1)
        have h0 := rowM.frozen 0
        have h1 := rowM.frozen 1
        (try simp only [List.getElem_toArray]); (try simp only [List.getElem_cons_succ]); (try simp only [List.getElem_cons_zero])
        go_simp
        clear q0 q1 h0 h1 rowM
        refine hK.out _ _ ((HO.out _ (kk_cell2 kd HGM.out _ _))) (fun hHeld => ?_)
        clear hK K
        (try simp only [Act.put]); (try simp only [List.getElem_toArray]); (try simp only [List.getElem_cons_succ]); (try simp only [List.getElem_cons_zero]); (try simp only [List.setIfInBounds_toArray]); (try simp only [List.set_cons_succ]); (try simp only [List.set_cons_zero])
        refine wpAnyH_take (i := 8) (v := ?_) rfl (by kernel_rfl) (by kernel_rfl) (by kernel_rfl) (fun _ _ _ h => h) (Or.inl ⟨by kernel_rfl, ?_⟩) hHeld ?_
        rotate_left
        · intro w' hSw
          (try dsimp only at hSw)
          (try simp only [List.getElem_toArray]); (try simp only [List.getElem_cons_succ]); (try simp only [List.getElem_cons_zero])
          go_simp
          try with_reducible rfl
        (try simp only [Act.put]); (try simp only [List.getElem_toArray]); (try simp only [List.getElem_cons_succ]); (try simp only [List.getElem_cons_zero]); (try simp only [List.setIfInBounds_toArray]); (try simp only [List.set_cons_succ]); (try simp only [List.set_cons_zero])
        refine wpAnyH_done (by kernel_rfl) ?_ _
        clear hHeld
        go_wp2_with fail
        go_meet
        exact ⟨rfl, kk_cell2 kd HGM.out _ _⟩
    · go_simp
      obtain ⟨rowM, kA, hgm, hgmA⟩ := kk_alloc kd #[.slice none 0 0, .slice none 0 0] 29
      (try replace ra := rGSpan_lawful.nix ra ((Keep.refl Nix _).alloc (.cells #[.slice none 0 0, .slice none 0 0] 29)))
      have HGM := Lib.hid hgm
      replace kd := kA
      clear kA hgmA hgm
      refine hK.out _ _ ((HO.out _ kd)) (fun hHeld => ?_)
      clear hK K
      (try simp only [Act.put]); (try simp only [List.getElem_toArray]); (try simp only [List.getElem_cons_succ]); (try simp only [List.getElem_cons_zero]); (try simp only [List.setIfInBounds_toArray]); (try simp only [List.set_cons_succ]); (try simp only [List.set_cons_zero])
      first
        | generalize w3.alloc (.cells #[.slice none 0 0, .slice none 0 0] 29) = wA at *
        | generalize w2.alloc (.cells #[.slice none 0 0, .slice none 0 0] 29) = wA at *
        | generalize wd.alloc (.cells #[.slice none 0 0, .slice none 0 0] 29) = wA at *
      refine wpAnyH_ready (rs := [1]) (by kernel_rfl) (by simp) ?_
      refine AllReadyH.cons rfl (fun K hK => ?_) AllReadyH.nil
      go_simp
      go_fit (all_c _)
      rintro e w2 ⟨csa, rfl, ra, k2⟩
      (try replace rowM := rowM.keep k2 id)
      replace kd := kd.trans k2
      clear k2
      go_wp2_with fail
      refine hK.out _ _ ((HO.out _ kd)) (fun hHeld => ?_)
      clear hK K
      (try simp only [Act.put]); (try simp only [List.getElem_toArray]); (try simp only [List.getElem_cons_succ]); (try simp only [List.getElem_cons_zero]); (try simp only [List.setIfInBounds_toArray]); (try simp only [List.set_cons_succ]); (try simp only [List.set_cons_zero])
      refine wpAnyH_ready (rs := [2]) (by kernel_rfl) (by simp) ?_
      refine AllReadyH.cons rfl (fun K hK => ?_) AllReadyH.nil
      go_simp
      go_fit (part_c s (allF 114) [.slice sF s.fFrom.length dF, .slice sT s.fTo.length dT] csa _ (rGSpan_lawful.nix HS.out (kk.trans kd)) ra)
      rw [HP0.out]
      rintro e w3 ⟨csx, rfl, rx, k3⟩
      obtain ⟨a1, c1, a2, c2, rfl, -⟩ := rGSpan_open rx
      (try replace rowM := rowM.keep k3 id)
      replace kd := kd.trans k3
      clear k3 ra rx
      go_wp2_with fail
      refine hK.out _ _ ((HO.out _ kd)) (fun hHeld => ?_)
      clear hK K
      (try simp only [Act.put]); (try simp only [List.getElem_toArray]); (try simp only [List.getElem_cons_succ]); (try simp only [List.getElem_cons_zero]); (try simp only [List.setIfInBounds_toArray]); (try simp only [List.set_cons_succ]); (try simp only [List.set_cons_zero])
      refine wpAnyH_take (i := 3) (v := ?_) rfl (by kernel_rfl) (by kernel_rfl) (by kernel_rfl) (fun _ _ _ h => h) (Or.inl ⟨by kernel_rfl, ?_⟩) hHeld ?_
      rotate_left
      · intro w' hSw
        (try dsimp only at hSw)
        (try simp only [List.getElem_toArray]); (try simp only [List.getElem_cons_succ]); (try simp only [List.getElem_cons_zero])
        go_simp
        try with_reducible rfl
      (try simp only [Act.put]); (try simp only [List.getElem_toArray]); (try simp only [List.getElem_cons_succ]); (try simp only [List.getElem_cons_zero]); (try simp only [List.setIfInBounds_toArray]); (try simp only [List.set_cons_succ]); (try simp only [List.set_cons_zero])
      refine wpAnyH_take (i := 4) (v := ?_) rfl (by kernel_rfl) (by kernel_rfl) (by kernel_rfl) (fun _ _ _ h => h) (Or.inl ⟨by kernel_rfl, ?_⟩) hHeld ?_
      rotate_left
      · intro w' hSw
        (try dsimp only at hSw)
        (try simp only [List.getElem_toArray]); (try simp only [List.getElem_cons_succ]); (try simp only [List.getElem_cons_zero])
        go_simp
        try with_reducible rfl
      (try simp only [Act.put]); (try simp only [List.getElem_toArray]); (try simp only [List.getElem_cons_succ]); (try simp only [List.getElem_cons_zero]); (try simp only [List.setIfInBounds_toArray]); (try simp only [List.set_cons_succ]); (try simp only [List.set_cons_zero])
      refine wpAnyH_take (i := 5) (v := ?_) rfl (by kernel_rfl) (by kernel_rfl) (by kernel_rfl) (fun _ _ _ h => h) (Or.inl ⟨by kernel_rfl, ?_⟩) hHeld ?_
      rotate_left
      · intro w' hSw
        (try dsimp only at hSw)
        (try simp only [List.getElem_toArray]); (try simp only [List.getElem_cons_succ]); (try simp only [List.getElem_cons_zero])
        go_simp
        try with_reducible rfl
      (try simp only [Act.put]); (try simp only [List.getElem_toArray]); (try simp only [List.getElem_cons_succ]); (try simp only [List.getElem_cons_zero]); (try simp only [List.setIfInBounds_toArray]); (try simp only [List.set_cons_succ]); (try simp only [List.set_cons_zero])
      refine wpAnyH_ready (rs := [7]) (by kernel_rfl) (by simp) ?_
      refine AllReadyH.cons rfl (fun K hK => ?_) AllReadyH.nil
      have q0 := rowM.cell 0
      (try simp only [List.getElem?_cons_zero] at q0)
      have q1 := rowM.cell 1
      (try simp only [List.getElem?_cons_succ] at q1); (try simp only [List.getElem?_cons_zero] at q1)
      have h0 := rowM.frozen 0
      have h1 := rowM.frozen 1
      (try simp only [List.getElem_toArray]); (try simp only [List.getElem_cons_succ]); (try simp only [List.getElem_cons_zero])
      go_simp
      clear q0 q1 h0 h1 rowM
      refine hK.out _ _ ((HO.out _ (kk_cell2 kd HGM.out _ _))) (fun hHeld => ?_)
      clear hK K
      (try simp only [Act.put]); (try simp only [List.getElem_toArray]); (try simp only [List.getElem_cons_succ]); (try simp only [List.getElem_cons_zero]); (try simp only [List.setIfInBounds_toArray]); (try simp only [List.set_cons_succ]); (try simp only [List.set_cons_zero])
      refine wpAnyH_take (i := 8) (v := ?_) rfl (by kernel_rfl) (by kernel_rfl) (by kernel_rfl) (fun _ _ _ h => h) (Or.inl ⟨by kernel_rfl, ?_⟩) hHeld ?_
      rotate_left
      · intro w' hSw
        (try dsimp only at hSw)
        (try simp only [List.getElem_toArray]); (try simp only [List.getElem_cons_succ]); (try simp only [List.getElem_cons_zero])
        go_simp
        try with_reducible rfl
      (try simp only [Act.put]); (try simp only [List.getElem_toArray]); (try simp only [List.getElem_cons_succ]); (try simp only [List.getElem_cons_zero]); (try simp only [List.setIfInBounds_toArray]); (try simp only [List.set_cons_succ]); (try simp only [List.set_cons_zero])
      refine wpAnyH_done (by kernel_rfl) ?_ _
      clear hHeld
      go_wp2_with fail
      go_meet
      exact ⟨rfl, kk_cell2 kd HGM.out _ _⟩
  case rest =>
  obtain ⟨rfl, kd⟩ := hcut
  replace row0 := row0.keep kd id
  replace rowS := rowS.keep kd id
  replace kk := kk.trans kd
  clear kd
  go_upto_block 2 with fail
  go_cut [5] from 6 to 56 (fun s5 wx => ∃ a cap, s5 = .slice a (rowsL r s).length cap ∧ wx.ownsRow (bs + 1 + 1) 3 1 (.slice a (rowsL r s).length cap) (rowsL r s).length (ints (rowsL r s)) ∧ Keep Nix wc wx)
  case first =>
    as_aux_lemma =>
    cases v with
    | false =>
      have HE : Hid (rowsL r s = []) := by show _ = _; unfold rowsL; rw [HP0.out]; rfl
      go_wp2_with fail
      go_meet
      rw [HE.out]
      exact ⟨none, 0, rfl, World.ownsRow_nil _ _ _ _, Keep.refl _ _⟩
    | true =>
      have HE : Hid (rowsL r s = baseL r.fBase.toNat) := by show _ = _; unfold rowsL; rw [HP0.out]; rfl
      have y1 := row0.cell 1
      (try simp only [List.getElem?_cons_succ] at y1); (try simp only [List.getElem?_cons_zero] at y1)
      have hbs2 : bs + 1 + 1 ≤ wc.heap.size := rowS.lt
      clear row0 rowS HL HR HY HS hn kk
      obtain ⟨nb, hnb⟩ : ∃ nb : Nat, r.fBase = (nb : Int) := ⟨r.fBase.toNat, by omega⟩
      have hnb2 : Hid (r.fBase.toNat = nb) := by show _ = _; omega
      rw [hnb2.out] at HE
      rw [hnb] at y1 hb1 hb4
      clear hnb hnb2
      go_wp2_with fail
      clear y1
      go_loopw [5, 23] (fun l i wr => ∃ (k : Nat) (a : Option Addr) (cap : Nat), k ≤ nb ∧ i = .int .i64 k ∧ l = .slice a k cap ∧ wr.ownsRow wc.heap.size 3 1 (.slice a k cap) k (ints (baseL k)) ∧ Keep Nix wc wr) (fun _ i _ => nb - (intOf i).toNat)
      case atStart => exact ⟨0, none, 0, by omega, rfl, rfl, World.ownsRow_nil _ _ _ _, Keep.refl _ _⟩
      case round =>
        obtain ⟨k, a, cap, hk, rfl, rfl, own, kd⟩ := hrel
        have hs1 := kd.size
        by_cases hlt : k < nb
        · have hi1 : (k : Int) < (nb : Int) := by omega
          have hw1 : IntKind.i64.wrap ((k : Int) + 1) = (k : Int) + 1 := by unfold IntKind.wrap; simp [IntKind.bits, IntKind.signed]; omega
          go_wp2_with (at_builtin; refine wpl_append1 T_lint rfl (.tmp 26) (.tmp 29) rfl wc.heap.size rfl own rfl rfl ?c1 ?c2 ?c3 hs1 ?_)
          case c1 => rfl
          case c2 => unfold maxLen; omega
          case c3 => omega
          intro a' cap' w6 own6 k6
          replace own6 : w6.ownsRow wc.heap.size 3 1 (.slice a' (k + 1) cap') (k + 1) (ints (baseL (k + 1))) := by rw [baseL_succ]; simpa [ints] using own6
          have hn6 : ∀ b, OwnB (.slice a k cap) b → wc.heap.size ≤ b := fun b hb => (own.lt b hb).1
          replace kd := kd.then k6 (fun i hi hb => by have := hn6 _ hb; omega)
          clear own k6
          go_wp2_with fail
          go_roundw
          case rel => exact ⟨k + 1, a', cap', by omega, by go_num, by simp, own6, kd⟩
          case measure => simp [intOf]; omega
        · obtain rfl : k = nb := by omega
          have HB : Hid ((baseL k).length = k) := baseL_len k
          go_wp2_with fail
          go_meet
          rw [HE.out, HB.out]
          exact ⟨a, cap, rfl, own_from own hbs2, kd⟩
  case rest =>
  obtain ⟨a0, cap0, rfl, own0, kd⟩ := hcut
  replace row0 := row0.keep kd id
  replace rowS := rowS.keep kd id
  replace kk := kk.trans kd
  have HR4 : Hid ((rowsL r s).length ≤ 4) := by
    show _ ≤ _
    unfold rowsL
    cases (partF s (allF 114)).2
    · simp
    · simp only [if_true, baseL_len]; omega
  have mS : r.fSpans.length ≤ 140737488351232 := by omega
  clear kd hb1 hb4 HP0
  have y2 := row0.cell 2
  (try simp only [List.getElem?_cons_succ] at y2); (try simp only [List.getElem?_cons_zero] at y2)
  go_wp2_with fail
  clear y2
  go_loopw [5, 35] (fun l i wr => ∃ (k n : Nat) (a : Option Addr) (cap : Nat), k ≤ r.fSpans.length ∧ i = .int .i64 k ∧ l = .slice a n cap ∧ Hid (n = (rowsL r s ++ entL r s (r.fSpans.take k)).length) ∧ wr.ownsRow (bs + 1 + 1) 3 1 (.slice a n cap) n (ints (rowsL r s ++ entL r s (r.fSpans.take k))) ∧
    RowIs wr bs 25 [.int .i64 r.fEpoch, .int .i64 r.fBase, .slice aS r.fSpans.length cS, .int .i64 r.fMoving, .slice aC r.fCut.length cC] ∧ RowIs wr (bs + 1) 29 [.slice sF s.fFrom.length dF, .slice sT s.fTo.length dT] ∧ Keep Nix w wr) (fun _ i _ => r.fSpans.length - (intOf i).toNat)
  case atStart => exact ⟨0, _, a0, cap0, by omega, rfl, rfl, by show _ = _; simp [entL], by simpa [entL] using own0, row0, rowS, kk⟩
  case round =>
    clear own0 row0 rowS kk
    obtain ⟨k, n, a, cap, hk, rfl, rfl, HN, own, row0, rowS, kk⟩ := hrel
    have hs0 : bs + 1 + 1 ≤ wr.heap.size := rowS.lt
    by_cases hlt : k < r.fSpans.length
    · have hi1 : (k : Int) < (r.fSpans.length : Int) := by omega
      have hi0 : (0 : Int) ≤ (k : Int) := by omega
      have hx : Hid (r.fSpans.take (k + 1) = r.fSpans.take k ++ [r.fSpans[k]]) := List.take_succ_eq_append_getElem hlt
      have hn8 : n ≤ 8 := by
        have h1 := HN.out
        have h2 := HR4.out
        have h3 := entL_len r s (r.fSpans.take k)
        rw [List.length_take] at h3
        rw [List.length_append] at h1
        omega
      have hS1 := (rList_lawful rGOwner_lawful).nix HL.out kk
      obtain ⟨b1, o1, _, _, e1, -, hbx, xr, xc⟩ := rList_at rGOwner_lawful (by decide) hS1 k hlt
      simp only [List.cons.injEq, Value.slice.injEq, and_true] at e1
      obtain ⟨rfl, -, -⟩ := e1
      have xf := fromAt_lt hlt
      clear xf hS1
      generalize r.fSpans[k] = x at *
      obtain ⟨aF, cF, rfl, -, hF, -⟩ := rGOwner_open xr
      have x0 := xc 0 _ rfl
      (try simp only [Nat.add_zero] at x0)
      have x1 := xc 1 _ rfl
      clear xr xc hF
      have kE : Keep Nix wr (wr.alloc (.cells #[.int .i64 x.fGroup, .slice aF x.fFrom.length cF] 32)) := (Keep.refl Nix wr).alloc _
      have rowE : RowIs (wr.alloc (.cells #[.int .i64 x.fGroup, .slice aF x.fFrom.length cF] 32)) wr.heap.size 32 [.int .i64 x.fGroup, .slice aF x.fFrom.length cF] := RowIs.alloc wr _ _
      replace row0 := row0.keep kE id
      replace rowS := rowS.keep kE id
      replace kk := kk.trans kE
      replace own := owned_keep own kE (fun _ _ h => h)
      clear kE
      go_upto_region 12 with fail
      clear x0 x1
      generalize hbe : wr.heap.size = be at *
      generalize wr.alloc (.cells #[.int .i64 x.fGroup, .slice aF x.fFrom.length cF] 32) = wE at *
      have ldR := Whole.run (P := Try.prog) S_Routes rfl row0
      have e0 := rowE.cell 0
      (try simp only [List.getElem?_cons_zero] at e0)
      have z0 := rowS.cell 0
      (try simp only [List.getElem?_cons_zero] at z0)
      have z1 := rowS.cell 1
      (try simp only [List.getElem?_cons_succ] at z1); (try simp only [List.getElem?_cons_zero] at z1)
      have hcall := Part_c r _ x.fGroup s _ wE (rGRoutes_lawful.nix HR.out kk) (rGSpan_lawful.nix HS.out kk)
      go_wp2_with fail
      go_fit hcall
      clear hcall
      obtain ⟨P1, HP1⟩ : ∃ y, Hid (PartF r x.fGroup s = y) := ⟨_, rfl⟩
      rw [HP1.out]
      obtain ⟨s1, v1⟩ := P1
      rintro e w3 ⟨csx, rfl, rx, k3⟩
      obtain ⟨a1, c1, a2, c2, rfl, -⟩ := rGSpan_open rx
      have kF : Keep Nix w3 (w3.alloc (.cells #[.slice a1 s1.fFrom.length c1, .slice a2 s1.fTo.length c2] 29)) := (Keep.refl Nix w3).alloc _
      replace k3 := k3.trans kF
      replace rowE := rowE.keep k3 id
      replace row0 := row0.keep k3 id
      replace rowS := rowS.keep k3 id
      replace kk := kk.trans k3
      replace own := owned_keep own k3 (fun _ _ h => h)
      clear rx k3 kF ldR e0 z0 z1
      have hEN : Hid (entL r s (r.fSpans.take (k + 1)) = entL r s (r.fSpans.take k) ++ if v1 then [x.fGroup] else []) := by show _ = _; rw [hx.out, entL_snoc, HP1.out]
      clear hx HP1
      have e0 := rowE.cell 0
      (try simp only [List.getElem?_cons_zero] at e0)
      go_upto_if 47 with fail
      generalize w3.alloc (.cells #[.slice a1 s1.fFrom.length c1, .slice a2 s1.fTo.length c2] 29) = wF at *
      have hs2 : bs + 1 + 1 ≤ wF.heap.size := rowS.lt
      cases v1 with
      | true =>
        go_wp2_with (at_builtin; refine wpl_append1 T_lint rfl (.tmp 48) (.tmp 51) rfl (bs + 1 + 1) rfl own rfl rfl ?c1 ?c2 ?c3 hs2 ?_)
        case c1 => rfl
        case c2 => unfold maxLen; omega
        case c3 => omega
        intro a' cap' w6 own6 k6
        replace own6 : w6.ownsRow (bs + 1 + 1) 3 1 (.slice a' (n + 1) cap') (n + 1) (ints (rowsL r s ++ entL r s (r.fSpans.take (k + 1)))) := by rw [hEN.out]; simpa [ints] using own6
        have hn6 : ∀ b, OwnB (.slice a n cap) b → bs + 1 + 1 ≤ b := fun b hb => (own.lt b hb).1
        replace row0 := row0.keep k6 (fun hb => by have := hn6 _ hb; omega)
        replace rowS := rowS.keep k6 (fun hb => by have := hn6 _ hb; omega)
        replace kk := kk.then k6 (fun i hi hb => by have := hn6 _ hb; omega)
        have HN2 : Hid (n + 1 = (rowsL r s ++ entL r s (r.fSpans.take (k + 1))).length) := by show _ = _; rw [hEN.out, HN.out]; simp [Nat.add_assoc]
        clear own k6 e0 rowE
        go_wp2_with fail
        go_roundw
        case rel => exact ⟨k + 1, n + 1, a', cap', by omega, by go_num, by simp, HN2, own6, row0, rowS, kk⟩
        case measure => simp [intOf]; omega
      | false =>
        have HN2 : Hid (n = (rowsL r s ++ entL r s (r.fSpans.take (k + 1))).length) := by show _ = _; rw [hEN.out, HN.out]; simp
        have own6 : wF.ownsRow (bs + 1 + 1) 3 1 (.slice a n cap) n (ints (rowsL r s ++ entL r s (r.fSpans.take (k + 1)))) := by rw [hEN.out]; simpa [ints] using own
        clear own e0 rowE
        go_wp2_with fail
        go_roundw
        case rel => exact ⟨k + 1, n, a, cap, by omega, by go_num, rfl, HN2, own6, row0, rowS, kk⟩
        case measure => simp [intOf]; omega
    · obtain rfl : k = r.fSpans.length := by omega
      rw [List.take_length] at HN own
      have hY : Hid (Y = sortI (rowsL r s ++ entL r s r.fSpans)) := by show _ = _; rw [← HY.out]; rfl
      have hn8 : n ≤ 8 := by
        have h1 := HN.out
        have h2 := HR4.out
        have h3 := entL_len r s r.fSpans
        rw [List.length_append] at h1
        omega
      have hcall := sort_c (.slice a n cap) n (rowsL r s ++ entL r s r.fSpans) wr HN.out.symm (by omega) own
      have hlen : Hid (n = Y.length) := by show _ = _; rw [hY.out, List.length_mergeSort]; exact HN.out
      have hn6 : ∀ b, OwnB (.slice a n cap) b → bs + 1 + 1 ≤ b := fun b hb => (own.lt b hb).1
      clear own row0 rowS
      go_wp2_with fail
      go_fit hcall
      rintro e w2 ⟨rfl, own, k6⟩
      clear hcall
      rw [← hY.out] at own
      replace kk := kk.then k6 (fun i hi hb => by have := hn6 _ hb; omega)
      clear k6
      go_wp2_with fail
      go_ret
      refine ⟨a, cap, by rw [hlen.out]; rfl, ?_, kk⟩
      rw [← hlen.out]
      exact own_from own (by omega)
end
end Go.Proofs.Ytpblmaklbnpbfaa
