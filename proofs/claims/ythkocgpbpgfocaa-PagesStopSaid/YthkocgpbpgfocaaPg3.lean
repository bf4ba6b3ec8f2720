/- PAGES: bytes cloned; a pair in memory of its own. Printed by mac.py. -/
import Derived.Test.YthkocgpbpgfocaaPg2
import Derived.Test.YthkocgpbpgfocaaHelp
import Derived.Lib.SliceRun
import Derived.Deep.RegionHeld3
import Derived.Deep.DeepCutAuto
import Derived.Deep.CutBlock
namespace Go.Proofs.Ythkocgpbpgfocaa
open Go.RowKit

theorem owns_empty (w : World) (e sz base : Nat) (hb : base ≤ w.heap.size) : (w.alloc (.cells #[] e)).ownsRow base e sz (.slice (some ⟨w.heap.size, 0, none⟩) 0 0) 0 [] := by
  refine ⟨by simp, .inr ⟨w.heap.size, 0, #[], rfl, hb, heap_alloc_new _ _, Nat.le_refl _, Nat.zero_le _, by simp, by simp⟩⟩
theorem list0_run {P : Program} {t e n bytes : Nat} (S : SliceT P t e n bytes) (w : World) : (Instr.buildSlice t 0 #[]).run P w = .ok (.slice (some ⟨w.heap.size, 0, none⟩) 0 0) (w.alloc (.cells #[] e)) := by
  obtain ⟨i, z, hi, hz, hsz, hby, hzs⟩ := S.info
  unfold Instr.buildSlice
  simp [run_underlying S.under, sizeOf, typeInfo, hi, newRow, newObj, Instr.fill]
  have e : ∀ f : Nat → Value, Array.map f (Array.range 0) = #[] := fun f => by apply Array.eq_empty_of_size_eq_zero; simp
  rw [e]
  rfl
set_option maxHeartbeats 1000000 in
theorem cl_c {p : Nat → Prop} (a : Option Addr) (n cap : Nat) (l : List UInt8) (w : World) (hn : l.length = n) (ha : Lies w p a (l.map bv)) (hr : n ≤ 140737488355328) :
    Calls Try.prog 42 #[.slice a n cap] w fun e w' => ∃ a' cap', e = .returned (.slice a' n cap') ∧ w'.ownsRow w.heap.size 5 1 (.slice a' n cap') n (l.map bv) ∧ Keep Nix w w' := by
  subst hn
  cases a with
  | none =>
    obtain rfl : l = [] := by
      by_cases h : l.map bv = []
      · simpa using h
      · obtain ⟨b, off, hb, -⟩ := ha h; cases hb
    have hnil := fun (w' : World) (n c : Nat) => Lib.run_eql_slice_nil (P := Try.prog) w' 27 5 none n c 0 0 Try.underlying27
    clear ha
    go_enter Try.func42, Try.ntmps42
    go_wp2_with fail
    go_ret
    exact ⟨none, 0, rfl, World.ownsRow_nil _ _ _ _, Keep.refl _ _⟩
  | some ad =>
    have hnil := fun (w' : World) => Lib.run_eql_slice_nil (P := Try.prog) w' 27 5 (some ad) l.length cap 0 0 Try.underlying27
    have hl0 := fun w' => list0_run T_bytes w'
    have own0 := owns_empty w 5 1 w.heap.size (Nat.le_refl _)
    have lies2 := ha.keep ((Keep.refl Nix w).alloc (.cells #[] 5)) (fun _ _ h => h)
    have hsz : w.heap.size ≤ (w.alloc (.cells #[] 5)).heap.size := by simp
    clear ha
    go_enter Try.func42, Try.ntmps42
    go_wp2_with (at_builtin; refine wpl_append T_bytes rfl (.tmp 5) (.tmp 6) rfl w.heap.size rfl own0 (l.map bv) rfl (by simp) lies2 (bv_one l) ?c1 ?c2 hsz ?_)
    case c1 => unfold maxLen; omega
    case c2 => omega
    intro a' cap' w2 own2 hg
    have kk : Keep Nix w w2 := ((Keep.refl Nix w).alloc (.cells #[] 5)).grown hg (fun k hk hlt => by simp [Value.ownBlock] at hk; omega)
    (try rw [Nat.zero_add, List.nil_append] at own2)
    clear own0 hg lies2
    go_wp2
    go_ret
    exact ⟨a', cap', by simp, own2, kk⟩
theorem own_from {w : World} {base base' e sz n : Nat} {v : Value} {xs : List Value} (h : w.ownsRow base e sz v n xs) (hb : base' ≤ base) : w.ownsRow base' e sz v n xs :=
  ⟨h.1, h.2.imp id fun ⟨g, cap, cur, e, h1, r⟩ => ⟨g, cap, cur, e, Nat.le_trans hb h1, r⟩⟩
set_option maxRecDepth 100000 in
set_option maxHeartbeats 1000000 in
theorem own_c {p q : Nat → Prop} (aK aV : Option Addr) (cK cV : Nat) (lk lv : List UInt8) (z : Int) (w : World) (hk : Lies w p aK (lk.map bv)) (hv : Lies w q aV (lv.map bv)) (mk : lk.length ≤ 140737488355328) (mv : lv.length ≤ 140737488355328) :
    Calls Try.prog 30 #[.agg #[.slice aK lk.length cK, .slice aV lv.length cV, .int .i64 z]] w fun e w' => ∃ a1 c1 a2 c2, e = .returned (.agg #[.slice a1 lk.length c1, .slice a2 lv.length c2, .int .i64 z]) ∧
      w'.ownsRow w.heap.size 5 1 (.slice a1 lk.length c1) lk.length (lk.map bv) ∧ w'.ownsRow w.heap.size 5 1 (.slice a2 lv.length c2) lv.length (lv.map bv) ∧ (∀ b, OwnB (.slice a1 lk.length c1) b → ¬ OwnB (.slice a2 lv.length c2) b) ∧ Keep Nix w w' := by
  have k1 : Keep Nix w (w.alloc (.cells #[.slice aK lk.length cK, .slice aV lv.length cV, .int .i64 z] 29)) := (Keep.refl Nix w).alloc _
  have rowP := RowIs.alloc w #[.slice aK lk.length cK, .slice aV lv.length cV, .int .i64 z] 29
  have k2 : Keep Nix (w.alloc (.cells #[.slice aK lk.length cK, .slice aV lv.length cV, .int .i64 z] 29)) ((w.alloc (.cells #[.slice aK lk.length cK, .slice aV lv.length cV, .int .i64 z] 29)).alloc (.cells #[.slice none 0 0, .slice none 0 0, .int .i64 0] 29)) := (Keep.refl Nix _).alloc _
  have rowR := RowIs.alloc (w.alloc (.cells #[.slice aK lk.length cK, .slice aV lv.length cV, .int .i64 z] 29)) #[.slice none 0 0, .slice none 0 0, .int .i64 0] 29
  replace rowP := rowP.keep k2 id
  have kk := k1.trans k2
  have hsz : (w.alloc (.cells #[.slice aK lk.length cK, .slice aV lv.length cV, .int .i64 z] 29)).heap.size = w.heap.size + 1 := by simp
  rw [hsz] at rowR
  clear k1 k2 hsz
  go_enter Try.func30, Try.ntmps30
  go_upto_region 1 with fail
  generalize hb : w.heap.size = b at *
  generalize ((w.alloc (.cells #[.slice aK lk.length cK, .slice aV lv.length cV, .int .i64 z] 29)).alloc (.cells #[.slice none 0 0, .slice none 0 0, .int .i64 0] 29)) = w1 at *
  have kD : Keep Nix w1 w1.drew := (Keep.refl Nix w1).drew
  replace rowP := rowP.keep kD id
  replace rowR := rowR.keep kD id
  replace kk := kk.trans kD
  clear kD
  have y0 := rowP.cell 0
  (try simp only [List.getElem?_cons_zero] at y0)
  have y1 := rowP.cell 1
  (try simp only [List.getElem?_cons_succ] at y1); (try simp only [List.getElem?_cons_zero] at y1)
  have y2 := rowP.cell 2
  (try simp only [List.getElem?_cons_succ] at y2); (try simp only [List.getElem?_cons_zero] at y2)
  refine wp_region_held_drew (S := (fun w' => w'.cell? ⟨b, 0, none⟩ = some (.slice aK lk.length cK) ∧ w'.cell? ⟨b, 1, none⟩ = some (.slice aV lv.length cV) ∧ w'.cell? ⟨b, 2, none⟩ = some (.int .i64 z))) (by kernel_rfl) (⟨y0, y1, y2⟩) (fun hHeld => ?_)
  generalize w1.drew = wd at *
  refine wpAnyH_take (i := 0) (v := ?_) rfl (by kernel_rfl) (by kernel_rfl) (by kernel_rfl) (fun _ _ _ h => h) (Or.inl ⟨by kernel_rfl, ?_⟩) hHeld ?_
  rotate_left
  · intro w' hSw
    (try dsimp only at hSw)
    (try simp only [List.getElem_toArray]); (try simp only [List.getElem_cons_succ]); (try simp only [List.getElem_cons_zero])
    go_simp
    try with_reducible rfl
  (try simp only [Act.put]); (try simp only [List.getElem_toArray]); (try simp only [List.getElem_cons_succ]); (try simp only [List.getElem_cons_zero]); (try simp only [List.setIfInBounds_toArray]); (try simp only [List.set_cons_succ]); (try simp only [List.set_cons_zero])
  refine wpAnyH_take (i := 1) (v := ?_) rfl (by kernel_rfl) (by kernel_rfl) (by kernel_rfl) (fun _ _ _ h => h) (Or.inl ⟨by kernel_rfl, ?_⟩) hHeld ?_
  rotate_left
  · intro w' hSw
    (try dsimp only at hSw)
    (try simp only [List.getElem_toArray]); (try simp only [List.getElem_cons_succ]); (try simp only [List.getElem_cons_zero])
    go_simp
    try with_reducible rfl
  (try simp only [Act.put]); (try simp only [List.getElem_toArray]); (try simp only [List.getElem_cons_succ]); (try simp only [List.getElem_cons_zero]); (try simp only [List.setIfInBounds_toArray]); (try simp only [List.set_cons_succ]); (try simp only [List.set_cons_zero])
  refine wpAnyH_take (i := 3) (v := ?_) rfl (by kernel_rfl) (by kernel_rfl) (by kernel_rfl) (fun _ _ _ h => h) (Or.inl ⟨by kernel_rfl, ?_⟩) hHeld ?_
  rotate_left
  · intro w' hSw
    (try dsimp only at hSw)
    (try simp only [List.getElem_toArray]); (try simp only [List.getElem_cons_succ]); (try simp only [List.getElem_cons_zero])
    go_simp
    try with_reducible rfl
  (try simp only [Act.put]); (try simp only [List.getElem_toArray]); (try simp only [List.getElem_cons_succ]); (try simp only [List.getElem_cons_zero]); (try simp only [List.setIfInBounds_toArray]); (try simp only [List.set_cons_succ]); (try simp only [List.set_cons_zero])
  refine wpAnyH_take (i := 4) (v := ?_) rfl (by kernel_rfl) (by kernel_rfl) (by kernel_rfl) (fun _ _ _ h => h) (Or.inl ⟨by kernel_rfl, ?_⟩) hHeld ?_
  rotate_left
  · intro w' hSw
    (try dsimp only at hSw)
    (try simp only [List.getElem_toArray]); (try simp only [List.getElem_cons_succ]); (try simp only [List.getElem_cons_zero])
    go_simp
    try with_reducible rfl
  (try simp only [Act.put]); (try simp only [List.getElem_toArray]); (try simp only [List.getElem_cons_succ]); (try simp only [List.getElem_cons_zero]); (try simp only [List.setIfInBounds_toArray]); (try simp only [List.set_cons_succ]); (try simp only [List.set_cons_zero])
  refine wpAnyH_take (i := 6) (v := ?_) rfl (by kernel_rfl) (by kernel_rfl) (by kernel_rfl) (fun _ _ _ h => h) (Or.inl ⟨by kernel_rfl, ?_⟩) hHeld ?_
  rotate_left
  · intro w' hSw
    (try dsimp only at hSw)
    (try simp only [List.getElem_toArray]); (try simp only [List.getElem_cons_succ]); (try simp only [List.getElem_cons_zero])
    go_simp
    try with_reducible rfl
  (try simp only [Act.put]); (try simp only [List.getElem_toArray]); (try simp only [List.getElem_cons_succ]); (try simp only [List.getElem_cons_zero]); (try simp only [List.setIfInBounds_toArray]); (try simp only [List.set_cons_succ]); (try simp only [List.set_cons_zero])
  refine wpAnyH_take (i := 7) (v := ?_) rfl (by kernel_rfl) (by kernel_rfl) (by kernel_rfl) (fun _ _ _ h => h) (Or.inl ⟨by kernel_rfl, ?_⟩) hHeld ?_
  rotate_left
  · intro w' hSw
    (try dsimp only at hSw)
    (try simp only [List.getElem_toArray]); (try simp only [List.getElem_cons_succ]); (try simp only [List.getElem_cons_zero])
    go_simp
    try with_reducible rfl
  (try simp only [Act.put]); (try simp only [List.getElem_toArray]); (try simp only [List.getElem_cons_succ]); (try simp only [List.getElem_cons_zero]); (try simp only [List.setIfInBounds_toArray]); (try simp only [List.set_cons_succ]); (try simp only [List.set_cons_zero])
  have hwd : b + 1 < wd.heap.size := rowR.lt
  refine wpAnyH_ready (rs := [2]) (by kernel_rfl) (by simp) ?_
  refine AllReadyH.cons rfl (fun K hK => ?_) AllReadyH.nil
  go_simp
  go_fit (cl_c aK lk.length cK lk wd rfl (hk.keep kk (fun _ _ h => h)) mk)
  rintro e w2 ⟨a1, c1, rfl, own1, k2⟩
  have hlo : ∀ i, OwnB (.slice a1 lk.length c1) i → wd.heap.size ≤ i ∧ i < w2.heap.size := fun i hi => own1.lt i hi
  have hs2 := k2.size
  replace rowP := rowP.keep k2 id
  replace rowR := rowR.keep k2 id
  replace kk := kk.trans k2
  clear y0 y1 y2 k2
  go_wp2_with fail
  have y0 := rowP.cell 0
  (try simp only [List.getElem?_cons_zero] at y0)
  have y1 := rowP.cell 1
  (try simp only [List.getElem?_cons_succ] at y1); (try simp only [List.getElem?_cons_zero] at y1)
  have y2 := rowP.cell 2
  (try simp only [List.getElem?_cons_succ] at y2); (try simp only [List.getElem?_cons_zero] at y2)
  refine hK.out _ _ (⟨y0, y1, y2⟩) (fun hHeld => ?_)
  clear hK K
  (try simp only [Act.put]); (try simp only [List.getElem_toArray]); (try simp only [List.getElem_cons_succ]); (try simp only [List.getElem_cons_zero]); (try simp only [List.setIfInBounds_toArray]); (try simp only [List.set_cons_succ]); (try simp only [List.set_cons_zero])
  refine wpAnyH_ready (rs := [5]) (by kernel_rfl) (by simp) ?_
  refine AllReadyH.cons rfl (fun K hK => ?_) AllReadyH.nil
  go_simp
  go_fit (cl_c aV lv.length cV lv w2 rfl (hv.keep kk (fun _ _ h => h)) mv)
  rintro e w3 ⟨a2, c2, rfl, own2, k3⟩
  have hhi : ∀ i, OwnB (.slice a2 lv.length c2) i → w2.heap.size ≤ i := fun i hi => (own2.lt i hi).1
  have hs3 := k3.size
  replace own1 := owned_keep own1 k3 (fun _ _ h => h)
  replace rowP := rowP.keep k3 id
  replace rowR := rowR.keep k3 id
  replace kk := kk.trans k3
  clear y0 y1 y2 k3
  go_wp2_with fail
  have y0 := rowP.cell 0
  (try simp only [List.getElem?_cons_zero] at y0)
  have y1 := rowP.cell 1
  (try simp only [List.getElem?_cons_succ] at y1); (try simp only [List.getElem?_cons_zero] at y1)
  have y2 := rowP.cell 2
  (try simp only [List.getElem?_cons_succ] at y2); (try simp only [List.getElem?_cons_zero] at y2)
  refine hK.out _ _ (⟨y0, y1, y2⟩) (fun hHeld => ?_)
  clear hK K
  (try simp only [Act.put]); (try simp only [List.getElem_toArray]); (try simp only [List.getElem_cons_succ]); (try simp only [List.getElem_cons_zero]); (try simp only [List.setIfInBounds_toArray]); (try simp only [List.set_cons_succ]); (try simp only [List.set_cons_zero])
  refine wpAnyH_take (i := 8) (v := ?_) rfl (by kernel_rfl) (by kernel_rfl) (by kernel_rfl) (fun _ _ _ h => h) (Or.inl ⟨by kernel_rfl, ?_⟩) hHeld ?_
  rotate_left
  · intro w' hSw
    (try dsimp only at hSw)
    (try simp only [List.getElem_toArray]); (try simp only [List.getElem_cons_succ]); (try simp only [List.getElem_cons_zero])
    go_simp
    try with_reducible rfl
  (try simp only [Act.put]); (try simp only [List.getElem_toArray]); (try simp only [List.getElem_cons_succ]); (try simp only [List.getElem_cons_zero]); (try simp only [List.setIfInBounds_toArray]); (try simp only [List.set_cons_succ]); (try simp only [List.set_cons_zero])
  have z0 := rowR.cell 0
  (try simp only [List.getElem?_cons_zero] at z0)
  have z1 := rowR.cell 1
  (try simp only [List.getElem?_cons_succ] at z1); (try simp only [List.getElem?_cons_zero] at z1)
  have z2 := rowR.cell 2
  (try simp only [List.getElem?_cons_succ] at z2); (try simp only [List.getElem?_cons_zero] at z2)
  have g0 := rowR.frozen 0
  have g1 := rowR.frozen 1
  have g2 := rowR.frozen 2
  have rowF : RowIs (((w3.setCell ⟨b + 1, 0, none⟩ (.slice a1 lk.length c1)).setCell ⟨b + 1, 1, none⟩ (.slice a2 lv.length c2)).setCell ⟨b + 1, 2, none⟩ (.int .i64 z)) (b + 1) 29 [.slice a1 lk.length c1, .slice a2 lv.length c2, .int .i64 z] := ((rowR.set 0 _).set 1 _).set 2 _
  have kS : Keep (· = b + 1) w3 (((w3.setCell ⟨b + 1, 0, none⟩ (.slice a1 lk.length c1)).setCell ⟨b + 1, 1, none⟩ (.slice a2 lv.length c2)).setCell ⟨b + 1, 2, none⟩ (.int .i64 z)) := (((Keep.refl (· = b + 1) w3).setCell (p := ⟨b + 1, 0, none⟩) (fun _ => rfl) _).setCell (p := ⟨b + 1, 1, none⟩) (fun _ => rfl) _).setCell (p := ⟨b + 1, 2, none⟩) (fun _ => rfl) _
  have rowP' := rowP.keep kS (by omega)
  have own1' := owned_keep own1 kS (fun i hi e => by have := (hlo i hi).1; omega)
  have hw2 : wd.heap.size ≤ w2.heap.size := hs2
  have own2' := owned_keep own2 kS (fun i hi e => by have := hhi i hi; omega)
  have kk' := kk.then kS (fun i hi e => by omega)
  refine wpAnyH_ready (rs := [9]) (by kernel_rfl) (by simp) ?_
  refine AllReadyH.cons rfl (fun K hK => ?_) AllReadyH.nil
  go_simp
  clear y0 y1 y2 z0 z1 z2 g0 g1 g2 rowP rowR own1 own2 kk kS
  generalize (((w3.setCell ⟨b + 1, 0, none⟩ (.slice a1 lk.length c1)).setCell ⟨b + 1, 1, none⟩ (.slice a2 lv.length c2)).setCell ⟨b + 1, 2, none⟩ (.int .i64 z)) = wz at *
  have y0 := rowP'.cell 0
  (try simp only [List.getElem?_cons_zero] at y0)
  have y1 := rowP'.cell 1
  (try simp only [List.getElem?_cons_succ] at y1); (try simp only [List.getElem?_cons_zero] at y1)
  have y2 := rowP'.cell 2
  (try simp only [List.getElem?_cons_succ] at y2); (try simp only [List.getElem?_cons_zero] at y2)
  refine hK.out _ _ (⟨y0, y1, y2⟩) (fun hHeld => ?_)
  clear hK K
  (try simp only [Act.put]); (try simp only [List.getElem_toArray]); (try simp only [List.getElem_cons_succ]); (try simp only [List.getElem_cons_zero]); (try simp only [List.setIfInBounds_toArray]); (try simp only [List.set_cons_succ]); (try simp only [List.set_cons_zero])
  refine wpAnyH_done (by kernel_rfl) ?_ _
  clear y0 y1 y2 hHeld
  go_wp2_with fail
  have hinfo : (Try.prog.info? 29).map (·.size) = some 3 := by kernel_rfl
  refine bodyPost_ret (results_cell_row (by rfl) _ _ _ _ _ _ _ (by rfl) rowF Try.underlying29 (by rfl) hinfo) rfl ?_
  refine ⟨a1, c1, a2, c2, rfl, ?_, ?_, fun i h1 h2 => by have := (hlo i h1).2; have := hhi i h2; omega, kk'⟩
  · exact own_from own1' (by rw [hb]; omega)
  · exact own_from own2' (by rw [hb]; omega)
end Go.Proofs.Ythkocgpbpgfocaa
