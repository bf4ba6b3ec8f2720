/- DISK: a fork. Printed by mac.py. -/
import Derived.Test.YtdnbpfohmhhmkaaDkE
namespace Go.Proofs.Ytdnbpfohmhhmkaa
open Go.RowKit

theorem own_base {w : World} {base e sz n : Nat} {v : Value} {xs : List Value} (h : w.ownsRow base e sz v n xs) : w.ownsRow 0 e sz v n xs :=
  ⟨h.1, h.2.imp id fun ⟨g, cap, cur, e, _, r⟩ => ⟨g, cap, cur, e, Nat.zero_le _, r⟩⟩
set_option maxRecDepth 100000 in
set_option maxHeartbeats 4000000 in
theorem fork_c {p : Nat → Prop} (g : Nat) (S : List (List UInt8)) (Q : List (Int × List UInt8)) (dn : Bool) (ar : Int) (w : World) (hd : IsDisk w p g S Q dn ar) (ok : DiskOk S Q ar) (hQ : Q.length ≤ 1000) :
    Calls Try.prog 26 #[.pointer (some ⟨g, 0, none⟩)] w fun e w' => ∃ g2, e = .returned (.pointer (some ⟨g2, 0, none⟩)) ∧ IsDisk w' (fun b => w.heap.size ≤ b) g2 S Q dn ar ∧ Keep Nix w w' := by
  obtain ⟨aS, cS, aQ, cQ, row, hown, howq, hp, hap, haq⟩ := hd
  have hS := secs_len ok.s64
  have hW := wrts_len (fun q hq => (ok.q64 q hq).1)
  have hn := ok.n
  have lS := Lies.of_owned hown
  have lQ := Lies.of_owned howq
  have x0 := row.cell 0
  (try simp only [List.getElem?_cons_succ] at x0); (try simp only [List.getElem?_cons_zero] at x0)
  have x1 := row.cell 1
  (try simp only [List.getElem?_cons_succ] at x1); (try simp only [List.getElem?_cons_zero] at x1)
  have x2 := row.cell 2
  (try simp only [List.getElem?_cons_succ] at x2); (try simp only [List.getElem?_cons_zero] at x2)
  have x3 := row.cell 3
  (try simp only [List.getElem?_cons_succ] at x3); (try simp only [List.getElem?_cons_zero] at x3)
  go_enter Try.func26, Try.ntmps26
  go_upto_region 4 with fail
  clear x0 x1 x2 x3
  have rowN := RowIs.alloc w #[.slice aS S.length cS, .slice aQ Q.length cQ, .bool dn, .int .i64 ar] 62
  have kA : Keep Nix w (w.alloc (.cells #[.slice aS S.length cS, .slice aQ Q.length cQ, .bool dn, .int .i64 ar] 62)) := (Keep.refl Nix w).alloc _
  have kD : Keep Nix (w.alloc (.cells #[.slice aS S.length cS, .slice aQ Q.length cQ, .bool dn, .int .i64 ar] 62)) (w.alloc (.cells #[.slice aS S.length cS, .slice aQ Q.length cQ, .bool dn, .int .i64 ar] 62)).drew := (Keep.refl Nix _).drew
  replace rowN := rowN.keep kD id
  have kk := kA.trans kD
  clear kA kD
  have hgw := row.lt
  replace row := row.keep kk id
  replace lS := lS.keep kk (fun _ _ h => h)
  replace lQ := lQ.keep kk (fun _ _ h => h)
  have y0 := row.cell 0
  (try simp only [List.getElem?_cons_succ] at y0); (try simp only [List.getElem?_cons_zero] at y0)
  have y1 := row.cell 1
  (try simp only [List.getElem?_cons_succ] at y1); (try simp only [List.getElem?_cons_zero] at y1)
  refine wp_region_held_drew (S := (fun w' => w'.cell? ⟨g, 0, none⟩ = some (.slice aS S.length cS) ∧ w'.cell? ⟨g, 1, none⟩ = some (.slice aQ Q.length cQ))) (by kernel_rfl) (⟨y0, y1⟩) (fun hHeld => ?_)
  generalize hg2 : w.heap.size = g2 at *
  generalize (w.alloc (.cells #[.slice aS S.length cS, .slice aQ Q.length cQ, .bool dn, .int .i64 ar] 62)).drew = wq at *
  refine wpAnyH_take (i := 0) (v := ?_) rfl (by kernel_rfl) (by kernel_rfl) (by kernel_rfl) (fun _ _ _ h => h) (Or.inl ⟨by kernel_rfl, ?_⟩) hHeld ?_
  rotate_left
  · intro w' hSw
    (try dsimp only at hSw)
    (try simp only [List.getElem_toArray]); (try simp only [List.getElem_cons_succ]); (try simp only [List.getElem_cons_zero])
    go_simp
    try with_reducible rfl
  (try simp only [Act.put]); (try simp only [List.getElem_toArray]); (try simp only [List.getElem_cons_succ]); (try simp only [List.getElem_cons_zero]); (try simp only [List.setIfInBounds_toArray]); (try simp only [List.set_cons_succ]); (try simp only [List.set_cons_zero])
  refine wpAnyH_take (i := 1) (v := ?_) rfl (by kernel_rfl) (by kernel_rfl) (by kernel_rfl) (fun _ _ _ h => h) (Or.inl ⟨by kernel_rfl, ?_⟩) hHeld ?_
  rotate_left
  · intro w' hSw
    (try dsimp only at hSw)
    (try simp only [List.getElem_toArray]); (try simp only [List.getElem_cons_succ]); (try simp only [List.getElem_cons_zero])
    go_simp
    try with_reducible rfl
  (try simp only [Act.put]); (try simp only [List.getElem_toArray]); (try simp only [List.getElem_cons_succ]); (try simp only [List.getElem_cons_zero]); (try simp only [List.setIfInBounds_toArray]); (try simp only [List.set_cons_succ]); (try simp only [List.set_cons_zero])
  refine wpAnyH_take (i := 2) (v := ?_) rfl (by kernel_rfl) (by kernel_rfl) (by kernel_rfl) (fun _ _ _ h => h) (Or.inl ⟨by kernel_rfl, ?_⟩) hHeld ?_
  rotate_left
  · intro w' hSw
    (try dsimp only at hSw)
    (try simp only [List.getElem_toArray]); (try simp only [List.getElem_cons_succ]); (try simp only [List.getElem_cons_zero])
    go_simp
    try with_reducible rfl
  (try simp only [Act.put]); (try simp only [List.getElem_toArray]); (try simp only [List.getElem_cons_succ]); (try simp only [List.getElem_cons_zero]); (try simp only [List.setIfInBounds_toArray]); (try simp only [List.set_cons_succ]); (try simp only [List.set_cons_zero])
  refine wpAnyH_take (i := 3) (v := ?_) rfl (by kernel_rfl) (by kernel_rfl) (by kernel_rfl) (fun _ _ _ h => h) (Or.inl ⟨by kernel_rfl, ?_⟩) hHeld ?_
  rotate_left
  · intro w' hSw
    (try dsimp only at hSw)
    (try simp only [List.getElem_toArray]); (try simp only [List.getElem_cons_succ]); (try simp only [List.getElem_cons_zero])
    go_simp
    try with_reducible rfl
  (try simp only [Act.put]); (try simp only [List.getElem_toArray]); (try simp only [List.getElem_cons_succ]); (try simp only [List.getElem_cons_zero]); (try simp only [List.setIfInBounds_toArray]); (try simp only [List.set_cons_succ]); (try simp only [List.set_cons_zero])
  refine wpAnyH_take (i := 5) (v := ?_) rfl (by kernel_rfl) (by kernel_rfl) (by kernel_rfl) (fun _ _ _ h => h) (Or.inl ⟨by kernel_rfl, ?_⟩) hHeld ?_
  rotate_left
  · intro w' hSw
    (try dsimp only at hSw)
    (try simp only [List.getElem_toArray]); (try simp only [List.getElem_cons_succ]); (try simp only [List.getElem_cons_zero])
    go_simp
    try with_reducible rfl
  (try simp only [Act.put]); (try simp only [List.getElem_toArray]); (try simp only [List.getElem_cons_succ]); (try simp only [List.getElem_cons_zero]); (try simp only [List.setIfInBounds_toArray]); (try simp only [List.set_cons_succ]); (try simp only [List.set_cons_zero])
  refine wpAnyH_take (i := 6) (v := ?_) rfl (by kernel_rfl) (by kernel_rfl) (by kernel_rfl) (fun _ _ _ h => h) (Or.inl ⟨by kernel_rfl, ?_⟩) hHeld ?_
  rotate_left
  · intro w' hSw
    (try dsimp only at hSw)
    (try simp only [List.getElem_toArray]); (try simp only [List.getElem_cons_succ]); (try simp only [List.getElem_cons_zero])
    go_simp
    try with_reducible rfl
  (try simp only [Act.put]); (try simp only [List.getElem_toArray]); (try simp only [List.getElem_cons_succ]); (try simp only [List.getElem_cons_zero]); (try simp only [List.setIfInBounds_toArray]); (try simp only [List.set_cons_succ]); (try simp only [List.set_cons_zero])
  refine wpAnyH_take (i := 7) (v := ?_) rfl (by kernel_rfl) (by kernel_rfl) (by kernel_rfl) (fun _ _ _ h => h) (Or.inl ⟨by kernel_rfl, ?_⟩) hHeld ?_
  rotate_left
  · intro w' hSw
    (try dsimp only at hSw)
    (try simp only [List.getElem_toArray]); (try simp only [List.getElem_cons_succ]); (try simp only [List.getElem_cons_zero])
    go_simp
    try with_reducible rfl
  (try simp only [Act.put]); (try simp only [List.getElem_toArray]); (try simp only [List.getElem_cons_succ]); (try simp only [List.getElem_cons_zero]); (try simp only [List.setIfInBounds_toArray]); (try simp only [List.set_cons_succ]); (try simp only [List.set_cons_zero])
  refine wpAnyH_take (i := 8) (v := ?_) rfl (by kernel_rfl) (by kernel_rfl) (by kernel_rfl) (fun _ _ _ h => h) (Or.inl ⟨by kernel_rfl, ?_⟩) hHeld ?_
  rotate_left
  · intro w' hSw
    (try dsimp only at hSw)
    (try simp only [List.getElem_toArray]); (try simp only [List.getElem_cons_succ]); (try simp only [List.getElem_cons_zero])
    go_simp
    try with_reducible rfl
  (try simp only [Act.put]); (try simp only [List.getElem_toArray]); (try simp only [List.getElem_cons_succ]); (try simp only [List.getElem_cons_zero]); (try simp only [List.setIfInBounds_toArray]); (try simp only [List.set_cons_succ]); (try simp only [List.set_cons_zero])
  refine wpAnyH_ready (rs := [4]) (by kernel_rfl) (by simp) ?_
  refine AllReadyH.cons rfl (fun K hK => ?_) AllReadyH.nil
  go_simp
  go_fit (clS_c aS S.length cS (secs S) wq hS lS (secs_one S) hn)
  rintro e w1 ⟨a2, c2, rfl, own2, k1⟩
  have hz2 := rowN.lt
  have hlo : ∀ b, OwnB (.slice a2 S.length c2) b → wq.heap.size ≤ b ∧ b < w1.heap.size := fun b hb => own2.lt b hb
  replace rowN := rowN.keep k1 id
  replace row := row.keep k1 id
  replace lQ := lQ.keep k1 (fun _ _ h => h)
  clear y0 y1
  have y0 := row.cell 0
  (try simp only [List.getElem?_cons_succ] at y0); (try simp only [List.getElem?_cons_zero] at y0)
  have y1 := row.cell 1
  (try simp only [List.getElem?_cons_succ] at y1); (try simp only [List.getElem?_cons_zero] at y1)
  go_wp2_with fail
  refine hK.out _ _ (⟨y0, y1⟩) (fun hHeld => ?_)
  clear hK K
  (try simp only [Act.put]); (try simp only [List.getElem_toArray]); (try simp only [List.getElem_cons_succ]); (try simp only [List.getElem_cons_zero]); (try simp only [List.setIfInBounds_toArray]); (try simp only [List.set_cons_succ]); (try simp only [List.set_cons_zero])
  refine wpAnyH_ready (rs := [9]) (by kernel_rfl) (by simp) ?_
  refine AllReadyH.cons rfl (fun K hK => ?_) AllReadyH.nil
  go_simp
  go_fit (clQ_c aQ Q.length cQ (wrts Q) w1 hW lQ (wrts_one Q) (by omega))
  rintro e w2 ⟨a3, c3, rfl, own3, k2⟩
  have hs1 := k1.size
  have hs2 := k2.size
  replace rowN := rowN.keep k2 id
  replace row := row.keep k2 id
  replace own2 := owned_keep own2 k2 (fun _ _ h => h)
  replace kk := (kk.trans k1).trans k2
  clear y0 y1 k1 k2 lS lQ
  have y0 := row.cell 0
  (try simp only [List.getElem?_cons_succ] at y0); (try simp only [List.getElem?_cons_zero] at y0)
  have y1 := row.cell 1
  (try simp only [List.getElem?_cons_succ] at y1); (try simp only [List.getElem?_cons_zero] at y1)
  go_wp2_with fail
  refine hK.out _ _ (⟨y0, y1⟩) (fun hHeld => ?_)
  clear hK K
  (try simp only [Act.put]); (try simp only [List.getElem_toArray]); (try simp only [List.getElem_cons_succ]); (try simp only [List.getElem_cons_zero]); (try simp only [List.setIfInBounds_toArray]); (try simp only [List.set_cons_succ]); (try simp only [List.set_cons_zero])
  refine wpAnyH_take (i := 10) (v := ?_) rfl (by kernel_rfl) (by kernel_rfl) (by kernel_rfl) (fun _ _ _ h => h) (Or.inl ⟨by kernel_rfl, ?_⟩) hHeld ?_
  rotate_left
  · intro w' hSw
    (try dsimp only at hSw)
    (try simp only [List.getElem_toArray]); (try simp only [List.getElem_cons_succ]); (try simp only [List.getElem_cons_zero])
    go_simp
    try with_reducible rfl
  (try simp only [Act.put]); (try simp only [List.getElem_toArray]); (try simp only [List.getElem_cons_succ]); (try simp only [List.getElem_cons_zero]); (try simp only [List.setIfInBounds_toArray]); (try simp only [List.set_cons_succ]); (try simp only [List.set_cons_zero])
  have f0 := rowN.frozen 0
  have z0 := rowN.cell 0
  (try simp only [List.getElem?_cons_succ] at z0); (try simp only [List.getElem?_cons_zero] at z0)
  have f1 := rowN.frozen 1
  have kS : Keep (· = g2) w2 (w2.setCell ⟨g2, 0, none⟩ (.slice a2 S.length c2)) := (Keep.refl (· = g2) w2).setCell (p := ⟨g2, 0, none⟩) (fun _ => rfl) _
  have rowN' : RowIs (w2.setCell ⟨g2, 0, none⟩ (.slice a2 S.length c2)) g2 62 [.slice a2 S.length c2, .slice aQ Q.length cQ, .bool dn, .int .i64 ar] := rowN.set 0 _
  have hne : ¬ g = g2 := by omega
  have row' := row.keep kS hne
  have own2' := owned_keep own2 kS (fun b hb e => by have := (own2.lt b hb).1; omega)
  have own3' := owned_keep own3 kS (fun b hb e => by have := (own3.lt b hb).1; omega)
  have kk' := kk.then kS (fun i hi e => by omega)
  refine wpAnyH_ready (rs := [11]) (by kernel_rfl) (by simp) ?_
  refine AllReadyH.cons rfl (fun K hK => ?_) AllReadyH.nil
  go_simp
  clear y0 y1 z0 f0 f1 kS rowN row own2 own3 kk
  generalize w2.setCell ⟨g2, 0, none⟩ (.slice a2 S.length c2) = w3 at *
  have y0 := row'.cell 0
  (try simp only [List.getElem?_cons_succ] at y0); (try simp only [List.getElem?_cons_zero] at y0)
  have y1 := row'.cell 1
  (try simp only [List.getElem?_cons_succ] at y1); (try simp only [List.getElem?_cons_zero] at y1)
  refine hK.out _ _ (⟨y0, y1⟩) (fun hHeld => ?_)
  clear hK K
  (try simp only [Act.put]); (try simp only [List.getElem_toArray]); (try simp only [List.getElem_cons_succ]); (try simp only [List.getElem_cons_zero]); (try simp only [List.setIfInBounds_toArray]); (try simp only [List.set_cons_succ]); (try simp only [List.set_cons_zero])
  refine wpAnyH_take (i := 12) (v := ?_) rfl (by kernel_rfl) (by kernel_rfl) (by kernel_rfl) (fun _ _ _ h => h) (Or.inl ⟨by kernel_rfl, ?_⟩) hHeld ?_
  rotate_left
  · intro w' hSw
    (try dsimp only at hSw)
    (try simp only [List.getElem_toArray]); (try simp only [List.getElem_cons_succ]); (try simp only [List.getElem_cons_zero])
    go_simp
    try with_reducible rfl
  (try simp only [Act.put]); (try simp only [List.getElem_toArray]); (try simp only [List.getElem_cons_succ]); (try simp only [List.getElem_cons_zero]); (try simp only [List.setIfInBounds_toArray]); (try simp only [List.set_cons_succ]); (try simp only [List.set_cons_zero])
  have f0 := rowN'.frozen 1
  have z0 := rowN'.cell 1
  (try simp only [List.getElem?_cons_succ] at z0); (try simp only [List.getElem?_cons_zero] at z0)
  have kS : Keep (· = g2) w3 (w3.setCell ⟨g2, 1, none⟩ (.slice a3 Q.length c3)) := (Keep.refl (· = g2) w3).setCell (p := ⟨g2, 1, none⟩) (fun _ => rfl) _
  have rowF : RowIs (w3.setCell ⟨g2, 1, none⟩ (.slice a3 Q.length c3)) g2 62 [.slice a2 S.length c2, .slice a3 Q.length c3, .bool dn, .int .i64 ar] := rowN'.set 1 _
  have row := row'.keep kS hne
  have own2 := owned_keep own2' kS (fun b hb e => by have := (own2'.lt b hb).1; omega)
  have own3 := owned_keep own3' kS (fun b hb e => by have := (own3'.lt b hb).1; omega)
  have kk := kk'.then kS (fun i hi e => by omega)
  have hhi : ∀ b, OwnB (.slice a3 Q.length c3) b → w1.heap.size ≤ b := fun b hb => (own3.lt b hb).1
  refine wpAnyH_ready (rs := [13]) (by kernel_rfl) (by simp) ?_
  refine AllReadyH.cons rfl (fun K hK => ?_) AllReadyH.nil
  go_simp
  clear y0 y1 z0 f0 kS rowN' row' own2' own3' kk'
  generalize w3.setCell ⟨g2, 1, none⟩ (.slice a3 Q.length c3) = w4 at *
  have y0 := row.cell 0
  (try simp only [List.getElem?_cons_succ] at y0); (try simp only [List.getElem?_cons_zero] at y0)
  have y1 := row.cell 1
  (try simp only [List.getElem?_cons_succ] at y1); (try simp only [List.getElem?_cons_zero] at y1)
  refine hK.out _ _ (⟨y0, y1⟩) (fun hHeld => ?_)
  clear hK K
  (try simp only [Act.put]); (try simp only [List.getElem_toArray]); (try simp only [List.getElem_cons_succ]); (try simp only [List.getElem_cons_zero]); (try simp only [List.setIfInBounds_toArray]); (try simp only [List.set_cons_succ]); (try simp only [List.set_cons_zero])
  refine wpAnyH_done (by kernel_rfl) ?_ _
  clear hHeld y0 y1
  go_wp2_with fail
  go_ret
  exact ⟨g2, rfl, ⟨a2, c2, a3, c3, rowF, own_base own2, own_base own3, (by show w.heap.size ≤ g2; omega), fun b hb => ⟨by show w.heap.size ≤ b; have := (hlo b hb).1; omega, by have := (hlo b hb).1; omega⟩, fun b hb => ⟨by show w.heap.size ≤ b; have := hhi b hb; omega, by have := hhi b hb; omega, fun h => by have := hhi b hb; have := (hlo b h).2; omega⟩⟩, kk⟩
end Go.Proofs.Ytdnbpfohmhhmkaa
