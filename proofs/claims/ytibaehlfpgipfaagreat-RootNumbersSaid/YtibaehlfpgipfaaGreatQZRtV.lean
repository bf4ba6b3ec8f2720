/- ROUTE: a group's keys from one on are about to move: Cut. Printed by mac.py. -/
import Derived.Test.YtibaehlfpgipfaaGreatQZRtT
import Derived.Test.YtibaehlfpgipfaaGreatQZRtKb
namespace Go.Proofs.YtibaehlfpgipfaaGreat
open Go.RowKit
theorem OwnR.listV {base : Nat} {w : World} {a : Option Addr} {c : Nat} {css : List (List Value)} {l : List GOwner} {p : Nat → Prop} (own : w.ownsRow base 97 2 (.slice a l.length c) l.length css.flatten) (els : Els rGOwner w p css l) (hp : ∀ b, OwnB (.slice a l.length c) b → p b) (hf : l.length ≤ far) : rList rGOwner w p [.slice a l.length c] l :=
 ⟨a, c, css, rfl, els.1, fun hx => by
  obtain ⟨b, off, ha, h1, h2, h3⟩ := Lies.of_owned own hx
  exact ⟨b, off, ha, hp b h1.2, h2, h3⟩, (owned_bounds own).2.1, hf, els.2⟩
theorem OwnR.routesV {base : Nat} {w : World} {cs : List Value} {r : GRoutes} (h : OwnR base w cs r) (hE : isI64 r.fEpoch) (hB : isI64 r.fBase) (hM : isI64 r.fMoving) (hf : r.fSpans.length ≤ 30) : rGRoutes w (fun b => base ≤ b ∧ b < w.heap.size) cs r := by
 obtain ⟨a, c, aC, cC, css, rfl, own, els, LC⟩ := h
 refine rGRoutes_mk _ _ hE hB (OwnR.listV own (els.mono rGOwner_lawful (fun b hb => hb.1)) (fun b hb => own.lt b hb) (by unfold far; omega)) hM (LC.mono (fun b hb => hb.1))
def cutF (r : GRoutes) (g : Int) (l : List UInt8) : GRoutes × Int :=
 if r.fMoving ≠ 0 then (r, 7) else if placeI g r.fSpans < 0 then (r, 5) else if (!behindF r.fSpans g l) = true ∨ 600 < l.length then (r, 1) else (⟨upI r.fEpoch, r.fBase, r.fSpans, g, l⟩, 0)
def RetRX (w : World) (y : GRoutes × Int) (e : Ending) (w' : World) : Prop := ∃ cs : List Value, e = .returned (.tuple #[.agg cs.toArray, .int .i64 y.2]) ∧ rGRoutes w' (fun b => w.heap.size ≤ b) cs y.1 ∧ Keep Nix w w'
section
attribute [local go_sem ↓] ldz_Routes
set_option maxRecDepth 100000 in
set_option maxHeartbeats 4000000 in
theorem Cut_c {p q : Nat → Prop} (r : GRoutes) (csr : List Value) (g : Int) (a : Option Addr) (cap : Nat) (l : List UInt8) (w : World) (hr : rGRoutes w p csr r) (hl : LB w q a cap l) (hn4 : r.fSpans.length ≤ 30) (hg : isI64 g) :
  Calls Tryz.prog 68 #[.agg csr.toArray, .int .i64 g, .slice a l.length cap] w (RetRX w (cutF r g l)) := by
 have HR := Lib.hid hr
 obtain ⟨aS, cS, aC, cC, rfl, hE, hB, hS, hM, hC, -⟩ := rGRoutes_open hr
 obtain ⟨Y, HY⟩ : ∃ y, Hid (cutF r g l = y) := ⟨_, rfl⟩
 rw [HY.out]
 have k1 := fun (w : World) (o : Obj) => (Keep.refl Nix w).alloc o
 have kk : Keep Nix w (((w.alloc (.cells #[.int .i64 r.fEpoch, .int .i64 r.fBase, .slice aS r.fSpans.length cS, .int .i64 r.fMoving, .slice aC r.fCut.length cC] 53))).alloc (.cells #[.int .i64 0, .int .i64 0, .slice none 0 0, .int .i64 0, .slice none 0 0] 53)) := (k1 _ _).trans (k1 _ _)
 have row0 : RowIs (((w.alloc (.cells #[.int .i64 r.fEpoch, .int .i64 r.fBase, .slice aS r.fSpans.length cS, .int .i64 r.fMoving, .slice aC r.fCut.length cC] 53))).alloc (.cells #[.int .i64 0, .int .i64 0, .slice none 0 0, .int .i64 0, .slice none 0 0] 53)) w.heap.size 53 [.int .i64 r.fEpoch, .int .i64 r.fBase, .slice aS r.fSpans.length cS, .int .i64 r.fMoving, .slice aC r.fCut.length cC] := (RowIs.alloc w _ _).keep (k1 _ _) id
 have rowR : RowIs (((w.alloc (.cells #[.int .i64 r.fEpoch, .int .i64 r.fBase, .slice aS r.fSpans.length cS, .int .i64 r.fMoving, .slice aC r.fCut.length cC] 53))).alloc (.cells #[.int .i64 0, .int .i64 0, .slice none 0 0, .int .i64 0, .slice none 0 0] 53)) (w.heap.size + 1) 53 [.int .i64 0, .int .i64 0, .slice none 0 0, .int .i64 0, .slice none 0 0] := by
  have h := RowIs.alloc (w.alloc (.cells #[.int .i64 r.fEpoch, .int .i64 r.fBase, .slice aS r.fSpans.length cS, .int .i64 r.fMoving, .slice aC r.fCut.length cC] 53)) #[.int .i64 0, .int .i64 0, .slice none 0 0, .int .i64 0, .slice none 0 0] 53
  simpa using h
 have hinfo : (Tryz.prog.info? 53).map (·.size) = some 5 := by kernel_rfl
 have HI := Lib.hid (And.intro hE (And.intro hB hM))
 have HL := Lib.hid hl
 have HGI := Lib.hid hg
 clear hr k1 hE hM hC hB hS hl hg
 go_enter Tryz.func68, Tryz.ntmps68
 go_upto_region 1 with fail
 generalize (((w.alloc (.cells #[.int .i64 r.fEpoch, .int .i64 r.fBase, .slice aS r.fSpans.length cS, .int .i64 r.fMoving, .slice aC r.fCut.length cC] 53))).alloc (.cells #[.int .i64 0, .int .i64 0, .slice none 0 0, .int .i64 0, .slice none 0 0] 53)) = w1 at *
 generalize hbs : w.heap.size = bs at *
 have hs1 : bs + 1 + 1 ≤ w1.heap.size := rowR.lt
 have ldR := Whole.run (P := Tryz.prog) S_Routes rfl row0
 go_wp2_with fail
 go_fit (routesOwn_c r [.int .i64 r.fEpoch, .int .i64 r.fBase, .slice aS r.fSpans.length cS, .int .i64 r.fMoving, .slice aC r.fCut.length cC] w1 (rGRoutes_lawful.nix HR.out kk) hn4)
 rintro e w2 ⟨cs8, rfl, own8, k2⟩
 have GR := own8.routesV HI.out.1 HI.out.2.1 HI.out.2.2 hn4
 obtain ⟨a8, c8, aD, cD, css, rfl, -⟩ := own8
 have k3 : Keep Nix w2 (w2.alloc (.cells #[.int .i64 r.fEpoch, .int .i64 r.fBase, .slice a8 r.fSpans.length c8, .int .i64 r.fMoving, .slice aD r.fCut.length cD] 53)) := (Keep.refl Nix w2).alloc _
 have row8 : RowIs (w2.alloc (.cells #[.int .i64 r.fEpoch, .int .i64 r.fBase, .slice a8 r.fSpans.length c8, .int .i64 r.fMoving, .slice aD r.fCut.length cD] 53)) w2.heap.size 53 [.int .i64 r.fEpoch, .int .i64 r.fBase, .slice a8 r.fSpans.length c8, .int .i64 r.fMoving, .slice aD r.fCut.length cD] := RowIs.alloc w2 _ _
 replace row0 := (row0.keep k2 id).keep k3 id
 replace rowR := (rowR.keep k2 id).keep k3 id
 replace GR := rGRoutes_lawful.nix GR k3
 have hs2 := k2.size
 replace kk := (kk.trans k2).trans k3
 clear ldR k2 k3
 go_upto_block 0 with fail
 generalize w2.alloc (.cells #[.int .i64 r.fEpoch, .int .i64 r.fBase, .slice a8 r.fSpans.length c8, .int .i64 r.fMoving, .slice aD r.fCut.length cD] 53) = w3 at *
 generalize hb8 : w2.heap.size = b8 at *
 have hb81 : bs + 1 < b8 := by omega
 by_cases hm : r.fMoving = 0
 rotate_left
 ·have hm1 : (r.fMoving != 0) = true := by simpa using hm
  have HQ : Hid (Y = (r, 7)) := by show _ = _; rw [← HY.out, cutF, if_pos hm]
  have y3 := row0.cell 3
  (try simp only [List.getElem?_cons_succ] at y3); (try simp only [List.getElem?_cons_zero] at y3)
  clear hm
  have ld8 := Whole.run (P := Tryz.prog) S_Routes rfl row8
  have z0 := rowR.cell 0
  (try simp only [List.getElem?_cons_zero] at z0)
  have z1 := rowR.cell 1
  (try simp only [List.getElem?_cons_succ] at z1); (try simp only [List.getElem?_cons_zero] at z1)
  have z2 := rowR.cell 2
  (try simp only [List.getElem?_cons_succ] at z2); (try simp only [List.getElem?_cons_zero] at z2)
  have z3 := rowR.cell 3
  (try simp only [List.getElem?_cons_succ] at z3); (try simp only [List.getElem?_cons_zero] at z3)
  have z4 := rowR.cell 4
  (try simp only [List.getElem?_cons_succ] at z4); (try simp only [List.getElem?_cons_zero] at z4)
  have g0 := rowR.frozen 0
  have g1 := rowR.frozen 1
  have g2 := rowR.frozen 2
  have g3 := rowR.frozen 3
  have g4 := rowR.frozen 4
  have hr8 := row8.lt
  have kS := (((((Keep.refl (· = bs + 1) w3).setCell (p := ⟨bs + 1, 0, none⟩) (fun _ => rfl) (.int .i64 r.fEpoch)).setCell (p := ⟨bs + 1, 1, none⟩) (fun _ => rfl) (.int .i64 r.fBase)).setCell (p := ⟨bs + 1, 2, none⟩) (fun _ => rfl) (.slice a8 r.fSpans.length c8)).setCell (p := ⟨bs + 1, 3, none⟩) (fun _ => rfl) (.int .i64 r.fMoving)).setCell (p := ⟨bs + 1, 4, none⟩) (fun _ => rfl) (.slice aD r.fCut.length cD)
  have rowF := ((((rowR.set 0 (.int .i64 r.fEpoch)).set 1 (.int .i64 r.fBase)).set 2 (.slice a8 r.fSpans.length c8)).set 3 (.int .i64 r.fMoving)).set 4 (.slice aD r.fCut.length cD)
  have k5 := kk.then kS (fun i hi e => by omega)
  have GF := rGRoutes_lawful.mono (rGRoutes_lawful.keep GR kS (fun b hb e => by have := hb.1; omega)) (q := fun b => w.heap.size ≤ b) (fun b hb => by have := hb.1; omega)
  clear row0 rowR row8 GR kS kk
  go_wp2_with fail
  refine bodyPost_ret (results_cell_row2 (by rfl) _ _ _ _ _ _ _ (by rfl) rowF Tryz.underlying53 (by rfl) hinfo) rfl ?_
  rw [HQ.out]
  exact ⟨_, rfl, GF, k5⟩
 have hm1 : (r.fMoving != 0) = false := by simpa using hm
 have HM := Lib.hid hm
 clear hm
 obtain ⟨pl, hpl⟩ : ∃ y, placeI g r.fSpans = y := ⟨_, rfl⟩
 have HPL := Lib.hid hpl
 have hcall := place_c r [.int .i64 r.fEpoch, .int .i64 r.fBase, .slice aS r.fSpans.length cS, .int .i64 r.fMoving, .slice aC r.fCut.length cC] g w3 (rGRoutes_lawful.nix HR.out kk)
 rw [hpl] at hcall
 clear hpl
 have y3 := row0.cell 3
 (try simp only [List.getElem?_cons_succ] at y3); (try simp only [List.getElem?_cons_zero] at y3)
 have ldR := Whole.run (P := Tryz.prog) S_Routes rfl row0
 go_wp2_with fail
 go_fit hcall
 clear hcall
 rintro e w4 ⟨rfl, k4⟩
 clear ldR y3
 replace row0 := row0.keep k4 id
 replace rowR := rowR.keep k4 id
 replace row8 := row8.keep k4 id
 replace GR := rGRoutes_lawful.nix GR k4
 replace kk := kk.trans k4
 clear k4
 rcases Int.lt_or_le pl 0 with hp | hp
 ·have HQ : Hid (Y = (r, 5)) := by show _ = _; rw [← HY.out, cutF, if_neg (by rw [HM.out]; simp), HPL.out, if_pos hp]
  have ld8 := Whole.run (P := Tryz.prog) S_Routes rfl row8
  have z0 := rowR.cell 0
  (try simp only [List.getElem?_cons_zero] at z0)
  have z1 := rowR.cell 1
  (try simp only [List.getElem?_cons_succ] at z1); (try simp only [List.getElem?_cons_zero] at z1)
  have z2 := rowR.cell 2
  (try simp only [List.getElem?_cons_succ] at z2); (try simp only [List.getElem?_cons_zero] at z2)
  have z3 := rowR.cell 3
  (try simp only [List.getElem?_cons_succ] at z3); (try simp only [List.getElem?_cons_zero] at z3)
  have z4 := rowR.cell 4
  (try simp only [List.getElem?_cons_succ] at z4); (try simp only [List.getElem?_cons_zero] at z4)
  have g0 := rowR.frozen 0
  have g1 := rowR.frozen 1
  have g2 := rowR.frozen 2
  have g3 := rowR.frozen 3
  have g4 := rowR.frozen 4
  have hr8 := row8.lt
  have kS := (((((Keep.refl (· = bs + 1) w4).setCell (p := ⟨bs + 1, 0, none⟩) (fun _ => rfl) (.int .i64 r.fEpoch)).setCell (p := ⟨bs + 1, 1, none⟩) (fun _ => rfl) (.int .i64 r.fBase)).setCell (p := ⟨bs + 1, 2, none⟩) (fun _ => rfl) (.slice a8 r.fSpans.length c8)).setCell (p := ⟨bs + 1, 3, none⟩) (fun _ => rfl) (.int .i64 r.fMoving)).setCell (p := ⟨bs + 1, 4, none⟩) (fun _ => rfl) (.slice aD r.fCut.length cD)
  have rowF := ((((rowR.set 0 (.int .i64 r.fEpoch)).set 1 (.int .i64 r.fBase)).set 2 (.slice a8 r.fSpans.length c8)).set 3 (.int .i64 r.fMoving)).set 4 (.slice aD r.fCut.length cD)
  have k5 := kk.then kS (fun i hi e => by omega)
  have GF := rGRoutes_lawful.mono (rGRoutes_lawful.keep GR kS (fun b hb e => by have := hb.1; omega)) (q := fun b => w.heap.size ≤ b) (fun b hb => by have := hb.1; omega)
  clear row0 rowR row8 GR kS kk
  go_wp2_with fail
  refine bodyPost_ret (results_cell_row2 (by rfl) _ _ _ _ _ _ _ (by rfl) rowF Tryz.underlying53 (by rfl) hinfo) rfl ?_
  rw [HQ.out]
  exact ⟨_, rfl, GF, k5⟩
 obtain ⟨bv, hbv⟩ : ∃ y, behindF r.fSpans g l = y := ⟨_, rfl⟩
 have HBV := Lib.hid hbv
 have hcall := behind_c r [.int .i64 r.fEpoch, .int .i64 r.fBase, .slice aS r.fSpans.length cS, .int .i64 r.fMoving, .slice aC r.fCut.length cC] g a cap l w4 (rGRoutes_lawful.nix HR.out kk) (HL.out.keep kk)
 rw [hbv] at hcall
 clear hbv
 have ldR := Whole.run (P := Tryz.prog) S_Routes rfl row0
 cases bv with
 | false =>
  have HQ : Hid (Y = (r, 1)) := by show _ = _; rw [← HY.out, cutF, if_neg (by rw [HM.out]; simp), HPL.out, if_neg (by omega), HBV.out, if_pos (.inl rfl)]
  go_wp2_with fail
  go_fit hcall
  clear hcall
  rintro e w5 ⟨rfl, k5⟩
  clear ldR
  replace row0 := row0.keep k5 id
  replace rowR := rowR.keep k5 id
  replace row8 := row8.keep k5 id
  replace GR := rGRoutes_lawful.nix GR k5
  replace kk := kk.trans k5
  clear k5
  have ld8 := Whole.run (P := Tryz.prog) S_Routes rfl row8
  have z0 := rowR.cell 0
  (try simp only [List.getElem?_cons_zero] at z0)
  have z1 := rowR.cell 1
  (try simp only [List.getElem?_cons_succ] at z1); (try simp only [List.getElem?_cons_zero] at z1)
  have z2 := rowR.cell 2
  (try simp only [List.getElem?_cons_succ] at z2); (try simp only [List.getElem?_cons_zero] at z2)
  have z3 := rowR.cell 3
  (try simp only [List.getElem?_cons_succ] at z3); (try simp only [List.getElem?_cons_zero] at z3)
  have z4 := rowR.cell 4
  (try simp only [List.getElem?_cons_succ] at z4); (try simp only [List.getElem?_cons_zero] at z4)
  have g0 := rowR.frozen 0
  have g1 := rowR.frozen 1
  have g2 := rowR.frozen 2
  have g3 := rowR.frozen 3
  have g4 := rowR.frozen 4
  have hr8 := row8.lt
  have kS := (((((Keep.refl (· = bs + 1) w5).setCell (p := ⟨bs + 1, 0, none⟩) (fun _ => rfl) (.int .i64 r.fEpoch)).setCell (p := ⟨bs + 1, 1, none⟩) (fun _ => rfl) (.int .i64 r.fBase)).setCell (p := ⟨bs + 1, 2, none⟩) (fun _ => rfl) (.slice a8 r.fSpans.length c8)).setCell (p := ⟨bs + 1, 3, none⟩) (fun _ => rfl) (.int .i64 r.fMoving)).setCell (p := ⟨bs + 1, 4, none⟩) (fun _ => rfl) (.slice aD r.fCut.length cD)
  have rowF := ((((rowR.set 0 (.int .i64 r.fEpoch)).set 1 (.int .i64 r.fBase)).set 2 (.slice a8 r.fSpans.length c8)).set 3 (.int .i64 r.fMoving)).set 4 (.slice aD r.fCut.length cD)
  have k5 := kk.then kS (fun i hi e => by omega)
  have GF := rGRoutes_lawful.mono (rGRoutes_lawful.keep GR kS (fun b hb e => by have := hb.1; omega)) (q := fun b => w.heap.size ≤ b) (fun b hb => by have := hb.1; omega)
  clear row0 rowR row8 GR kS kk
  go_wp2_with fail
  refine bodyPost_ret (results_cell_row2 (by rfl) _ _ _ _ _ _ _ (by rfl) rowF Tryz.underlying53 (by rfl) hinfo) rfl ?_
  rw [HQ.out]
  exact ⟨_, rfl, GF, k5⟩
 | true =>
 go_wp2_with fail
 go_fit hcall
 clear hcall
 rintro e w5 ⟨rfl, k5⟩
 clear ldR
 replace row0 := row0.keep k5 id
 replace rowR := rowR.keep k5 id
 replace row8 := row8.keep k5 id
 replace GR := rGRoutes_lawful.nix GR k5
 replace kk := kk.trans k5
 clear k5
 rcases Int.lt_or_le 600 (l.length : Int) with h6 | h6
 ·have HQ : Hid (Y = (r, 1)) := by show _ = _; rw [← HY.out, cutF, if_neg (by rw [HM.out]; simp), HPL.out, if_neg (by omega), if_pos (.inr (by omega))]
  have ld8 := Whole.run (P := Tryz.prog) S_Routes rfl row8
  have z0 := rowR.cell 0
  (try simp only [List.getElem?_cons_zero] at z0)
  have z1 := rowR.cell 1
  (try simp only [List.getElem?_cons_succ] at z1); (try simp only [List.getElem?_cons_zero] at z1)
  have z2 := rowR.cell 2
  (try simp only [List.getElem?_cons_succ] at z2); (try simp only [List.getElem?_cons_zero] at z2)
  have z3 := rowR.cell 3
  (try simp only [List.getElem?_cons_succ] at z3); (try simp only [List.getElem?_cons_zero] at z3)
  have z4 := rowR.cell 4
  (try simp only [List.getElem?_cons_succ] at z4); (try simp only [List.getElem?_cons_zero] at z4)
  have g0 := rowR.frozen 0
  have g1 := rowR.frozen 1
  have g2 := rowR.frozen 2
  have g3 := rowR.frozen 3
  have g4 := rowR.frozen 4
  have hr8 := row8.lt
  have kS := (((((Keep.refl (· = bs + 1) w5).setCell (p := ⟨bs + 1, 0, none⟩) (fun _ => rfl) (.int .i64 r.fEpoch)).setCell (p := ⟨bs + 1, 1, none⟩) (fun _ => rfl) (.int .i64 r.fBase)).setCell (p := ⟨bs + 1, 2, none⟩) (fun _ => rfl) (.slice a8 r.fSpans.length c8)).setCell (p := ⟨bs + 1, 3, none⟩) (fun _ => rfl) (.int .i64 r.fMoving)).setCell (p := ⟨bs + 1, 4, none⟩) (fun _ => rfl) (.slice aD r.fCut.length cD)
  have rowF := ((((rowR.set 0 (.int .i64 r.fEpoch)).set 1 (.int .i64 r.fBase)).set 2 (.slice a8 r.fSpans.length c8)).set 3 (.int .i64 r.fMoving)).set 4 (.slice aD r.fCut.length cD)
  have k5 := kk.then kS (fun i hi e => by omega)
  have GF := rGRoutes_lawful.mono (rGRoutes_lawful.keep GR kS (fun b hb e => by have := hb.1; omega)) (q := fun b => w.heap.size ≤ b) (fun b hb => by have := hb.1; omega)
  clear row0 rowR row8 GR kS kk
  go_wp2_with fail
  refine bodyPost_ret (results_cell_row2 (by rfl) _ _ _ _ _ _ _ (by rfl) rowF Tryz.underlying53 (by rfl) hinfo) rfl ?_
  rw [HQ.out]
  exact ⟨_, rfl, GF, k5⟩
 have HQ : Hid (Y = (⟨upI r.fEpoch, r.fBase, r.fSpans, g, l⟩, 0)) := by
  show _ = _
  rw [← HY.out, cutF, if_neg (by rw [HM.out]; simp), HPL.out, if_neg (by omega), HBV.out, if_neg (by simp; omega)]
 have hcall := clR_c a cap l w5 (HL.out.keep kk)
 go_wp2_with fail
 go_fit hcall
 clear hcall
 rintro e w6 ⟨a9, c9, rfl, L9, k6⟩
 have L9 : LB w6 (NewIn w5 w6) a9 c9 l := L9
 have hb8w : b8 < w5.heap.size := row8.lt
 replace row0 := row0.keep k6 id
 replace rowR := rowR.keep k6 id
 replace row8 := row8.keep k6 id
 replace GR := rGRoutes_lawful.nix GR k6
 replace kk := kk.trans k6
 clear k6
 have kT : Keep (· = b8) w6 (((w6.setCell ⟨b8, 3, none⟩ (.int .i64 g)).setCell ⟨b8, 4, none⟩ (.slice a9 l.length c9)).setCell ⟨b8, 0, none⟩ (.int .i64 (upI r.fEpoch))) := (((Keep.refl (· = b8) w6).setCell (p := ⟨b8, 3, none⟩) (fun _ => rfl) _).setCell (p := ⟨b8, 4, none⟩) (fun _ => rfl) _).setCell (p := ⟨b8, 0, none⟩) (fun _ => rfl) _
 have row8' : RowIs (((w6.setCell ⟨b8, 3, none⟩ (.int .i64 g)).setCell ⟨b8, 4, none⟩ (.slice a9 l.length c9)).setCell ⟨b8, 0, none⟩ (.int .i64 (upI r.fEpoch))) b8 53 [.int .i64 (upI r.fEpoch), .int .i64 r.fBase, .slice a8 r.fSpans.length c8, .int .i64 g, .slice a9 l.length c9] := ((row8.set 3 _).set 4 _).set 0 _
 have GR1 := rGRoutes_lawful.keep GR kT (fun b hb e => by have := hb.2; omega)
 obtain ⟨_, _, _, _, e1, -, -, gL, -⟩ := rGRoutes_open GR1
 simp only [List.cons.injEq, Value.slice.injEq, and_true, true_and] at e1
 obtain ⟨⟨rfl, rfl⟩, -⟩ := e1
 have L91 := L9.to (s' := fun b => w1.heap.size ≤ b ∧ b ≠ b8) kT (fun b hb e => by have := hb.1; omega) (fun b hb => ⟨by have := hb.1; omega, by have := hb.1; omega⟩)
 have gL1 := (rList_lawful rGOwner_lawful).mono gL (q := fun b => w1.heap.size ≤ b ∧ b ≠ b8) (fun b hb => ⟨hb.1, by have := hb.2; omega⟩)
 have GF1 := rGRoutes_mk (x := ⟨upI r.fEpoch, r.fBase, r.fSpans, g, l⟩) _ (fun b => w1.heap.size ≤ b ∧ b ≠ b8) (upI_64 _) HI.out.2.1 gL1 HGI.out L91
 have ld8 := Whole.run (P := Tryz.prog) S_Routes rfl row8'
 have rowR1 := rowR.keep kT (by omega)
 have kk1 := kk.then kT (fun i hi e => by omega)
 have x0 := row8.cell 0
 (try simp only [List.getElem?_cons_zero] at x0)
 have x1 := row8.cell 1
 (try simp only [List.getElem?_cons_succ] at x1); (try simp only [List.getElem?_cons_zero] at x1)
 have x2 := row8.cell 2
 (try simp only [List.getElem?_cons_succ] at x2); (try simp only [List.getElem?_cons_zero] at x2)
 have x3 := row8.cell 3
 (try simp only [List.getElem?_cons_succ] at x3); (try simp only [List.getElem?_cons_zero] at x3)
 have x4 := row8.cell 4
 (try simp only [List.getElem?_cons_succ] at x4); (try simp only [List.getElem?_cons_zero] at x4)
 have e0 := row8.frozen 0
 have e3 := row8.frozen 3
 have e4 := row8.frozen 4
 have z0 := rowR.cell 0
 (try simp only [List.getElem?_cons_zero] at z0)
 have z1 := rowR.cell 1
 (try simp only [List.getElem?_cons_succ] at z1); (try simp only [List.getElem?_cons_zero] at z1)
 have z2 := rowR.cell 2
 (try simp only [List.getElem?_cons_succ] at z2); (try simp only [List.getElem?_cons_zero] at z2)
 have z3 := rowR.cell 3
 (try simp only [List.getElem?_cons_succ] at z3); (try simp only [List.getElem?_cons_zero] at z3)
 have z4 := rowR.cell 4
 (try simp only [List.getElem?_cons_succ] at z4); (try simp only [List.getElem?_cons_zero] at z4)
 have g0 := rowR.frozen 0
 have g1 := rowR.frozen 1
 have g2 := rowR.frozen 2
 have g3 := rowR.frozen 3
 have g4 := rowR.frozen 4
 have hu : IntKind.i64.wrap (r.fEpoch + 1) = upI r.fEpoch := rfl
 have kS := (((((Keep.refl (· = bs + 1) (((w6.setCell ⟨b8, 3, none⟩ (.int .i64 g)).setCell ⟨b8, 4, none⟩ (.slice a9 l.length c9)).setCell ⟨b8, 0, none⟩ (.int .i64 (upI r.fEpoch)))).setCell (p := ⟨bs + 1, 0, none⟩) (fun _ => rfl) (.int .i64 (upI r.fEpoch))).setCell (p := ⟨bs + 1, 1, none⟩) (fun _ => rfl) (.int .i64 r.fBase)).setCell (p := ⟨bs + 1, 2, none⟩) (fun _ => rfl) (.slice a8 r.fSpans.length c8)).setCell (p := ⟨bs + 1, 3, none⟩) (fun _ => rfl) (.int .i64 g)).setCell (p := ⟨bs + 1, 4, none⟩) (fun _ => rfl) (.slice a9 l.length c9)
 have rowF := ((((rowR1.set 0 (.int .i64 (upI r.fEpoch))).set 1 (.int .i64 r.fBase)).set 2 (.slice a8 r.fSpans.length c8)).set 3 (.int .i64 g)).set 4 (.slice a9 l.length c9)
 have k5 := kk1.then kS (fun i hi e => by omega)
 have GF := rGRoutes_lawful.mono (rGRoutes_lawful.keep GF1 kS (fun b hb e => by have := hb.1; omega)) (q := fun b => w.heap.size ≤ b) (fun b hb => by have := hb.1; omega)
 clear row0 rowR rowR1 row8 row8' GR GR1 gL gL1 GF1 L9 L91 kS kT kk kk1
 go_wp2_with fail
 refine bodyPost_ret (results_cell_row2 (by rfl) _ _ _ _ _ _ _ (by rfl) rowF Tryz.underlying53 (by rfl) hinfo) rfl ?_
 rw [HQ.out]
 exact ⟨_, rfl, GF, k5⟩
end
end Go.Proofs.YtibaehlfpgipfaaGreat
