/- ROUTE: a group's place; what it owns; its part of a span. Printed by mac.py. -/
import Derived.Test.YtibaehlfpgipfaaRt3
namespace Go.Proofs.Ytibaehlfpgipfaa
open Go.RowKit

section
attribute [local go_sem ↓] ldz_Routes
set_option maxRecDepth 100000 in
set_option maxHeartbeats 4000000 in
theorem Owned_c {p : Nat → Prop} (r : GRoutes) (csr : List Value) (g : Int) (w : World) (hr : rGRoutes w p csr r) :
    Calls Try.prog 58 #[.agg csr.toArray, .int .i64 g] w (RetS w (ownedF r.fSpans g)) := by
  have HR := Lib.hid hr
  obtain ⟨aS, cS, aC, cC, rfl, hE, hB, hS, hM, hC, -⟩ := rGRoutes_open hr
  have mS : r.fSpans.length ≤ 140737488351232 := by have := (rList_len hS).2.2; have := far_len; omega
  have row0 : RowIs ((w.alloc (.cells #[.int .i64 r.fEpoch, .int .i64 r.fBase, .slice aS r.fSpans.length cS, .int .i64 r.fMoving, .slice aC r.fCut.length cC] 38)).alloc (.cells #[.slice none 0 0, .slice none 0 0] 43)) w.heap.size 38 [.int .i64 r.fEpoch, .int .i64 r.fBase, .slice aS r.fSpans.length cS, .int .i64 r.fMoving, .slice aC r.fCut.length cC] := (RowIs.alloc w _ _).keep ((Keep.refl Nix _).alloc _) id
  have rowR := RowIs.alloc (w.alloc (.cells #[.int .i64 r.fEpoch, .int .i64 r.fBase, .slice aS r.fSpans.length cS, .int .i64 r.fMoving, .slice aC r.fCut.length cC] 38)) #[.slice none 0 0, .slice none 0 0] 43
  have kk : Keep Nix w ((w.alloc (.cells #[.int .i64 r.fEpoch, .int .i64 r.fBase, .slice aS r.fSpans.length cS, .int .i64 r.fMoving, .slice aC r.fCut.length cC] 38)).alloc (.cells #[.slice none 0 0, .slice none 0 0] 43)) := ((Keep.refl Nix w).alloc _).alloc _
  have hsz : (w.alloc (.cells #[.int .i64 r.fEpoch, .int .i64 r.fBase, .slice aS r.fSpans.length cS, .int .i64 r.fMoving, .slice aC r.fCut.length cC] 38)).heap.size = w.heap.size + 1 := by simp
  rw [hsz] at rowR
  have hinfo : (Try.prog.info? 43).map (·.size) = some 2 := by kernel_rfl
  have HS := Lib.hid hS
  clear hr hE hB hM hC hsz hS
  go_enter Try.func58, Try.ntmps58
  go_upto_region 1 with fail
  generalize ((w.alloc (.cells #[.int .i64 r.fEpoch, .int .i64 r.fBase, .slice aS r.fSpans.length cS, .int .i64 r.fMoving, .slice aC r.fCut.length cC] 38)).alloc (.cells #[.slice none 0 0, .slice none 0 0] 43)) = w1 at *
  generalize hbs : w.heap.size = bs at *
  have ldR := Whole.run (P := Try.prog) S_Routes rfl row0
  go_wp2_with fail
  go_fit (place_c r [.int .i64 r.fEpoch, .int .i64 r.fBase, .slice aS r.fSpans.length cS, .int .i64 r.fMoving, .slice aC r.fCut.length cC] g w1 (rGRoutes_lawful.nix HR.out kk))
  rintro e w2 ⟨rfl, k2⟩
  replace row0 := row0.keep k2 id
  replace rowR := rowR.keep k2 id
  replace kk := kk.trans k2
  clear ldR k2 HR
  clear w1
  rename World => w1
  rcases place_cases g r.fSpans with ⟨ho, hi, -⟩ | ⟨k, hk, ho, hi, -⟩
  · rw [hi]
    have q0 := rowR.cell 0
    (try simp only [List.getElem?_cons_zero] at q0)
    have q1 := rowR.cell 1
    (try simp only [List.getElem?_cons_succ] at q1); (try simp only [List.getElem?_cons_zero] at q1)
    have h0 := rowR.frozen 0
    have h1 := rowR.frozen 1
    have rowF := (rowR.set 0 (.slice none 0 0)).set 1 (.slice none 0 0)
    have kS : Keep (· = bs + 1) w1 ((w1.setCell ⟨bs + 1, 0, none⟩ (.slice none 0 0)).setCell ⟨bs + 1, 1, none⟩ (.slice none 0 0)) := ((Keep.refl (· = bs + 1) w1).setCell (fun _ => rfl) _).setCell (fun _ => rfl) _
    have k5 := kk.then kS (fun i hi e => by omega)
    clear row0 rowR kS kk
    go_wp2_with fail
    refine bodyPost_ret (results_cell_row (by rfl) _ _ _ _ _ _ _ (by rfl) rowF Try.underlying43 (by rfl) hinfo) rfl ?_
    refine ⟨_, rfl, ?_, k5⟩
    unfold ownedF
    rw [ho]
    exact mkS0 _ _
  · rw [hi]
    have HO : Hid (ownedF r.fSpans g = spanF r.fSpans k) := by show _ = _; unfold ownedF; rw [ho]
    clear ho hi
    have hS1 := (rList_lawful rGOwner_lawful).nix HS.out kk
    obtain ⟨b1, o1, _, _, e1, -, hbx, xr, xc⟩ := rList_at rGOwner_lawful (by decide) hS1 k hk
    simp only [List.cons.injEq, Value.slice.injEq, and_true] at e1
    obtain ⟨rfl, -, -⟩ := e1
    have xf := fromAt_lt hk
    obtain ⟨aF, cF, rfl, -, hF, -⟩ := rGOwner_open xr
    have x1 := xc 1 _ rfl
    rw [← xf] at x1 hF
    have y2 := row0.cell 2
    (try simp only [List.getElem?_cons_succ] at y2); (try simp only [List.getElem?_cons_zero] at y2)
    have hk0 : (0 : Int) ≤ (k : Int) := by omega
    have hk1 : (k : Int) < (r.fSpans.length : Int) := by omega
    clear xr xc hS1 xf
    go_wp2_with fail
    go_fit (clR_c aF cF (fromAt r.fSpans k) w1 hF)
    rintro e w2 ⟨a1, c1, rfl, L1, k2⟩
    have hs0 := rowR.lt
    have hs1 := kk.size
    have hs2 := k2.size
    have L1 : LB w2 (NewIn w1 w2) a1 c1 (fromAt r.fSpans k) := L1
    have k3 : Keep Nix w2 ((w2.alloc (.cells #[.int .u8 121] 5)).alloc (.cells #[.slice a1 (fromAt r.fSpans k).length c1, .slice (some ⟨w2.heap.size, 0, none⟩) 1 1] 43)) := ((Keep.refl Nix w2).alloc _).alloc _
    have rowB : RowIs ((w2.alloc (.cells #[.int .u8 121] 5)).alloc (.cells #[.slice a1 (fromAt r.fSpans k).length c1, .slice (some ⟨w2.heap.size, 0, none⟩) 1 1] 43)) w2.heap.size 5 [.int .u8 121] := (RowIs.alloc w2 _ _).keep ((Keep.refl Nix _).alloc _) id
    have rowT := RowIs.alloc (w2.alloc (.cells #[.int .u8 121] 5)) #[.slice a1 (fromAt r.fSpans k).length c1, .slice (some ⟨w2.heap.size, 0, none⟩) 1 1] 43
    have hsz : (w2.alloc (.cells #[.int .u8 121] 5)).heap.size = w2.heap.size + 1 := by simp
    rw [hsz] at rowT
    replace row0 := (row0.keep k2 id).keep k3 id
    replace rowR := (rowR.keep k2 id).keep k3 id
    replace kk := (kk.trans k2).trans k3
    have hs3 : ((w2.alloc (.cells #[.int .u8 121] 5)).alloc (.cells #[.slice a1 (fromAt r.fSpans k).length c1, .slice (some ⟨w2.heap.size, 0, none⟩) 1 1] 43)).heap.size = w2.heap.size + 1 + 1 := by simp
    replace L1 : LB ((w2.alloc (.cells #[.int .u8 121] 5)).alloc (.cells #[.slice a1 (fromAt r.fSpans k).length c1, .slice (some ⟨w2.heap.size, 0, none⟩) 1 1] 43)) (fun b => bs + 1 < b ∧ b < w2.heap.size) a1 c1 (fromAt r.fSpans k) := L1.to k3 (fun _ _ h => h) (fun b h => ⟨by have := h.1; omega, by have := h.2; omega⟩)
    have LE : LB ((w2.alloc (.cells #[.int .u8 121] 5)).alloc (.cells #[.slice a1 (fromAt r.fSpans k).length c1, .slice (some ⟨w2.heap.size, 0, none⟩) 1 1] 43)) (· = w2.heap.size) (some ⟨w2.heap.size, 0, none⟩) 1 [121] := LB.row (c := 121) rowB _ rfl
    clear x1 y2 k2 k3 hsz rowB
    have y2 := row0.cell 2
    (try simp only [List.getElem?_cons_succ] at y2); (try simp only [List.getElem?_cons_zero] at y2)
    go_upto_if 27 with fail
    generalize ((w2.alloc (.cells #[.int .u8 121] 5)).alloc (.cells #[.slice a1 (fromAt r.fSpans k).length c1, .slice (some ⟨w2.heap.size, 0, none⟩) 1 1] 43)) = w3 at *
    generalize hb2 : w2.heap.size = b2 at *
    have t0 := rowT.cell 0
    (try simp only [List.getElem?_cons_zero] at t0)
    have t1 := rowT.cell 1
    (try simp only [List.getElem?_cons_succ] at t1); (try simp only [List.getElem?_cons_zero] at t1)
    have g1 := rowT.frozen 1
    have q0 := rowR.cell 0
    (try simp only [List.getElem?_cons_zero] at q0)
    have q1 := rowR.cell 1
    (try simp only [List.getElem?_cons_succ] at q1); (try simp only [List.getElem?_cons_zero] at q1)
    have h0 := rowR.frozen 0
    have h1 := rowR.frozen 1
    rcases Nat.lt_or_ge (k + 1) r.fSpans.length with hlt | hge
    · have hk2 : (k : Int) + 1 < (r.fSpans.length : Int) := by omega
      have hS3 := (rList_lawful rGOwner_lawful).nix HS.out kk
      obtain ⟨b3, o3, _, _, e1, -, hbz, zr, zc⟩ := rList_at rGOwner_lawful (by decide) hS3 (k + 1) hlt
      simp only [List.cons.injEq, Value.slice.injEq, Option.some.injEq, Addr.mk.injEq, and_true] at e1
      obtain ⟨⟨rfl, rfl⟩, -⟩ := e1
      have zf := fromAt_lt hlt
      obtain ⟨aG, cG, rfl, -, hG, -⟩ := rGOwner_open zr
      have x1 := zc 1 _ rfl
      rw [← zf] at x1 hG
      have hix : (((k : Int) + 1).toNat) = k + 1 := by omega
      clear zr zc hS3 zf t0 t1 g1 q0 q1 h0 h1
      go_wp2_with fail
      go_fit (clR_c aG cG (fromAt r.fSpans (k + 1)) w3 hG)
      rintro e w4 ⟨a2, c2, rfl, L2, k4⟩
      have L2 : LB w4 (NewIn w3 w4) a2 c2 (fromAt r.fSpans (k + 1)) := L2
      have hs4 := k4.size
      replace rowR := rowR.keep k4 id
      replace rowT := rowT.keep k4 id
      replace kk := kk.trans k4
      have t0 := rowT.cell 0
      (try simp only [List.getElem?_cons_zero] at t0)
      have t1 := rowT.cell 1
      (try simp only [List.getElem?_cons_succ] at t1); (try simp only [List.getElem?_cons_zero] at t1)
      have g1 := rowT.frozen 1
      have q0 := rowR.cell 0
      (try simp only [List.getElem?_cons_zero] at q0)
      have q1 := rowR.cell 1
      (try simp only [List.getElem?_cons_succ] at q1); (try simp only [List.getElem?_cons_zero] at q1)
      have h0 := rowR.frozen 0
      have h1 := rowR.frozen 1
      have kA : Keep (· = b2 + 1) w4 (w4.setCell ⟨b2 + 1, 1, none⟩ (.slice a2 (fromAt r.fSpans (k + 1)).length c2)) := (Keep.refl (· = b2 + 1) w4).setCell (p := ⟨b2 + 1, 1, none⟩) (fun _ => rfl) _
      have kB : Keep (· = bs + 1) (w4.setCell ⟨b2 + 1, 1, none⟩ (.slice a2 (fromAt r.fSpans (k + 1)).length c2)) (((w4.setCell ⟨b2 + 1, 1, none⟩ (.slice a2 (fromAt r.fSpans (k + 1)).length c2)).setCell ⟨bs + 1, 0, none⟩ (.slice a1 (fromAt r.fSpans k).length c1)).setCell ⟨bs + 1, 1, none⟩ (.slice a2 (fromAt r.fSpans (k + 1)).length c2)) := ((Keep.refl (· = bs + 1) _).setCell (p := ⟨bs + 1, 0, none⟩) (fun _ => rfl) _).setCell (p := ⟨bs + 1, 1, none⟩) (fun _ => rfl) _
      have rowF : RowIs (((w4.setCell ⟨b2 + 1, 1, none⟩ (.slice a2 (fromAt r.fSpans (k + 1)).length c2)).setCell ⟨bs + 1, 0, none⟩ (.slice a1 (fromAt r.fSpans k).length c1)).setCell ⟨bs + 1, 1, none⟩ (.slice a2 (fromAt r.fSpans (k + 1)).length c2)) (bs + 1) 43 [.slice a1 (fromAt r.fSpans k).length c1, .slice a2 (fromAt r.fSpans (k + 1)).length c2] := ((rowR.keep kA (by omega)).set 0 _).set 1 _
      have k5 := (kk.then kA (fun i hi e => by omega)).then kB (fun i hi e => by omega)
      have hs5 := kA.size
      have hs6 := kB.size
      replace L1 := ((L1.keep k4).to (s' := fun b => bs + 1 < b ∧ b < b2) kA (fun b h e => by omega) (fun b h => h)).to (s' := NewIn w (((w4.setCell ⟨b2 + 1, 1, none⟩ (.slice a2 (fromAt r.fSpans (k + 1)).length c2)).setCell ⟨bs + 1, 0, none⟩ (.slice a1 (fromAt r.fSpans k).length c1)).setCell ⟨bs + 1, 1, none⟩ (.slice a2 (fromAt r.fSpans (k + 1)).length c2))) kB (fun b h e => by omega) (fun b h => ⟨by omega, by omega⟩)
      replace L2 := (L2.to (s' := NewIn w3 w4) kA (fun b h e => by have := h.1; omega) (fun b h => h)).to (s' := NewIn w (((w4.setCell ⟨b2 + 1, 1, none⟩ (.slice a2 (fromAt r.fSpans (k + 1)).length c2)).setCell ⟨bs + 1, 0, none⟩ (.slice a1 (fromAt r.fSpans k).length c1)).setCell ⟨bs + 1, 1, none⟩ (.slice a2 (fromAt r.fSpans (k + 1)).length c2))) kB (fun b h e => by have := h.1; omega) (fun b h => ⟨by have := h.1; omega, by have := h.2; omega⟩)
      clear rowR rowT kA kB kk row0 LE
      go_wp2_with fail
      refine bodyPost_ret (results_cell_row (by rfl) _ _ _ _ _ _ _ (by rfl) rowF Try.underlying43 (by rfl) hinfo) rfl ?_
      refine ⟨_, rfl, ?_, k5⟩
      (try rw [HO.out])
      exact mkS L1 L2
    · have hk2 : (r.fSpans.length : Int) ≤ (k : Int) + 1 := by omega
      have hz := fromAt_ge hge
      have kB : Keep (· = bs + 1) w3 ((w3.setCell ⟨bs + 1, 0, none⟩ (.slice a1 (fromAt r.fSpans k).length c1)).setCell ⟨bs + 1, 1, none⟩ (.slice (some ⟨b2, 0, none⟩) 1 1)) := ((Keep.refl (· = bs + 1) _).setCell (p := ⟨bs + 1, 0, none⟩) (fun _ => rfl) _).setCell (p := ⟨bs + 1, 1, none⟩) (fun _ => rfl) _
      have rowF : RowIs ((w3.setCell ⟨bs + 1, 0, none⟩ (.slice a1 (fromAt r.fSpans k).length c1)).setCell ⟨bs + 1, 1, none⟩ (.slice (some ⟨b2, 0, none⟩) 1 1)) (bs + 1) 43 [.slice a1 (fromAt r.fSpans k).length c1, .slice (some ⟨b2, 0, none⟩) 1 1] := (rowR.set 0 _).set 1 _
      have k5 := kk.then kB (fun i hi e => by omega)
      have hs6 := kB.size
      replace L1 := L1.to (s' := NewIn w ((w3.setCell ⟨bs + 1, 0, none⟩ (.slice a1 (fromAt r.fSpans k).length c1)).setCell ⟨bs + 1, 1, none⟩ (.slice (some ⟨b2, 0, none⟩) 1 1))) kB (fun b h e => by omega) (fun b h => ⟨by omega, by omega⟩)
      replace LE := LE.to (s' := NewIn w ((w3.setCell ⟨bs + 1, 0, none⟩ (.slice a1 (fromAt r.fSpans k).length c1)).setCell ⟨bs + 1, 1, none⟩ (.slice (some ⟨b2, 0, none⟩) 1 1))) kB (fun b h e => by omega) (fun b h => ⟨by omega, by omega⟩)
      clear rowR rowT kB kk row0
      go_wp2_with fail
      refine bodyPost_ret (results_cell_row (by rfl) _ _ _ _ _ _ _ (by rfl) rowF Try.underlying43 (by rfl) hinfo) rfl ?_
      refine ⟨_, rfl, ?_, k5⟩
      (try rw [HO.out])
      unfold spanF
      rw [hz]
      exact mkS L1 LE
end
end Go.Proofs.Ytibaehlfpgipfaa
