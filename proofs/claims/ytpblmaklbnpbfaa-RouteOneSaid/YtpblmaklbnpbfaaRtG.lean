/- ROUTE: the reference's New, Base, Owned: the program's walks turned by genRtG.py. Printed by mac.py. -/
import Derived.Test.YtpblmaklbnpbfaaRt7
namespace Go.Proofs.Ytpblmaklbnpbfaa
open Go.RowKit

set_option maxRecDepth 100000 in
set_option maxHeartbeats 1000000 in
theorem rNew_c (b s : Int) (w : World) : Calls Try.prog 17 #[.int .i64 b, .int .i64 s] w (RetRE w (newF b s)) := by
  have hinfo : (Try.prog.info? 25).map (·.size) = some 5 := by kernel_rfl
  by_cases h : 1 ≤ b ∧ b ≤ 4 ∧ 1 ≤ s ∧ s ≤ 4
  · have HP : Hid (newF b s = (⟨0, b, [⟨b + 1, [120]⟩], 0, []⟩, 0)) := by show _ = _; unfold newF; rw [if_pos h]
    rw [HP.out]
    obtain ⟨h1, h2, h3, h4⟩ := h
    have k1 := fun (w : World) (o : Obj) => (Keep.refl Nix w).alloc o
    have kk : Keep Nix w (((w.alloc (.cells #[.int .i64 0, .int .i64 b, .slice (some ⟨w.heap.size + 1 + 1, 0, none⟩) 1 1, .int .i64 0, .slice none 0 0] 25)).alloc (.cells #[.int .u8 120] 5)).alloc (.cells #[.int .i64 (b + 1), .slice (some ⟨w.heap.size + 1, 0, none⟩) 1 1] 32)) := ((k1 _ _).trans (k1 _ _)).trans (k1 _ _)
    have rowF : RowIs (((w.alloc (.cells #[.int .i64 0, .int .i64 b, .slice (some ⟨w.heap.size + 1 + 1, 0, none⟩) 1 1, .int .i64 0, .slice none 0 0] 25)).alloc (.cells #[.int .u8 120] 5)).alloc (.cells #[.int .i64 (b + 1), .slice (some ⟨w.heap.size + 1, 0, none⟩) 1 1] 32)) w.heap.size 25 [.int .i64 0, .int .i64 b, .slice (some ⟨w.heap.size + 1 + 1, 0, none⟩) 1 1, .int .i64 0, .slice none 0 0] := ((RowIs.alloc w _ _).keep (k1 _ _) id).keep (k1 _ _) id
    have rowB : RowIs (((w.alloc (.cells #[.int .i64 0, .int .i64 b, .slice (some ⟨w.heap.size + 1 + 1, 0, none⟩) 1 1, .int .i64 0, .slice none 0 0] 25)).alloc (.cells #[.int .u8 120] 5)).alloc (.cells #[.int .i64 (b + 1), .slice (some ⟨w.heap.size + 1, 0, none⟩) 1 1] 32)) (w.heap.size + 1) 5 [.int .u8 120] := by
      have h := (RowIs.alloc (w.alloc (.cells #[.int .i64 0, .int .i64 b, .slice (some ⟨w.heap.size + 1 + 1, 0, none⟩) 1 1, .int .i64 0, .slice none 0 0] 25)) #[.int .u8 120] 5).keep (k1 _ (.cells #[.int .i64 (b + 1), .slice (some ⟨w.heap.size + 1, 0, none⟩) 1 1] 32)) id
      simpa using h
    have rowO : RowIs (((w.alloc (.cells #[.int .i64 0, .int .i64 b, .slice (some ⟨w.heap.size + 1 + 1, 0, none⟩) 1 1, .int .i64 0, .slice none 0 0] 25)).alloc (.cells #[.int .u8 120] 5)).alloc (.cells #[.int .i64 (b + 1), .slice (some ⟨w.heap.size + 1, 0, none⟩) 1 1] 32)) (w.heap.size + 1 + 1) 32 [.int .i64 (b + 1), .slice (some ⟨w.heap.size + 1, 0, none⟩) 1 1] := by
      have h := RowIs.alloc ((w.alloc (.cells #[.int .i64 0, .int .i64 b, .slice (some ⟨w.heap.size + 1 + 1, 0, none⟩) 1 1, .int .i64 0, .slice none 0 0] 25)).alloc (.cells #[.int .u8 120] 5)) #[.int .i64 (b + 1), .slice (some ⟨w.heap.size + 1, 0, none⟩) 1 1] 32
      simpa using h
    have LB1 := LB.row (c := 120) rowB (NewIn w (((w.alloc (.cells #[.int .i64 0, .int .i64 b, .slice (some ⟨w.heap.size + 1 + 1, 0, none⟩) 1 1, .int .i64 0, .slice none 0 0] 25)).alloc (.cells #[.int .u8 120] 5)).alloc (.cells #[.int .i64 (b + 1), .slice (some ⟨w.heap.size + 1, 0, none⟩) 1 1] 32))) ⟨by omega, rowB.lt⟩
    have LL : rList rGOwner (((w.alloc (.cells #[.int .i64 0, .int .i64 b, .slice (some ⟨w.heap.size + 1 + 1, 0, none⟩) 1 1, .int .i64 0, .slice none 0 0] 25)).alloc (.cells #[.int .u8 120] 5)).alloc (.cells #[.int .i64 (b + 1), .slice (some ⟨w.heap.size + 1, 0, none⟩) 1 1] 32)) (NewIn w (((w.alloc (.cells #[.int .i64 0, .int .i64 b, .slice (some ⟨w.heap.size + 1 + 1, 0, none⟩) 1 1, .int .i64 0, .slice none 0 0] 25)).alloc (.cells #[.int .u8 120] 5)).alloc (.cells #[.int .i64 (b + 1), .slice (some ⟨w.heap.size + 1, 0, none⟩) 1 1] 32))) [.slice (some ⟨w.heap.size + 1 + 1, 0, none⟩) 1 1] [⟨b + 1, [120]⟩] :=
      ⟨_, 1, [[.int .i64 (b + 1), .slice (some ⟨w.heap.size + 1, 0, none⟩) 1 1]], rfl, rfl, fun _ => ⟨_, 0, rfl, ⟨by omega, rowO.lt⟩, rowO.lt, fun j u hu => by rw [Nat.zero_add, rowO.cell]; exact hu⟩, Nat.le_refl _, by show 1 ≤ far; decide, fun i c x hc hx => by
        match i, hc, hx with
        | 0, hc, hx =>
          cases hc; cases hx
          exact rGOwner_mk (x := ⟨b + 1, [120]⟩) _ _ (by unfold isI64; show _ ≤ b + 1 ∧ b + 1 ≤ _; omega) LB1⟩
    have hR := rGRoutes_mk (x := ⟨0, b, [⟨b + 1, [120]⟩], 0, []⟩) (((w.alloc (.cells #[.int .i64 0, .int .i64 b, .slice (some ⟨w.heap.size + 1 + 1, 0, none⟩) 1 1, .int .i64 0, .slice none 0 0] 25)).alloc (.cells #[.int .u8 120] 5)).alloc (.cells #[.int .i64 (b + 1), .slice (some ⟨w.heap.size + 1, 0, none⟩) 1 1] 32)) (NewIn w (((w.alloc (.cells #[.int .i64 0, .int .i64 b, .slice (some ⟨w.heap.size + 1 + 1, 0, none⟩) 1 1, .int .i64 0, .slice none 0 0] 25)).alloc (.cells #[.int .u8 120] 5)).alloc (.cells #[.int .i64 (b + 1), .slice (some ⟨w.heap.size + 1, 0, none⟩) 1 1] 32))) i64_0 (by unfold isI64; show _ ≤ b ∧ b ≤ _; omega) LL i64_0 (LB.nil0 _ _)
    clear k1 rowB rowO LB1 LL
    go_enter Try.func17, Try.ntmps17
    go_wp2_with fail
    refine bodyPost_ret (results_cell_row2 (by rfl) _ _ _ _ _ _ _ (by rfl) rowF Try.underlying25 (by rfl) hinfo) rfl ?_
    exact ⟨_, rfl, hR, kk⟩
  · have HP : Hid (newF b s = (⟨0, 0, [], 0, []⟩, 1)) := by show _ = _; unfold newF; rw [if_neg h]
    rw [HP.out]
    have k1 : Keep Nix w (w.alloc (.cells #[.int .i64 0, .int .i64 0, .slice none 0 0, .int .i64 0, .slice none 0 0] 25)) := (Keep.refl Nix w).alloc _
    have rowF : RowIs (w.alloc (.cells #[.int .i64 0, .int .i64 0, .slice none 0 0, .int .i64 0, .slice none 0 0] 25)) w.heap.size 25 [.int .i64 0, .int .i64 0, .slice none 0 0, .int .i64 0, .slice none 0 0] := RowIs.alloc w _ _
    rcases Int.lt_or_le b 1 with h1 | h1
    · clear h
      go_enter Try.func17, Try.ntmps17
      go_wp2_with fail
      refine bodyPost_ret (results_cell_row2 (by rfl) _ _ _ _ _ _ _ (by rfl) rowF Try.underlying25 (by rfl) hinfo) rfl ?_
      exact ⟨_, rfl, rZero _ _, k1⟩
    rcases Int.lt_or_le 4 b with h2 | h2
    · clear h
      go_enter Try.func17, Try.ntmps17
      go_wp2_with fail
      refine bodyPost_ret (results_cell_row2 (by rfl) _ _ _ _ _ _ _ (by rfl) rowF Try.underlying25 (by rfl) hinfo) rfl ?_
      exact ⟨_, rfl, rZero _ _, k1⟩
    rcases Int.lt_or_le s 1 with h3 | h3
    · clear h
      go_enter Try.func17, Try.ntmps17
      go_wp2_with fail
      refine bodyPost_ret (results_cell_row2 (by rfl) _ _ _ _ _ _ _ (by rfl) rowF Try.underlying25 (by rfl) hinfo) rfl ?_
      exact ⟨_, rfl, rZero _ _, k1⟩
    have h4 : 4 < s := by omega
    clear h
    go_enter Try.func17, Try.ntmps17
    go_wp2_with fail
    refine bodyPost_ret (results_cell_row2 (by rfl) _ _ _ _ _ _ _ (by rfl) rowF Try.underlying25 (by rfl) hinfo) rfl ?_
    exact ⟨_, rfl, rZero _ _, k1⟩
section
attribute [local go_sem ↓] ldz_Routes
set_option maxRecDepth 100000 in
theorem rBase_c {p q : Nat → Prop} (r : GRoutes) (csr : List Value) (a : Option Addr) (cap : Nat) (l : List UInt8) (w : World) (hr : rGRoutes w p csr r) (hb : 1 ≤ r.fBase ∧ r.fBase ≤ 4) (hl : LB w q a cap l) :
    Calls Try.prog 21 #[.agg csr.toArray, .slice a l.length cap] w fun e w' => e = .returned (.int .i64 (baseF r.fBase l)) ∧ Keep Nix w w' := by
  obtain ⟨aS, cS, aC, cC, rfl, hE, hB, hS, hM, hC, -⟩ := rGRoutes_open hr
  obtain ⟨hb1, hb4⟩ := hb
  obtain ⟨y, HY⟩ : ∃ y, Hid (y = hashF l % r.fBase + 1) := ⟨_, rfl⟩
  rw [show baseF r.fBase l = y from HY.out.symm]
  have mL : l.length ≤ 140737488351232 := by have := hl.2.2; have := far_len; omega
  have kk : Keep Nix w (w.alloc (.cells #[.int .i64 r.fEpoch, .int .i64 r.fBase, .slice aS r.fSpans.length cS, .int .i64 r.fMoving, .slice aC r.fCut.length cC] 25)) := (Keep.refl Nix w).alloc _
  have row0 : RowIs (w.alloc (.cells #[.int .i64 r.fEpoch, .int .i64 r.fBase, .slice aS r.fSpans.length cS, .int .i64 r.fMoving, .slice aC r.fCut.length cC] 25)) w.heap.size 25 [.int .i64 r.fEpoch, .int .i64 r.fBase, .slice aS r.fSpans.length cS, .int .i64 r.fMoving, .slice aC r.fCut.length cC] := RowIs.alloc w _ _
  have y1 := row0.cell 1
  (try simp only [List.getElem?_cons_succ] at y1); (try simp only [List.getElem?_cons_zero] at y1)
  have hl1 := hl.keep kk
  clear hr hE hB hM hC hS row0 hl
  go_enter Try.func21, Try.ntmps21
  go_wp2_with fail
  generalize (w.alloc (.cells #[.int .i64 r.fEpoch, .int .i64 r.fBase, .slice aS r.fSpans.length cS, .int .i64 r.fMoving, .slice aC r.fCut.length cC] 25)) = w1 at *
  go_loopw [5, 6] (fun h i wr => ∃ k : Nat, k ≤ l.length ∧ i = .int .i64 k ∧ h = .int .u32 (hashF (l.take k)) ∧ w1 = wr) (fun _ i _ => l.length - (intOf i).toNat)
  case atStart => exact ⟨0, by omega, rfl, rfl, rfl⟩
  case round =>
    obtain ⟨k, hk, rfl, rfl, rfl⟩ := hrel
    by_cases hlt : k < l.length
    · have hi0 : (0 : Int) ≤ (k : Int) := by omega
      have hi1 : (k : Int) < (l.length : Int) := by omega
      obtain ⟨b, o, rfl, -, hbl, hc⟩ := hl1.1 (by intro e; rw [List.map_eq_nil_iff] at e; subst e; simp at hlt)
      have xk := hc k (.int .u8 (l[k].toNat : Int)) (by simp [hlt, bv])
      clear hc
      generalize hh : hashF (l.take k) = h at *
      have hx : Hid (l.take (k + 1) = l.take k ++ [l[k]]) := List.take_succ_eq_append_getElem hlt
      generalize l[k] = x at *
      have HN : Hid (hashF (l.take (k + 1)) = (h * 31 % 4294967296 + (x.toNat : Int) % 4294967296) % 4294967296) := by
        show _ = _
        rw [hx.out, hashF_snoc, hh]
        omega
      clear hh
      go_wp2_with fail
      go_roundw
      case rel => exact ⟨k + 1, by omega, by go_num, congrArg (Value.int .u32) HN.out.symm, trivial⟩
      case measure => simp [intOf]; omega
    · obtain rfl : k = l.length := by omega
      have HL : Hid (hashF (l.take l.length) = hashF l) := by show _ = _; rw [List.take_length]
      rw [HL.out]
      have hh0 := hashF_range l
      generalize hashF l = h at *
      generalize r.fBase = b at *
      obtain ⟨h0, h1⟩ := hh0
      obtain rfl | rfl | rfl | rfl : b = 1 ∨ b = 2 ∨ b = 3 ∨ b = 4 := by omega
      all_goals
        go_wp2_with fail
        go_ret
        exact ⟨ret_int (by first | (rw [HY.out]; done) | (rw [HY.out]; omega)), kk⟩
set_option maxRecDepth 100000 in
set_option maxHeartbeats 4000000 in
theorem rOwned_c {p : Nat → Prop} (r : GRoutes) (csr : List Value) (g : Int) (w : World) (hr : rGRoutes w p csr r) :
    Calls Try.prog 28 #[.agg csr.toArray, .int .i64 g] w (RetS w (ownedF r.fSpans g)) := by
  have HR := Lib.hid hr
  obtain ⟨aS, cS, aC, cC, rfl, hE, hB, hS, hM, hC, -⟩ := rGRoutes_open hr
  have mS : r.fSpans.length ≤ 140737488351232 := by have := (rList_len hS).2.2; have := far_len; omega
  have row0 : RowIs ((w.alloc (.cells #[.int .i64 r.fEpoch, .int .i64 r.fBase, .slice aS r.fSpans.length cS, .int .i64 r.fMoving, .slice aC r.fCut.length cC] 25)).alloc (.cells #[.slice none 0 0, .slice none 0 0] 29)) w.heap.size 25 [.int .i64 r.fEpoch, .int .i64 r.fBase, .slice aS r.fSpans.length cS, .int .i64 r.fMoving, .slice aC r.fCut.length cC] := (RowIs.alloc w _ _).keep ((Keep.refl Nix _).alloc _) id
  have rowR := RowIs.alloc (w.alloc (.cells #[.int .i64 r.fEpoch, .int .i64 r.fBase, .slice aS r.fSpans.length cS, .int .i64 r.fMoving, .slice aC r.fCut.length cC] 25)) #[.slice none 0 0, .slice none 0 0] 29
  have kk : Keep Nix w ((w.alloc (.cells #[.int .i64 r.fEpoch, .int .i64 r.fBase, .slice aS r.fSpans.length cS, .int .i64 r.fMoving, .slice aC r.fCut.length cC] 25)).alloc (.cells #[.slice none 0 0, .slice none 0 0] 29)) := ((Keep.refl Nix w).alloc _).alloc _
  have hsz : (w.alloc (.cells #[.int .i64 r.fEpoch, .int .i64 r.fBase, .slice aS r.fSpans.length cS, .int .i64 r.fMoving, .slice aC r.fCut.length cC] 25)).heap.size = w.heap.size + 1 := by simp
  rw [hsz] at rowR
  have hinfo : (Try.prog.info? 29).map (·.size) = some 2 := by kernel_rfl
  have HS := Lib.hid hS
  clear hr hE hB hM hC hsz hS
  go_enter Try.func28, Try.ntmps28
  go_upto_region 1 with fail
  generalize ((w.alloc (.cells #[.int .i64 r.fEpoch, .int .i64 r.fBase, .slice aS r.fSpans.length cS, .int .i64 r.fMoving, .slice aC r.fCut.length cC] 25)).alloc (.cells #[.slice none 0 0, .slice none 0 0] 29)) = w1 at *
  generalize hbs : w.heap.size = bs at *
  have ldR := Whole.run (P := Try.prog) S_Routes rfl row0
  go_wp2_with fail
  go_fit (at_c r [.int .i64 r.fEpoch, .int .i64 r.fBase, .slice aS r.fSpans.length cS, .int .i64 r.fMoving, .slice aC r.fCut.length cC] g w1 (rGRoutes_lawful.nix HR.out kk))
  rintro e w2 ⟨rfl, k2⟩
  replace row0 := row0.keep k2 id
  replace rowR := rowR.keep k2 id
  replace kk := kk.trans k2
  clear ldR k2
  clear w1
  rename World => w1
  rcases place_cases g r.fSpans with ⟨ho, hi, -⟩ | ⟨k, hk, ho, hi, -⟩
  · rw [hi]
    have q0 := rowR.cell 0
    (try simp only [List.getElem?_cons_zero] at q0)
    have q1 := rowR.cell 1
    (try simp only [List.getElem?_cons_succ] at q1); (try simp only [List.getElem?_cons_zero] at q1)
    have h0 := rowR.frozen 0
    have h1 := rowR.frozen 1
    have rowF := (rowR.set 0 (.slice none 0 0)).set 1 (.slice none 0 0)
    have kS : Keep (· = bs + 1) w1 ((w1.setCell ⟨bs + 1, 0, none⟩ (.slice none 0 0)).setCell ⟨bs + 1, 1, none⟩ (.slice none 0 0)) := ((Keep.refl (· = bs + 1) w1).setCell (fun _ => rfl) _).setCell (fun _ => rfl) _
    have k5 := kk.then kS (fun i hi e => by omega)
    clear row0 rowR kS kk
    go_wp2_with fail
    refine bodyPost_ret (results_cell_row (by rfl) _ _ _ _ _ _ _ (by rfl) rowF Try.underlying29 (by rfl) hinfo) rfl ?_
    refine ⟨_, rfl, ?_, k5⟩
    unfold ownedF
    rw [ho]
    exact mkS0 _ _
  · rw [hi]
    have HO : Hid (ownedF r.fSpans g = spanF r.fSpans k) := by show _ = _; unfold ownedF; rw [ho]
    clear ho hi
    have ldR := Whole.run (P := Try.prog) S_Routes rfl row0
    have hk0 : (0 : Int) ≤ (k : Int) := by omega
    go_wp2_with fail
    go_fit (span_c r [.int .i64 r.fEpoch, .int .i64 r.fBase, .slice aS r.fSpans.length cS, .int .i64 r.fMoving, .slice aC r.fCut.length cC] k w1 (rGRoutes_lawful.nix HR.out kk) hk)
    rintro e w2 ⟨csx, rfl, rx, k3⟩
    have hs0 := rowR.lt
    have hs1 := kk.size
    have hs2 := k3.size
    replace rowR := rowR.keep k3 id
    replace kk := kk.trans k3
    obtain ⟨a1, c1, a2, c2, rfl, L1, L2, -⟩ := rGSpan_open rx
    have L1 : LB w2 (NewIn w1 w2) a1 c1 (fromAt r.fSpans k) := L1
    have L2 : LB w2 (NewIn w1 w2) a2 c2 (fromAt r.fSpans (k + 1)) := L2
    have q0 := rowR.cell 0
    (try simp only [List.getElem?_cons_zero] at q0)
    have q1 := rowR.cell 1
    (try simp only [List.getElem?_cons_succ] at q1); (try simp only [List.getElem?_cons_zero] at q1)
    have h0 := rowR.frozen 0
    have h1 := rowR.frozen 1
    have rowF := (rowR.set 0 (.slice a1 (fromAt r.fSpans k).length c1)).set 1 (.slice a2 (fromAt r.fSpans (k + 1)).length c2)
    have kS : Keep (· = bs + 1) w2 ((w2.setCell ⟨bs + 1, 0, none⟩ (.slice a1 (fromAt r.fSpans k).length c1)).setCell ⟨bs + 1, 1, none⟩ (.slice a2 (fromAt r.fSpans (k + 1)).length c2)) := ((Keep.refl (· = bs + 1) w2).setCell (p := ⟨bs + 1, 0, none⟩) (fun _ => rfl) _).setCell (p := ⟨bs + 1, 1, none⟩) (fun _ => rfl) _
    have hs5 := kS.size
    have k5 := kk.then kS (fun i hi e => by omega)
    have M1 := L1.to (s' := NewIn w _) kS (fun i hi e => by have := hi.1; omega) (fun i hi => ⟨by have := hi.1; omega, by have h := hi.2; exact Nat.lt_of_lt_of_le h hs5⟩)
    have M2 := L2.to (s' := NewIn w _) kS (fun i hi e => by have := hi.1; omega) (fun i hi => ⟨by have := hi.1; omega, by have h := hi.2; exact Nat.lt_of_lt_of_le h hs5⟩)
    clear rowR kS kk row0 ldR L1 L2 rx k3
    go_wp2_with fail
    refine bodyPost_ret (results_cell_row (by rfl) _ _ _ _ _ _ _ (by rfl) rowF Try.underlying29 (by rfl) hinfo) rfl ?_
    refine ⟨_, rfl, ?_, k5⟩
    rw [HO.out]
    exact mkS M1 M2
end
end Go.Proofs.Ytpblmaklbnpbfaa
