/- ROUTE: the groups that have keys of a span: the reference's Over. Printed by genRtN.py and mac.py. -/
import Derived.Test.YtpblmaklbnpbfaaRtI
import Derived.Test.YtpblmaklbnpbfaaRt9
namespace Go.Proofs.Ytpblmaklbnpbfaa
open Go.RowKit

def meetG (r : GRoutes) (s : GSpan) (g : Int) : Bool := match placeO g r.fSpans with
  | some k => meetF s (spanF r.fSpans k)
  | none => false
def rRowsL (r : GRoutes) (s : GSpan) : List Int := if meetF s ⟨[114], [115]⟩ then baseL r.fBase.toNat else []
def rEntL (r : GRoutes) (s : GSpan) (n : Nat) : List Int := ((List.range n).map (fun i : Nat => r.fBase + 1 + (i : Int))).filter (meetG r s)
def rOverF (r : GRoutes) (s : GSpan) : List Int := rRowsL r s ++ rEntL r s 4
theorem rEntL_succ (r : GRoutes) (s : GSpan) (n : Nat) : rEntL r s (n + 1) = rEntL r s n ++ if meetG r s (r.fBase + 1 + (n : Int)) then [r.fBase + 1 + (n : Int)] else [] := by
  unfold rEntL; rw [List.range_succ, List.map_append, List.filter_append]; congr 1
  cases h : meetG r s (r.fBase + 1 + (n : Int)) <;> simp [h]
theorem rEntL_len (r : GRoutes) (s : GSpan) (n : Nat) : (rEntL r s n).length ≤ n := by
  unfold rEntL
  have := List.length_filter_le (meetG r s) ((List.range n).map (fun i : Nat => r.fBase + 1 + (i : Int)))
  simpa using this
section
attribute [local go_sem ↓] ldz_Routes
set_option maxRecDepth 100000 in
set_option maxHeartbeats 8000000 in
theorem rOver_c {p q : Nat → Prop} (r : GRoutes) (csr : List Value) (s : GSpan) (css : List Value) (w : World) (hr : rGRoutes w p csr r) (hs : rGSpan w q css s) (hb : 1 ≤ r.fBase ∧ r.fBase ≤ 4) :
    Calls Try.prog 27 #[.agg csr.toArray, .agg css.toArray] w (RetI w.heap.size w (rOverF r s)) := by
  have HR := Lib.hid hr
  have HS := Lib.hid hs
  have hlr := rGRoutes_lawful.len hr
  obtain ⟨aS, cS, aC, cC, hcsr, -⟩ := rGRoutes_open hr
  obtain ⟨sF, dF, sT, dT, rfl, -⟩ := rGSpan_open hs
  have HCS := Lib.hid hcsr
  have k1 := fun (w : World) (o : Obj) => (Keep.refl Nix w).alloc o
  have kk : Keep Nix w (((w.alloc (.cells csr.toArray 25))).alloc (.cells #[.slice sF s.fFrom.length dF, .slice sT s.fTo.length dT] 29)) := (k1 _ _).trans (k1 _ _)
  have row0 : RowIs (((w.alloc (.cells csr.toArray 25))).alloc (.cells #[.slice sF s.fFrom.length dF, .slice sT s.fTo.length dT] 29)) w.heap.size 25 csr := (RowIs.alloc w _ _).keep (k1 _ _) id
  have rowS : RowIs (((w.alloc (.cells csr.toArray 25))).alloc (.cells #[.slice sF s.fFrom.length dF, .slice sT s.fTo.length dT] 29)) (w.heap.size + 1) 29 [.slice sF s.fFrom.length dF, .slice sT s.fTo.length dT] := by
    have h := RowIs.alloc (w.alloc (.cells csr.toArray 25)) #[.slice sF s.fFrom.length dF, .slice sT s.fTo.length dT] 29
    simpa using h
  obtain ⟨v, HV⟩ : ∃ y, Hid (meetF s ⟨[114], [115]⟩ = y) := ⟨_, rfl⟩
  obtain ⟨Y, HY⟩ : ∃ Y, Hid (rOverF r s = Y) := ⟨_, rfl⟩
  rw [HY.out]
  obtain ⟨hb1, hb4⟩ := hb
  clear hr hs k1 hcsr
  go_enter Try.func27, Try.ntmps27
  go_upto_region 2 with fail
  generalize (((w.alloc (.cells csr.toArray 25))).alloc (.cells #[.slice sF s.fFrom.length dF, .slice sT s.fTo.length dT] 29)) = w1 at *
  generalize hbs : w.heap.size = bs at *
  go_cut [13] from 9 to 50 (fun s13 wx => s13 = .bool v ∧ Keep Nix w1 wx)
  case first =>
    as_aux_lemma =>
    have kA : Keep Nix w1 ((w1.alloc (.cells #[.int .u8 114] 5)).alloc (.cells #[.int .u8 115] 5)) := ((Keep.refl Nix w1).alloc _).alloc _
    have hsz : (w1.alloc (.cells #[.int .u8 114] 5)).heap.size = w1.heap.size + 1 := by simp
    have rowA : RowIs ((w1.alloc (.cells #[.int .u8 114] 5)).alloc (.cells #[.int .u8 115] 5)) w1.heap.size 5 [.int .u8 114] := (RowIs.alloc w1 _ _).keep ((Keep.refl Nix _).alloc _) id
    have rowB : RowIs ((w1.alloc (.cells #[.int .u8 114] 5)).alloc (.cells #[.int .u8 115] 5)) (w1.heap.size + 1) 5 [.int .u8 115] := by
      have h := RowIs.alloc (w1.alloc (.cells #[.int .u8 114] 5)) #[.int .u8 115] 5
      rw [hsz] at h
      exact h
    have LA : LB ((w1.alloc (.cells #[.int .u8 114] 5)).alloc (.cells #[.int .u8 115] 5)) (fun _ => True) (some ⟨w1.heap.size, 0, none⟩) 1 [114] := LB.row (c := 114) rowA _ trivial
    have LB2 : LB ((w1.alloc (.cells #[.int .u8 114] 5)).alloc (.cells #[.int .u8 115] 5)) (fun _ => True) (some ⟨w1.heap.size + 1, 0, none⟩) 1 [115] := LB.row (c := 115) rowB _ trivial
    have hcall := meet_c s ⟨[114], [115]⟩ [.slice sF s.fFrom.length dF, .slice sT s.fTo.length dT] _ ((w1.alloc (.cells #[.int .u8 114] 5)).alloc (.cells #[.int .u8 115] 5)) (rGSpan_lawful.nix HS.out (kk.trans kA)) (mkS LA LB2)
    rw [HV.out] at hcall
    have s0 := rowS.cell 0
    (try simp only [List.getElem?_cons_zero] at s0)
    have s1 := rowS.cell 1
    (try simp only [List.getElem?_cons_succ] at s1); (try simp only [List.getElem?_cons_zero] at s1)
    clear rowA rowB LA LB2 hsz row0 rowS kk HR HS HY HV HCS
    go_wp2_with fail
    go_fit hcall
    clear hcall
    rintro e w2 ⟨rfl, k2⟩
    go_wp2_with fail
    go_meet
    exact ⟨rfl, kA.trans k2⟩
  case rest =>
  obtain ⟨rfl, kd⟩ := hcut
  replace row0 := row0.keep kd id
  replace rowS := rowS.keep kd id
  replace kk := kk.trans kd
  clear kd
  go_upto_if 13 with fail
  go_cut [5] from 6 to 50 (fun s5 wx => ∃ a cap, s5 = .slice a (rRowsL r s).length cap ∧ wx.ownsRow (bs + 1 + 1) 3 1 (.slice a (rRowsL r s).length cap) (rRowsL r s).length (ints (rRowsL r s)) ∧ Keep Nix wc wx)
  case first =>
    as_aux_lemma =>
    cases v with
    | false =>
      have HE : Hid (rRowsL r s = []) := by show _ = _; unfold rRowsL; rw [HV.out]; rfl
      go_wp2_with fail
      go_meet
      rw [HE.out]
      exact ⟨none, 0, rfl, World.ownsRow_nil _ _ _ _, Keep.refl _ _⟩
    | true =>
      have HE : Hid (rRowsL r s = baseL r.fBase.toNat) := by show _ = _; unfold rRowsL; rw [HV.out]; rfl
      have hbs2 : bs + 1 + 1 ≤ wc.heap.size := rowS.lt
      obtain ⟨nb, hnb⟩ : ∃ nb : Nat, r.fBase = (nb : Int) := ⟨r.fBase.toNat, by omega⟩
      have hnb2 : Hid (r.fBase.toNat = nb) := by show _ = _; omega
      have HNB := Lib.hid hnb
      rw [hnb2.out] at HE
      rw [hnb] at hb1 hb4
      clear rowS HR HY HS kk hnb
      go_wp2_with fail
      go_loopw [5, 6] (fun l i wr => ∃ (k : Nat) (a : Option Addr) (cap : Nat), k ≤ nb ∧ i = .int .i64 ((k : Int) + 1) ∧ l = .slice a k cap ∧ wr.ownsRow wc.heap.size 3 1 (.slice a k cap) k (ints (baseL k)) ∧ RowIs wr bs 25 csr ∧ Keep Nix wc wr) (fun _ i _ => nb + 1 - (intOf i).toNat)
      case atStart => exact ⟨0, none, 0, by omega, rfl, rfl, World.ownsRow_nil _ _ _ _, row0, Keep.refl _ _⟩
      case round =>
        clear row0
        obtain ⟨k, a, cap, hk, rfl, rfl, own, row0, kd⟩ := hrel
        have hs1 := kd.size
        have y1 : wr.cell? ⟨bs, 1, none⟩ = some (.int .i64 (nb : Int)) := by rw [row0.cell, HCS.out, ← HNB.out]; rfl
        by_cases hlt : k < nb
        · have hi1 : (k : Int) + 1 ≤ (nb : Int) := by omega
          have hw1 : IntKind.i64.wrap ((k : Int) + 1 + 1) = (k : Int) + 1 + 1 := by unfold IntKind.wrap; simp [IntKind.bits, IntKind.signed]; omega
          go_wp2_with (at_builtin; refine wpl_append1 T_lint rfl (.tmp 20) (.tmp 22) rfl wc.heap.size rfl own rfl rfl ?c1 ?c2 ?c3 hs1 ?_)
          case c1 => rfl
          case c2 => unfold maxLen; omega
          case c3 => omega
          intro a' cap' w6 own6 k6
          replace own6 : w6.ownsRow wc.heap.size 3 1 (.slice a' (k + 1) cap') (k + 1) (ints (baseL (k + 1))) := by rw [baseL_succ]; simpa [ints] using own6
          have hn6 : ∀ b, OwnB (.slice a k cap) b → wc.heap.size ≤ b := fun b hb => (own.lt b hb).1
          replace row0 := row0.keep k6 (fun hb => by have := hn6 _ hb; omega)
          replace kd := kd.then k6 (fun i hi hb => by have := hn6 _ hb; omega)
          clear own k6 y1
          go_wp2_with fail
          go_roundw
          case rel => exact ⟨k + 1, a', cap', by omega, by go_num, by simp, own6, row0, kd⟩
          case measure => simp [intOf]; omega
        · obtain rfl : k = nb := by omega
          have HB : Hid ((baseL k).length = k) := baseL_len k
          have hi2 : (k : Int) < (k : Int) + 1 := by omega
          go_wp2_with fail
          go_meet
          rw [HE.out, HB.out]
          exact ⟨a, cap, rfl, own_from own hbs2, kd⟩
  case rest =>
  obtain ⟨a0, cap0, rfl, own0, kd⟩ := hcut
  replace row0 := row0.keep kd id
  replace rowS := rowS.keep kd id
  replace kk := kk.trans kd
  have HR4 : Hid ((rRowsL r s).length ≤ 4) := by
    show _ ≤ _
    unfold rRowsL
    cases (meetF s ⟨[114], [115]⟩)
    · simp
    · simp only [if_true, baseL_len]; omega
  have hwb1 : IntKind.i64.wrap (r.fBase + 1) = r.fBase + 1 := by unfold IntKind.wrap; simp [IntKind.bits, IntKind.signed]; omega
  have y1 : wc.cell? ⟨bs, 1, none⟩ = some (.int .i64 r.fBase) := by rw [row0.cell, HCS.out]; rfl
  clear kd HV
  go_wp2_with fail
  clear y1 hwb1
  go_loopw [5, 7] (fun l i wr => ∃ (k n : Nat) (a : Option Addr) (cap : Nat), k ≤ 4 ∧ i = .int .i64 (r.fBase + 1 + (k : Int)) ∧ l = .slice a n cap ∧ Hid (n = (rRowsL r s ++ rEntL r s k).length) ∧ wr.ownsRow (bs + 1 + 1) 3 1 (.slice a n cap) n (ints (rRowsL r s ++ rEntL r s k)) ∧
    RowIs wr bs 25 csr ∧ RowIs wr (bs + 1) 29 [.slice sF s.fFrom.length dF, .slice sT s.fTo.length dT] ∧ Keep Nix w wr) (fun _ i _ => 20 - (intOf i).toNat)
  case atStart => exact ⟨0, _, a0, cap0, by omega, by simp, rfl, by show _ = _; simp [rEntL], by simpa [rEntL] using own0, row0, rowS, kk⟩
  case round =>
    clear own0 row0 rowS kk
    obtain ⟨k, n, a, cap, hk, rfl, rfl, HN, own, row0, rowS, kk⟩ := hrel
    have hs0 : bs + 1 + 1 ≤ wr.heap.size := rowS.lt
    have y1 : wr.cell? ⟨bs, 1, none⟩ = some (.int .i64 r.fBase) := by rw [row0.cell, HCS.out]; rfl
    have hwb4 : IntKind.i64.wrap (r.fBase + 4) = r.fBase + 4 := by unfold IntKind.wrap; simp [IntKind.bits, IntKind.signed]; omega
    by_cases hlt : k < 4
    · have hi1 : r.fBase + 1 + (k : Int) ≤ r.fBase + 4 := by omega
      have hw2 : IntKind.i64.wrap (r.fBase + 1 + (k : Int) + 1) = r.fBase + 1 + (k : Int) + 1 := by unfold IntKind.wrap; simp [IntKind.bits, IntKind.signed]; omega
      have hn8 : n ≤ 8 := by
        have h1 := HN.out
        have h2 := HR4.out
        have h3 := rEntL_len r s k
        rw [List.length_append] at h1
        omega
      obtain ⟨mv, hmv⟩ : ∃ v, meetG r s (r.fBase + 1 + (k : Int)) = v := ⟨_, rfl⟩
      have hEN : Hid (rEntL r s (k + 1) = rEntL r s k ++ if mv then [r.fBase + 1 + (k : Int)] else []) := by show _ = _; rw [rEntL_succ, hmv]
      have HMV := Lib.hid hmv
      have ldR := Whole.run (P := Try.prog) S_Routes hlr row0
      have hcall := at_c r csr (r.fBase + 1 + (k : Int)) wr (rGRoutes_lawful.nix HR.out kk)
      obtain ⟨pl, hpl⟩ : ∃ y, placeI (r.fBase + 1 + (k : Int)) r.fSpans = y := ⟨_, rfl⟩
      rw [hpl] at hcall
      have HPL := Lib.hid hpl
      clear hpl hmv
      go_wp2_with fail
      go_fit hcall
      rintro e w2 ⟨rfl, k2⟩
      replace row0 := row0.keep k2 id
      replace rowS := rowS.keep k2 id
      replace kk := kk.trans k2
      replace own := owned_keep own k2 (fun _ _ h => h)
      clear hcall k2 ldR y1
      have hs2 : bs + 1 + 1 ≤ w2.heap.size := rowS.lt
      go_upto_region 11 with fail
      go_cut [45] from 27 to 49 (fun s45 wx => s45 = .bool mv ∧ Keep Nix w2 wx)
      case first =>
        as_aux_lemma =>
        have hRc : ∀ w', Keep Nix w2 w' → rGRoutes w' p csr r := fun w' k' => rGRoutes_lawful.nix HR.out (kk.trans k')
        have HRc := Lib.hid hRc
        have hSc : ∀ w', Keep Nix w2 w' → rGSpan w' q [.slice sF s.fFrom.length dF, .slice sT s.fTo.length dT] s := fun w' k' => rGSpan_lawful.nix HS.out (kk.trans k')
        have HSc := Lib.hid hSc
        have hO : ∀ w', Keep Nix w2 w' → (fun w' => (wholeSem 25 (.pointer (some ⟨bs, 0, none⟩))).run Try.prog w' = .ok (.value (.agg csr.toArray)) w' ∧ w'.cell? ⟨bs + 1, 0, none⟩ = some (.slice sF s.fFrom.length dF) ∧ w'.cell? ⟨bs + 1, 1, none⟩ = some (.slice sT s.fTo.length dT)) w' := fun w' k' => ⟨Whole.run S_Routes hlr (row0.keep k' id), (rowS.keep k' id).cell 0, (rowS.keep k' id).cell 1⟩
        have HO := Lib.hid hO
        have kd : Keep Nix w2 w2.drew := (Keep.refl Nix w2).drew
        clear hRc hSc hO row0 rowS kk own HR HS HY hEN HR4 HN hn8 hs0 hs2
        rcases place_cases (r.fBase + 1 + (k : Int)) r.fSpans with ⟨ho, hi, -⟩ | ⟨kp, hkp, ho, hi, -⟩
        · have hp : pl = -1 := by rw [← HPL.out]; exact hi
          have HME2 : Hid (Value.bool false = Value.bool mv) := by show _ = _; rw [← HMV.out, meetG, ho]
          clear ho hi HPL HMV
          subst hp
          refine wp_region_held_drew (S := (fun w' => (wholeSem 25 (.pointer (some ⟨bs, 0, none⟩))).run Try.prog w' = .ok (.value (.agg csr.toArray)) w' ∧ w'.cell? ⟨bs + 1, 0, none⟩ = some (.slice sF s.fFrom.length dF) ∧ w'.cell? ⟨bs + 1, 1, none⟩ = some (.slice sT s.fTo.length dT))) (by kernel_rfl) ((HO.out _ kd)) (fun hHeld => ?_)
          generalize w2.drew = wd at *
          refine wpAnyH_take (i := 0) (v := ?_) rfl (by kernel_rfl) (by kernel_rfl) (by kernel_rfl) (fun _ _ _ h => h) (Or.inl ⟨by kernel_rfl, ?_⟩) hHeld ?_
          rotate_left
          · intro w' hSw
            (try dsimp only at hSw)
            (try simp only [List.getElem_toArray]); (try simp only [List.getElem_cons_succ]); (try simp only [List.getElem_cons_zero])
            go_simp
            try with_reducible rfl
          (try simp only [Act.put]); (try simp only [List.getElem_toArray]); (try simp only [List.getElem_cons_succ]); (try simp only [List.getElem_cons_zero]); (try simp only [List.setIfInBounds_toArray]); (try simp only [List.set_cons_succ]); (try simp only [List.set_cons_zero])
          refine wpAnyH_take (i := 1) (v := ?_) rfl (by kernel_rfl) (by kernel_rfl) (by kernel_rfl) (fun _ _ _ h => h) (Or.inl ⟨by kernel_rfl, ?_⟩) hHeld ?_
          rotate_left
          · intro w' hSw
            (try dsimp only at hSw)
            (try simp only [List.getElem_toArray]); (try simp only [List.getElem_cons_succ]); (try simp only [List.getElem_cons_zero])
            go_simp
            try with_reducible rfl
          (try simp only [Act.put]); (try simp only [List.getElem_toArray]); (try simp only [List.getElem_cons_succ]); (try simp only [List.getElem_cons_zero]); (try simp only [List.setIfInBounds_toArray]); (try simp only [List.set_cons_succ]); (try simp only [List.set_cons_zero])
          refine wpAnyH_take (i := 2) (v := ?_) rfl (by kernel_rfl) (by kernel_rfl) (by kernel_rfl) (fun _ _ _ h => h) (Or.inl ⟨by kernel_rfl, ?_⟩) hHeld ?_
          rotate_left
          · intro w' hSw
            (try dsimp only at hSw)
            (try simp only [List.getElem_toArray]); (try simp only [List.getElem_cons_succ]); (try simp only [List.getElem_cons_zero])
            go_simp
            try with_reducible rfl
          (try simp only [Act.put]); (try simp only [List.getElem_toArray]); (try simp only [List.getElem_cons_succ]); (try simp only [List.getElem_cons_zero]); (try simp only [List.setIfInBounds_toArray]); (try simp only [List.set_cons_succ]); (try simp only [List.set_cons_zero])
          refine wpAnyH_take (i := 3) (v := undef) rfl (by kernel_rfl) (by kernel_rfl) (by kernel_rfl) (fun _ _ _ h => h) (Or.inr ⟨by kernel_rfl, rfl⟩) hHeld ?_
          (try simp only [Act.put]); (try simp only [List.getElem_toArray]); (try simp only [List.getElem_cons_succ]); (try simp only [List.getElem_cons_zero]); (try simp only [List.setIfInBounds_toArray]); (try simp only [List.set_cons_succ]); (try simp only [List.set_cons_zero])
          refine wpAnyH_take (i := 4) (v := undef) rfl (by kernel_rfl) (by kernel_rfl) (by kernel_rfl) (fun _ _ _ h => h) (Or.inr ⟨by kernel_rfl, rfl⟩) hHeld ?_
          (try simp only [Act.put]); (try simp only [List.getElem_toArray]); (try simp only [List.getElem_cons_succ]); (try simp only [List.getElem_cons_zero]); (try simp only [List.setIfInBounds_toArray]); (try simp only [List.set_cons_succ]); (try simp only [List.set_cons_zero])
          refine wpAnyH_take (i := 5) (v := undef) rfl (by kernel_rfl) (by kernel_rfl) (by kernel_rfl) (fun _ _ _ h => h) (Or.inr ⟨by kernel_rfl, rfl⟩) hHeld ?_
          (try simp only [Act.put]); (try simp only [List.getElem_toArray]); (try simp only [List.getElem_cons_succ]); (try simp only [List.getElem_cons_zero]); (try simp only [List.setIfInBounds_toArray]); (try simp only [List.set_cons_succ]); (try simp only [List.set_cons_zero])
          refine wpAnyH_take (i := 6) (v := undef) rfl (by kernel_rfl) (by kernel_rfl) (by kernel_rfl) (fun _ _ _ h => h) (Or.inr ⟨by kernel_rfl, rfl⟩) hHeld ?_
          (try simp only [Act.put]); (try simp only [List.getElem_toArray]); (try simp only [List.getElem_cons_succ]); (try simp only [List.getElem_cons_zero]); (try simp only [List.setIfInBounds_toArray]); (try simp only [List.set_cons_succ]); (try simp only [List.set_cons_zero])
          refine wpAnyH_take (i := 7) (v := undef) rfl (by kernel_rfl) (by kernel_rfl) (by kernel_rfl) (fun _ _ _ h => h) (Or.inr ⟨by kernel_rfl, rfl⟩) hHeld ?_
          (try simp only [Act.put]); (try simp only [List.getElem_toArray]); (try simp only [List.getElem_cons_succ]); (try simp only [List.getElem_cons_zero]); (try simp only [List.setIfInBounds_toArray]); (try simp only [List.set_cons_succ]); (try simp only [List.set_cons_zero])
          refine wpAnyH_take (i := 8) (v := ?_) rfl (by kernel_rfl) (by kernel_rfl) (by kernel_rfl) (fun _ _ _ h => h) (Or.inl ⟨by kernel_rfl, ?_⟩) hHeld ?_
          rotate_left
          · intro w' hSw
            (try dsimp only at hSw)
            (try simp only [List.getElem_toArray]); (try simp only [List.getElem_cons_succ]); (try simp only [List.getElem_cons_zero])
            go_simp
            try with_reducible rfl
          (try simp only [Act.put]); (try simp only [List.getElem_toArray]); (try simp only [List.getElem_cons_succ]); (try simp only [List.getElem_cons_zero]); (try simp only [List.setIfInBounds_toArray]); (try simp only [List.set_cons_succ]); (try simp only [List.set_cons_zero])
          refine wpAnyH_done (by kernel_rfl) ?_ _
          clear hHeld
          go_wp2_with fail
          go_meet
          exact ⟨HME2.out, kd⟩
        · have hp : pl = (kp : Int) := by rw [← HPL.out]; exact hi
          have hp0 : (0 : Int) ≤ (kp : Int) := by omega
          have HME : Hid (meetF s (spanF r.fSpans kp) = mv) := by show _ = _; rw [← HMV.out, meetG, ho]
          clear ho hi HPL HMV
          subst hp
          refine wp_region_held_drew (S := (fun w' => (wholeSem 25 (.pointer (some ⟨bs, 0, none⟩))).run Try.prog w' = .ok (.value (.agg csr.toArray)) w' ∧ w'.cell? ⟨bs + 1, 0, none⟩ = some (.slice sF s.fFrom.length dF) ∧ w'.cell? ⟨bs + 1, 1, none⟩ = some (.slice sT s.fTo.length dT))) (by kernel_rfl) ((HO.out _ kd)) (fun hHeld => ?_)
          generalize w2.drew = wd at *
          refine wpAnyH_take (i := 0) (v := ?_) rfl (by kernel_rfl) (by kernel_rfl) (by kernel_rfl) (fun _ _ _ h => h) (Or.inl ⟨by kernel_rfl, ?_⟩) hHeld ?_
          rotate_left
          · intro w' hSw
            (try dsimp only at hSw)
            (try simp only [List.getElem_toArray]); (try simp only [List.getElem_cons_succ]); (try simp only [List.getElem_cons_zero])
            go_simp
            try with_reducible rfl
          (try simp only [Act.put]); (try simp only [List.getElem_toArray]); (try simp only [List.getElem_cons_succ]); (try simp only [List.getElem_cons_zero]); (try simp only [List.setIfInBounds_toArray]); (try simp only [List.set_cons_succ]); (try simp only [List.set_cons_zero])
          refine wpAnyH_take (i := 1) (v := ?_) rfl (by kernel_rfl) (by kernel_rfl) (by kernel_rfl) (fun _ _ _ h => h) (Or.inl ⟨by kernel_rfl, ?_⟩) hHeld ?_
          rotate_left
          · intro w' hSw
            (try dsimp only at hSw)
            (try simp only [List.getElem_toArray]); (try simp only [List.getElem_cons_succ]); (try simp only [List.getElem_cons_zero])
            go_simp
            try with_reducible rfl
          (try simp only [Act.put]); (try simp only [List.getElem_toArray]); (try simp only [List.getElem_cons_succ]); (try simp only [List.getElem_cons_zero]); (try simp only [List.setIfInBounds_toArray]); (try simp only [List.set_cons_succ]); (try simp only [List.set_cons_zero])
          refine wpAnyH_take (i := 2) (v := ?_) rfl (by kernel_rfl) (by kernel_rfl) (by kernel_rfl) (fun _ _ _ h => h) (Or.inl ⟨by kernel_rfl, ?_⟩) hHeld ?_
          rotate_left
          · intro w' hSw
            (try dsimp only at hSw)
            (try simp only [List.getElem_toArray]); (try simp only [List.getElem_cons_succ]); (try simp only [List.getElem_cons_zero])
            go_simp
            try with_reducible rfl
          (try simp only [Act.put]); (try simp only [List.getElem_toArray]); (try simp only [List.getElem_cons_succ]); (try simp only [List.getElem_cons_zero]); (try simp only [List.setIfInBounds_toArray]); (try simp only [List.set_cons_succ]); (try simp only [List.set_cons_zero])
          refine wpAnyH_take (i := 3) (v := ?_) rfl (by kernel_rfl) (by kernel_rfl) (by kernel_rfl) (fun _ _ _ h => h) (Or.inl ⟨by kernel_rfl, ?_⟩) hHeld ?_
          rotate_left
          · intro w' hSw
            (try dsimp only at hSw)
            (try simp only [List.getElem_toArray]); (try simp only [List.getElem_cons_succ]); (try simp only [List.getElem_cons_zero])
            go_simp
            try with_reducible rfl
          (try simp only [Act.put]); (try simp only [List.getElem_toArray]); (try simp only [List.getElem_cons_succ]); (try simp only [List.getElem_cons_zero]); (try simp only [List.setIfInBounds_toArray]); (try simp only [List.set_cons_succ]); (try simp only [List.set_cons_zero])
          refine wpAnyH_take (i := 4) (v := ?_) rfl (by kernel_rfl) (by kernel_rfl) (by kernel_rfl) (fun _ _ _ h => h) (Or.inl ⟨by kernel_rfl, ?_⟩) hHeld ?_
          rotate_left
          · intro w' hSw
            (try dsimp only at hSw)
            (try simp only [List.getElem_toArray]); (try simp only [List.getElem_cons_succ]); (try simp only [List.getElem_cons_zero])
            go_simp
            try with_reducible rfl
          (try simp only [Act.put]); (try simp only [List.getElem_toArray]); (try simp only [List.getElem_cons_succ]); (try simp only [List.getElem_cons_zero]); (try simp only [List.setIfInBounds_toArray]); (try simp only [List.set_cons_succ]); (try simp only [List.set_cons_zero])
          refine wpAnyH_take (i := 5) (v := ?_) rfl (by kernel_rfl) (by kernel_rfl) (by kernel_rfl) (fun _ _ _ h => h) (Or.inl ⟨by kernel_rfl, ?_⟩) hHeld ?_
          rotate_left
          · intro w' hSw
            (try dsimp only at hSw)
            (try simp only [List.getElem_toArray]); (try simp only [List.getElem_cons_succ]); (try simp only [List.getElem_cons_zero])
            go_simp
            try with_reducible rfl
          (try simp only [Act.put]); (try simp only [List.getElem_toArray]); (try simp only [List.getElem_cons_succ]); (try simp only [List.getElem_cons_zero]); (try simp only [List.setIfInBounds_toArray]); (try simp only [List.set_cons_succ]); (try simp only [List.set_cons_zero])
          refine wpAnyH_ready (rs := [6]) (by kernel_rfl) (by simp) ?_
          refine AllReadyH.cons rfl (fun K hK => ?_) AllReadyH.nil
          rw [if_pos (by kernel_rfl)]
          go_simp
          go_fit (span_c r csr kp _ (HRc.out _ kd) hkp)
          rintro e w3 ⟨csx, rfl, rx, k2⟩
          obtain ⟨a1, c1, a2, c2, rfl, L1, L2, -⟩ := rGSpan_open rx
          replace kd := kd.trans k2
          clear k2
          go_wp2_with fail
          refine hK.out _ _ ((HO.out _ kd)) (fun hHeld => ?_)
          clear hK K
          (try simp only [Act.put]); (try simp only [List.getElem_toArray]); (try simp only [List.getElem_cons_succ]); (try simp only [List.getElem_cons_zero]); (try simp only [List.setIfInBounds_toArray]); (try simp only [List.set_cons_succ]); (try simp only [List.set_cons_zero])
          refine wpAnyH_ready (rs := [7]) (by kernel_rfl) (by simp) ?_
          refine AllReadyH.cons rfl (fun K hK => ?_) AllReadyH.nil
          rw [if_pos (by kernel_rfl)]
          go_simp
          go_fit (meet_c s (spanF r.fSpans kp) [.slice sF s.fFrom.length dF, .slice sT s.fTo.length dT] _ _ (HSc.out _ kd) rx)
          rw [HME.out]
          rintro e w4 ⟨rfl, k2⟩
          replace kd := kd.trans k2
          clear k2
          go_wp2_with fail
          refine hK.out _ _ ((HO.out _ kd)) (fun hHeld => ?_)
          clear hK K
          (try simp only [Act.put]); (try simp only [List.getElem_toArray]); (try simp only [List.getElem_cons_succ]); (try simp only [List.getElem_cons_zero]); (try simp only [List.setIfInBounds_toArray]); (try simp only [List.set_cons_succ]); (try simp only [List.set_cons_zero])
          refine wpAnyH_take (i := 8) (v := ?_) rfl (by kernel_rfl) (by kernel_rfl) (by kernel_rfl) (fun _ _ _ h => h) (Or.inl ⟨by kernel_rfl, ?_⟩) hHeld ?_
          rotate_left
          · intro w' hSw
            (try dsimp only at hSw)
            (try simp only [List.getElem_toArray]); (try simp only [List.getElem_cons_succ]); (try simp only [List.getElem_cons_zero])
            go_simp
            try with_reducible rfl
          (try simp only [Act.put]); (try simp only [List.getElem_toArray]); (try simp only [List.getElem_cons_succ]); (try simp only [List.getElem_cons_zero]); (try simp only [List.setIfInBounds_toArray]); (try simp only [List.set_cons_succ]); (try simp only [List.set_cons_zero])
          refine wpAnyH_done (by kernel_rfl) ?_ _
          clear hHeld
          go_wp2_with fail
          go_meet
          exact ⟨rfl, kd⟩
      case rest =>
      obtain ⟨rfl, kd⟩ := hcut
      replace row0 := row0.keep kd id
      replace rowS := rowS.keep kd id
      replace kk := kk.trans kd
      replace own := owned_keep own kd (fun _ _ h => h)
      have hs3 : bs + 1 + 1 ≤ wc.heap.size := rowS.lt
      clear kd HMV HPL
      cases mv with
      | true =>
        go_wp2_with (at_builtin; refine wpl_append1 T_lint rfl (.tmp 46) (.tmp 48) rfl (bs + 1 + 1) rfl own rfl rfl ?c1 ?c2 ?c3 hs3 ?_)
        case c1 => rfl
        case c2 => unfold maxLen; omega
        case c3 => omega
        intro a' cap' w6 own6 k6
        replace own6 : w6.ownsRow (bs + 1 + 1) 3 1 (.slice a' (n + 1) cap') (n + 1) (ints (rRowsL r s ++ rEntL r s (k + 1))) := by rw [hEN.out]; simpa [ints] using own6
        have hn6 : ∀ b, OwnB (.slice a n cap) b → bs + 1 + 1 ≤ b := fun b hb => (own.lt b hb).1
        replace row0 := row0.keep k6 (fun hb => by have := hn6 _ hb; omega)
        replace rowS := rowS.keep k6 (fun hb => by have := hn6 _ hb; omega)
        replace kk := kk.then k6 (fun i hi hb => by have := hn6 _ hb; omega)
        have HN2 : Hid (n + 1 = (rRowsL r s ++ rEntL r s (k + 1)).length) := by show _ = _; rw [hEN.out, HN.out]; simp [Nat.add_assoc]
        clear own k6
        go_wp2_with fail
        go_roundw
        case rel => exact ⟨k + 1, n + 1, a', cap', by omega, congrArg (Value.int .i64) (by omega), by simp, HN2, own6, row0, rowS, kk⟩
        case measure => simp [intOf]; omega
      | false =>
        have HN2 : Hid (n = (rRowsL r s ++ rEntL r s (k + 1)).length) := by show _ = _; rw [hEN.out, HN.out]; simp
        have own6 : wc.ownsRow (bs + 1 + 1) 3 1 (.slice a n cap) n (ints (rRowsL r s ++ rEntL r s (k + 1))) := by rw [hEN.out]; simpa [ints] using own
        clear own
        go_wp2_with fail
        go_roundw
        case rel => exact ⟨k + 1, n, a, cap, by omega, congrArg (Value.int .i64) (by omega), rfl, HN2, own6, row0, rowS, kk⟩
        case measure => simp [intOf]; omega
    · obtain rfl : k = 4 := by omega
      have hi2 : r.fBase + 4 < r.fBase + 1 + ((4 : Nat) : Int) := by omega
      have hY : Hid (Y = rRowsL r s ++ rEntL r s 4) := by show _ = _; rw [← HY.out]; rfl
      rw [← hY.out] at own
      have HLN : Hid (n = Y.length) := by show _ = _; rw [hY.out]; exact HN.out
      clear row0 rowS
      go_wp2_with fail
      go_ret
      refine ⟨a, cap, by rw [HLN.out]; rfl, ?_, kk⟩
      rw [← HLN.out]
      exact own_from own (by omega)
end
end Go.Proofs.Ytpblmaklbnpbfaa
