/- COMPARISONS of things that are alike. Printed by genHeld.py. -/
import Derived.Test.YtfagejfcibgigaaQSameA
import Derived.Deep.RegionHeld3
namespace Go.Proofs.Ytfagejfcibgigaa
open Go.RowKit

theorem lds_Span (a : Act) (dst : Option Tmp) (x : Operand) (ty : TypeId) (pos : String) (after : Array Edge) (guard : Option (Nat × Bool)) : execOp a.eval { dst := dst, op := .load 46 x, type := ty, pos := pos, after := after, guard := guard } = wholeSem 46 (a.eval x) := rfl
section
attribute [local go_sem ↓] lds_Span
set_option maxRecDepth 100000 in
set_option maxHeartbeats 4000000 in
theorem sm_Span {p q : Nat → Prop} (w : World) (l : List GSpan) (a b : Option Addr) (n ca m cb : Nat) (ha : rList rGSpan w p [.slice a n ca] l) (hb : rList rGSpan w q [.slice b m cb] l) :
    Calls Try.prog 42 #[.slice a n ca, .slice b m cb, .func (.func 43) #[] #[]] w fun e w' => e = .returned (.bool true) ∧ Keep Nix w w' := by
  obtain ⟨hn, -, hf⟩ := rList_len ha
  obtain ⟨hm, -, -⟩ := rList_len hb
  subst hn hm
  have hfar : l.length ≤ 9223372036854775807 := by have := far_len; unfold maxLen at this; omega
  clear hf
  have kk0 : Keep Nix w w := Keep.refl _ _
  go_enter Try.func42, Try.ntmps42
  go_wp2_with fail
  go_loopw [6, 7] (fun r i wr => ∃ k : Nat, k ≤ l.length ∧ i = .int .i64 k ∧ r = .bool false ∧ Keep Nix w wr) (fun _ i _ => l.length - (intOf i).toNat)
  case atStart => exact ⟨0, by omega, rfl, rfl, kk0⟩
  case round =>
    clear kk0
    obtain ⟨k, hk, rfl, rfl, kk⟩ := hrel
    by_cases hlt : k < l.length
    · have hi0 : (0 : Int) ≤ (k : Int) := by omega
      have hi1 : (k : Int) < (l.length : Int) := by omega
      obtain ⟨b1, o1, c1, ca', e1, -, hb1, rA, hcA⟩ := rList_at rGSpan_lawful (by decide) ((rList_lawful rGSpan_lawful).nix ha kk) k hlt
      obtain ⟨b2, o2, c2, cb', e2, -, hb2, rB, hcB⟩ := rList_at rGSpan_lawful (by decide) ((rList_lawful rGSpan_lawful).nix hb kk) k hlt
      simp only [List.cons.injEq, Value.slice.injEq, and_true] at e1 e2
      obtain ⟨e1, -, -⟩ := e1
      obtain ⟨e2, -, -⟩ := e2
      subst e1 e2
      clear ha hb
      have hlA := Lib.hid (rGSpan_lawful.len rA)
      have hlB := Lib.hid (rGSpan_lawful.len rB)
      generalize hv : l[k] = v at rA rB
      clear hv
      go_wp2_with fail
      refine wp_region_held_drew (S := (fun w' => (wholeSem 46 (.pointer (some ⟨b1, o1 + k * 2, none⟩))).run Try.prog w' = .ok (.value (.agg ca'.toArray)) w' ∧ (wholeSem 46 (.pointer (some ⟨b2, o2 + k * 2, none⟩))).run Try.prog w' = .ok (.value (.agg cb'.toArray)) w')) (by kernel_rfl) ⟨Whole.at (w := wr.drew) S_Span hlA.out hcA, Whole.at (w := wr.drew) S_Span hlB.out hcB⟩ (fun hHeld => ?_)
      refine wpAnyH_take (i := 0) (v := ?_) rfl (by kernel_rfl) (by kernel_rfl) (by kernel_rfl) (fun _ _ _ h => h) (Or.inl ⟨by rfl, ?_⟩) hHeld ?_
      rotate_left
      · intro w' hSw
        (try dsimp only at hSw)
        go_simp
        try with_reducible rfl
      (try simp only [Act.put]); (try simp only [List.setIfInBounds_toArray]); (try simp only [List.set_cons_succ]); (try simp only [List.set_cons_zero])
      refine wpAnyH_take (i := 1) (v := ?_) rfl (by kernel_rfl) (by kernel_rfl) (by kernel_rfl) (fun _ _ _ h => h) (Or.inl ⟨by rfl, ?_⟩) hHeld ?_
      rotate_left
      · intro w' hSw
        (try dsimp only at hSw)
        go_simp
        try with_reducible rfl
      (try simp only [Act.put]); (try simp only [List.setIfInBounds_toArray]); (try simp only [List.set_cons_succ]); (try simp only [List.set_cons_zero])
      refine wpAnyH_take (i := 2) (v := ?_) rfl (by kernel_rfl) (by kernel_rfl) (by kernel_rfl) (fun _ _ _ h => h) (Or.inl ⟨by rfl, ?_⟩) hHeld ?_
      rotate_left
      · intro w' hSw
        (try dsimp only at hSw)
        go_simp
        try with_reducible rfl
      (try simp only [Act.put]); (try simp only [List.setIfInBounds_toArray]); (try simp only [List.set_cons_succ]); (try simp only [List.set_cons_zero])
      refine wpAnyH_take (i := 3) (v := ?_) rfl (by kernel_rfl) (by kernel_rfl) (by kernel_rfl) (fun _ _ _ h => h) (Or.inl ⟨by rfl, ?_⟩) hHeld ?_
      rotate_left
      · intro w' hSw
        (try dsimp only at hSw)
        go_simp
        try with_reducible rfl
      (try simp only [Act.put]); (try simp only [List.setIfInBounds_toArray]); (try simp only [List.set_cons_succ]); (try simp only [List.set_cons_zero])
      refine wpAnyH_take (i := 4) (v := ?_) rfl (by kernel_rfl) (by kernel_rfl) (by kernel_rfl) (fun _ _ _ h => h) (Or.inl ⟨by rfl, ?_⟩) hHeld ?_
      rotate_left
      · intro w' hSw
        (try dsimp only at hSw)
        (try simp only [List.getElem_toArray]); (try simp only [List.getElem_cons_succ]); (try simp only [List.getElem_cons_zero])
        go_simp
        try with_reducible rfl
      (try simp only [Act.put]); (try simp only [List.setIfInBounds_toArray]); (try simp only [List.set_cons_succ]); (try simp only [List.set_cons_zero])
      refine wpAnyH_take (i := 5) (v := ?_) rfl (by kernel_rfl) (by kernel_rfl) (by kernel_rfl) (fun _ _ _ h => h) (Or.inl ⟨by rfl, ?_⟩) hHeld ?_
      rotate_left
      · intro w' hSw
        (try dsimp only at hSw)
        go_simp
        try with_reducible rfl
      (try simp only [Act.put]); (try simp only [List.setIfInBounds_toArray]); (try simp only [List.set_cons_succ]); (try simp only [List.set_cons_zero])
      refine wpAnyH_take (i := 6) (v := ?_) rfl (by kernel_rfl) (by kernel_rfl) (by kernel_rfl) (fun _ _ _ h => h) (Or.inl ⟨by rfl, ?_⟩) hHeld ?_
      rotate_left
      · intro w' hSw
        (try dsimp only at hSw)
        go_simp
        try with_reducible rfl
      (try simp only [Act.put]); (try simp only [List.setIfInBounds_toArray]); (try simp only [List.set_cons_succ]); (try simp only [List.set_cons_zero])
      refine wpAnyH_take (i := 7) (v := ?_) rfl (by kernel_rfl) (by kernel_rfl) (by kernel_rfl) (fun _ _ _ h => h) (Or.inl ⟨by rfl, ?_⟩) hHeld ?_
      rotate_left
      · intro w' hSw
        (try dsimp only at hSw)
        go_simp
        try with_reducible rfl
      (try simp only [Act.put]); (try simp only [List.setIfInBounds_toArray]); (try simp only [List.set_cons_succ]); (try simp only [List.set_cons_zero])
      refine wpAnyH_take (i := 8) (v := ?_) rfl (by kernel_rfl) (by kernel_rfl) (by kernel_rfl) (fun _ _ _ h => h) (Or.inl ⟨by rfl, ?_⟩) hHeld ?_
      rotate_left
      · intro w' hSw
        (try dsimp only at hSw)
        (try simp only [List.getElem_toArray]); (try simp only [List.getElem_cons_succ]); (try simp only [List.getElem_cons_zero])
        go_simp
        try with_reducible rfl
      (try simp only [Act.put]); (try simp only [List.setIfInBounds_toArray]); (try simp only [List.set_cons_succ]); (try simp only [List.set_cons_zero])
      refine wpAnyH_ready (rs := [9]) (by kernel_rfl) (by simp) ?_
      refine AllReadyH.cons rfl (fun K hK => ?_) AllReadyH.nil
      go_simp
      go_fit (sSpan_c _ v ca' cb' (rGSpan_lawful.nix rA ((Keep.refl Nix wr).drew)) (rGSpan_lawful.nix rB ((Keep.refl Nix wr).drew)))
      rintro e w2 ⟨rfl, k2⟩
      replace kk := kk.drew.trans k2
      replace hcA := fun j u hu => (k2.cell (p := ⟨b1, o1 + k * 2 + j, none⟩) hb1 id).trans (hcA j u hu)
      replace hcB := fun j u hu => (k2.cell (p := ⟨b2, o2 + k * 2 + j, none⟩) hb2 id).trans (hcB j u hu)
      clear k2 rA rB
      go_wp2_with fail
      refine hK.out _ _ ⟨Whole.at S_Span hlA.out hcA, Whole.at S_Span hlB.out hcB⟩ (fun hHeld => ?_)
      clear hK K
      (try simp only [Act.put]); (try simp only [List.setIfInBounds_toArray]); (try simp only [List.set_cons_succ]); (try simp only [List.set_cons_zero])
      refine wpAnyH_take (i := 10) (v := ?_) rfl (by kernel_rfl) (by kernel_rfl) (by kernel_rfl) (fun _ _ _ h => h) (Or.inl ⟨by rfl, ?_⟩) hHeld ?_
      rotate_left
      · intro w' hSw
        (try dsimp only at hSw)
        go_simp
        try with_reducible rfl
      (try simp only [Act.put]); (try simp only [List.setIfInBounds_toArray]); (try simp only [List.set_cons_succ]); (try simp only [List.set_cons_zero])
      refine wpAnyH_done (by kernel_rfl) ?_ _
      clear hHeld
      go_wp2
      go_roundw
      case rel => exact ⟨k + 1, by omega, by go_num, rfl, kk⟩
      case measure => simp [intOf]; omega
    · obtain rfl : k = l.length := by omega
      go_wp2_with fail
      go_ret
      exact ⟨rfl, kk⟩
end
set_option maxRecDepth 100000 in
set_option maxHeartbeats 8000000 in
theorem sHeld_c {p q : Nat → Prop} (w : World) (x : GHeld) (ca cb : List Value) (ha : rGHeld w p ca x) (hb : rGHeld w q cb x) : Calls Try.prog 15 #[.agg ca.toArray, .agg cb.toArray] w fun e w' => e = .returned (.bool true) ∧ Keep Nix w w' := by
  obtain ⟨apKeys, cpKeys, apSpans, cpSpans, apWrites, cpWrites, rfl, h0, h1, h2, h3, -⟩ := rGHeld_open ha
  obtain ⟨aqKeys, cqKeys, aqSpans, cqSpans, aqWrites, cqWrites, rfl, g0, g1, g2, g3, -⟩ := rGHeld_open hb
  have hsz : (w.alloc (.cells #[.int .u64 x.fTxn, .slice apKeys x.fKeys.length cpKeys, .slice apSpans x.fSpans.length cpSpans, .slice apWrites x.fWrites.length cpWrites] 28)).heap.size = w.heap.size + 1 := by simp
  have rowA : RowIs ((w.alloc (.cells #[.int .u64 x.fTxn, .slice apKeys x.fKeys.length cpKeys, .slice apSpans x.fSpans.length cpSpans, .slice apWrites x.fWrites.length cpWrites] 28)).alloc (.cells #[.int .u64 x.fTxn, .slice aqKeys x.fKeys.length cqKeys, .slice aqSpans x.fSpans.length cqSpans, .slice aqWrites x.fWrites.length cqWrites] 28)) w.heap.size 28 [.int .u64 x.fTxn, .slice apKeys x.fKeys.length cpKeys, .slice apSpans x.fSpans.length cpSpans, .slice apWrites x.fWrites.length cpWrites] := (RowIs.alloc w _ _).keep ((Keep.refl Nix _).alloc _) id
  have rowB : RowIs ((w.alloc (.cells #[.int .u64 x.fTxn, .slice apKeys x.fKeys.length cpKeys, .slice apSpans x.fSpans.length cpSpans, .slice apWrites x.fWrites.length cpWrites] 28)).alloc (.cells #[.int .u64 x.fTxn, .slice aqKeys x.fKeys.length cqKeys, .slice aqSpans x.fSpans.length cqSpans, .slice aqWrites x.fWrites.length cqWrites] 28)) (w.heap.size + 1) 28 [.int .u64 x.fTxn, .slice aqKeys x.fKeys.length cqKeys, .slice aqSpans x.fSpans.length cqSpans, .slice aqWrites x.fWrites.length cqWrites] := by
    rw [← hsz]
    exact RowIs.alloc (w.alloc (.cells #[.int .u64 x.fTxn, .slice apKeys x.fKeys.length cpKeys, .slice apSpans x.fSpans.length cpSpans, .slice apWrites x.fWrites.length cpWrites] 28)) _ _
  have kk : Keep Nix w ((w.alloc (.cells #[.int .u64 x.fTxn, .slice apKeys x.fKeys.length cpKeys, .slice apSpans x.fSpans.length cpSpans, .slice apWrites x.fWrites.length cpWrites] 28)).alloc (.cells #[.int .u64 x.fTxn, .slice aqKeys x.fKeys.length cqKeys, .slice aqSpans x.fSpans.length cqSpans, .slice aqWrites x.fWrites.length cqWrites] 28)) := ((Keep.refl Nix w).alloc _).alloc _
  clear hsz ha hb
  clear h0 g0
  replace h1 := (rList_lawful rBytes_lawful).nix h1 kk
  replace g1 := (rList_lawful rBytes_lawful).nix g1 kk
  replace h2 := (rList_lawful rGSpan_lawful).nix h2 kk
  replace g2 := (rList_lawful rGSpan_lawful).nix g2 kk
  replace h3 := (rList_lawful rGWrite_lawful).nix h3 kk
  replace g3 := (rList_lawful rGWrite_lawful).nix g3 kk
  go_enter Try.func15, Try.ntmps15
  go_wp2_with fail
  go_fit (sm_bytes _ x.fKeys _ _ _ _ _ _ h1 g1)
  rintro e w1 ⟨rfl, k1⟩
  replace rowA := rowA.keep k1 id
  replace rowB := rowB.keep k1 id
  replace kk := kk.trans k1
  replace h2 := (rList_lawful rGSpan_lawful).nix h2 k1
  replace g2 := (rList_lawful rGSpan_lawful).nix g2 k1
  replace h3 := (rList_lawful rGWrite_lawful).nix h3 k1
  replace g3 := (rList_lawful rGWrite_lawful).nix g3 k1
  clear k1
  clear h1 g1
  have xa2 : w1.cell? ⟨w.heap.size, 2, none⟩ = some (.slice apSpans x.fSpans.length cpSpans) := rowA.cell 2
  have xb2 : w1.cell? ⟨w.heap.size + 1, 2, none⟩ = some (.slice aqSpans x.fSpans.length cqSpans) := rowB.cell 2
  go_wp2_with fail
  clear xa2 xb2
  go_fit (sm_Span _ x.fSpans _ _ _ _ _ _ h2 g2)
  rintro e w2 ⟨rfl, k1⟩
  replace rowA := rowA.keep k1 id
  replace rowB := rowB.keep k1 id
  replace kk := kk.trans k1
  replace h3 := (rList_lawful rGWrite_lawful).nix h3 k1
  replace g3 := (rList_lawful rGWrite_lawful).nix g3 k1
  clear k1
  clear h2 g2
  have xa3 : w2.cell? ⟨w.heap.size, 3, none⟩ = some (.slice apWrites x.fWrites.length cpWrites) := rowA.cell 3
  have xb3 : w2.cell? ⟨w.heap.size + 1, 3, none⟩ = some (.slice aqWrites x.fWrites.length cqWrites) := rowB.cell 3
  go_wp2_with fail
  clear xa3 xb3
  go_fit (sm_Write _ x.fWrites _ _ _ _ _ _ h3 g3)
  rintro e w3 ⟨rfl, k1⟩
  replace rowA := rowA.keep k1 id
  replace rowB := rowB.keep k1 id
  replace kk := kk.trans k1
  clear k1
  clear h3 g3
  go_wp2
  go_ret
  exact ⟨by first | rfl | simp, kk⟩
theorem lds_Held (a : Act) (dst : Option Tmp) (x : Operand) (ty : TypeId) (pos : String) (after : Array Edge) (guard : Option (Nat × Bool)) : execOp a.eval { dst := dst, op := .load 28 x, type := ty, pos := pos, after := after, guard := guard } = wholeSem 28 (a.eval x) := rfl
section
attribute [local go_sem ↓] lds_Held
set_option maxRecDepth 100000 in
set_option maxHeartbeats 4000000 in
theorem sm_Held {p q : Nat → Prop} (w : World) (l : List GHeld) (a b : Option Addr) (n ca m cb : Nat) (ha : rList rGHeld w p [.slice a n ca] l) (hb : rList rGHeld w q [.slice b m cb] l) :
    Calls Try.prog 13 #[.slice a n ca, .slice b m cb, .func (.func 15) #[] #[]] w fun e w' => e = .returned (.bool true) ∧ Keep Nix w w' := by
  obtain ⟨hn, -, hf⟩ := rList_len ha
  obtain ⟨hm, -, -⟩ := rList_len hb
  subst hn hm
  have hfar : l.length ≤ 9223372036854775807 := by have := far_len; unfold maxLen at this; omega
  clear hf
  have kk0 : Keep Nix w w := Keep.refl _ _
  go_enter Try.func13, Try.ntmps13
  go_wp2_with fail
  go_loopw [6, 7] (fun r i wr => ∃ k : Nat, k ≤ l.length ∧ i = .int .i64 k ∧ r = .bool false ∧ Keep Nix w wr) (fun _ i _ => l.length - (intOf i).toNat)
  case atStart => exact ⟨0, by omega, rfl, rfl, kk0⟩
  case round =>
    clear kk0
    obtain ⟨k, hk, rfl, rfl, kk⟩ := hrel
    by_cases hlt : k < l.length
    · have hi0 : (0 : Int) ≤ (k : Int) := by omega
      have hi1 : (k : Int) < (l.length : Int) := by omega
      obtain ⟨b1, o1, c1, ca', e1, -, hb1, rA, hcA⟩ := rList_at rGHeld_lawful (by decide) ((rList_lawful rGHeld_lawful).nix ha kk) k hlt
      obtain ⟨b2, o2, c2, cb', e2, -, hb2, rB, hcB⟩ := rList_at rGHeld_lawful (by decide) ((rList_lawful rGHeld_lawful).nix hb kk) k hlt
      simp only [List.cons.injEq, Value.slice.injEq, and_true] at e1 e2
      obtain ⟨e1, -, -⟩ := e1
      obtain ⟨e2, -, -⟩ := e2
      subst e1 e2
      clear ha hb
      have hlA := Lib.hid (rGHeld_lawful.len rA)
      have hlB := Lib.hid (rGHeld_lawful.len rB)
      generalize hv : l[k] = v at rA rB
      clear hv
      go_wp2_with fail
      refine wp_region_held_drew (S := (fun w' => (wholeSem 28 (.pointer (some ⟨b1, o1 + k * 4, none⟩))).run Try.prog w' = .ok (.value (.agg ca'.toArray)) w' ∧ (wholeSem 28 (.pointer (some ⟨b2, o2 + k * 4, none⟩))).run Try.prog w' = .ok (.value (.agg cb'.toArray)) w')) (by kernel_rfl) ⟨Whole.at (w := wr.drew) S_Held hlA.out hcA, Whole.at (w := wr.drew) S_Held hlB.out hcB⟩ (fun hHeld => ?_)
      refine wpAnyH_take (i := 0) (v := ?_) rfl (by kernel_rfl) (by kernel_rfl) (by kernel_rfl) (fun _ _ _ h => h) (Or.inl ⟨by rfl, ?_⟩) hHeld ?_
      rotate_left
      · intro w' hSw
        (try dsimp only at hSw)
        go_simp
        try with_reducible rfl
      (try simp only [Act.put]); (try simp only [List.setIfInBounds_toArray]); (try simp only [List.set_cons_succ]); (try simp only [List.set_cons_zero])
      refine wpAnyH_take (i := 1) (v := ?_) rfl (by kernel_rfl) (by kernel_rfl) (by kernel_rfl) (fun _ _ _ h => h) (Or.inl ⟨by rfl, ?_⟩) hHeld ?_
      rotate_left
      · intro w' hSw
        (try dsimp only at hSw)
        go_simp
        try with_reducible rfl
      (try simp only [Act.put]); (try simp only [List.setIfInBounds_toArray]); (try simp only [List.set_cons_succ]); (try simp only [List.set_cons_zero])
      refine wpAnyH_take (i := 2) (v := ?_) rfl (by kernel_rfl) (by kernel_rfl) (by kernel_rfl) (fun _ _ _ h => h) (Or.inl ⟨by rfl, ?_⟩) hHeld ?_
      rotate_left
      · intro w' hSw
        (try dsimp only at hSw)
        go_simp
        try with_reducible rfl
      (try simp only [Act.put]); (try simp only [List.setIfInBounds_toArray]); (try simp only [List.set_cons_succ]); (try simp only [List.set_cons_zero])
      refine wpAnyH_take (i := 3) (v := ?_) rfl (by kernel_rfl) (by kernel_rfl) (by kernel_rfl) (fun _ _ _ h => h) (Or.inl ⟨by rfl, ?_⟩) hHeld ?_
      rotate_left
      · intro w' hSw
        (try dsimp only at hSw)
        go_simp
        try with_reducible rfl
      (try simp only [Act.put]); (try simp only [List.setIfInBounds_toArray]); (try simp only [List.set_cons_succ]); (try simp only [List.set_cons_zero])
      refine wpAnyH_take (i := 4) (v := ?_) rfl (by kernel_rfl) (by kernel_rfl) (by kernel_rfl) (fun _ _ _ h => h) (Or.inl ⟨by rfl, ?_⟩) hHeld ?_
      rotate_left
      · intro w' hSw
        (try dsimp only at hSw)
        (try simp only [List.getElem_toArray]); (try simp only [List.getElem_cons_succ]); (try simp only [List.getElem_cons_zero])
        go_simp
        try with_reducible rfl
      (try simp only [Act.put]); (try simp only [List.setIfInBounds_toArray]); (try simp only [List.set_cons_succ]); (try simp only [List.set_cons_zero])
      refine wpAnyH_take (i := 5) (v := ?_) rfl (by kernel_rfl) (by kernel_rfl) (by kernel_rfl) (fun _ _ _ h => h) (Or.inl ⟨by rfl, ?_⟩) hHeld ?_
      rotate_left
      · intro w' hSw
        (try dsimp only at hSw)
        go_simp
        try with_reducible rfl
      (try simp only [Act.put]); (try simp only [List.setIfInBounds_toArray]); (try simp only [List.set_cons_succ]); (try simp only [List.set_cons_zero])
      refine wpAnyH_take (i := 6) (v := ?_) rfl (by kernel_rfl) (by kernel_rfl) (by kernel_rfl) (fun _ _ _ h => h) (Or.inl ⟨by rfl, ?_⟩) hHeld ?_
      rotate_left
      · intro w' hSw
        (try dsimp only at hSw)
        go_simp
        try with_reducible rfl
      (try simp only [Act.put]); (try simp only [List.setIfInBounds_toArray]); (try simp only [List.set_cons_succ]); (try simp only [List.set_cons_zero])
      refine wpAnyH_take (i := 7) (v := ?_) rfl (by kernel_rfl) (by kernel_rfl) (by kernel_rfl) (fun _ _ _ h => h) (Or.inl ⟨by rfl, ?_⟩) hHeld ?_
      rotate_left
      · intro w' hSw
        (try dsimp only at hSw)
        go_simp
        try with_reducible rfl
      (try simp only [Act.put]); (try simp only [List.setIfInBounds_toArray]); (try simp only [List.set_cons_succ]); (try simp only [List.set_cons_zero])
      refine wpAnyH_take (i := 8) (v := ?_) rfl (by kernel_rfl) (by kernel_rfl) (by kernel_rfl) (fun _ _ _ h => h) (Or.inl ⟨by rfl, ?_⟩) hHeld ?_
      rotate_left
      · intro w' hSw
        (try dsimp only at hSw)
        (try simp only [List.getElem_toArray]); (try simp only [List.getElem_cons_succ]); (try simp only [List.getElem_cons_zero])
        go_simp
        try with_reducible rfl
      (try simp only [Act.put]); (try simp only [List.setIfInBounds_toArray]); (try simp only [List.set_cons_succ]); (try simp only [List.set_cons_zero])
      refine wpAnyH_ready (rs := [9]) (by kernel_rfl) (by simp) ?_
      refine AllReadyH.cons rfl (fun K hK => ?_) AllReadyH.nil
      go_simp
      go_fit (sHeld_c _ v ca' cb' (rGHeld_lawful.nix rA ((Keep.refl Nix wr).drew)) (rGHeld_lawful.nix rB ((Keep.refl Nix wr).drew)))
      rintro e w2 ⟨rfl, k2⟩
      replace kk := kk.drew.trans k2
      replace hcA := fun j u hu => (k2.cell (p := ⟨b1, o1 + k * 4 + j, none⟩) hb1 id).trans (hcA j u hu)
      replace hcB := fun j u hu => (k2.cell (p := ⟨b2, o2 + k * 4 + j, none⟩) hb2 id).trans (hcB j u hu)
      clear k2 rA rB
      go_wp2_with fail
      refine hK.out _ _ ⟨Whole.at S_Held hlA.out hcA, Whole.at S_Held hlB.out hcB⟩ (fun hHeld => ?_)
      clear hK K
      (try simp only [Act.put]); (try simp only [List.setIfInBounds_toArray]); (try simp only [List.set_cons_succ]); (try simp only [List.set_cons_zero])
      refine wpAnyH_take (i := 10) (v := ?_) rfl (by kernel_rfl) (by kernel_rfl) (by kernel_rfl) (fun _ _ _ h => h) (Or.inl ⟨by rfl, ?_⟩) hHeld ?_
      rotate_left
      · intro w' hSw
        (try dsimp only at hSw)
        go_simp
        try with_reducible rfl
      (try simp only [Act.put]); (try simp only [List.setIfInBounds_toArray]); (try simp only [List.set_cons_succ]); (try simp only [List.set_cons_zero])
      refine wpAnyH_done (by kernel_rfl) ?_ _
      clear hHeld
      go_wp2
      go_roundw
      case rel => exact ⟨k + 1, by omega, by go_num, rfl, kk⟩
      case measure => simp [intOf]; omega
    · obtain rfl : k = l.length := by omega
      go_wp2_with fail
      go_ret
      exact ⟨rfl, kk⟩
end
end Go.Proofs.Ytfagejfcibgigaa
