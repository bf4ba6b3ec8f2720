/- COMPARISONS of things that are alike. Printed by gen11.py. -/
import Derived.Test.YtfagejfcibgigaaQOpens
import Derived.Test.YtfagejfcibgigaaQHelp
import Derived.Deep.RegionHeld3
namespace Go.Proofs.Ytfagejfcibgigaa
open Go.RowKit

theorem bytesT_c {p q : Nat → Prop} (a b : Option Addr) (n ca m cb : Nat) (l : List UInt8) (w : World) (hn : l.length = n) (hm : l.length = m) (ha : Lies w p a (l.map bv)) (hb : Lies w q b (l.map bv)) :
    Calls Try.prog 17 #[.slice a n ca, .slice b m cb] w fun e w' => e = .returned (.bool true) ∧ w = w' :=
  (bytes_c a b n ca m cb l l w hn hm ha hb).mono fun e w' ⟨he, hw⟩ => ⟨by rw [he]; simp, hw⟩
theorem pc_num (v : Int) (w : World) : Calls Try.prog 62 #[.int .u64 v, .int .u64 v] w fun e w' => e = .returned (.bool true) ∧ w = w' := by
  go_enter Try.func62, Try.ntmps62
  go_wp2
  go_ret
  exact ⟨by simp, rfl⟩
set_option maxRecDepth 100000 in
set_option maxHeartbeats 4000000 in
theorem sm_num {p q : Nat → Prop} (w : World) (l : List Int) (a b : Option Addr) (n ca m cb : Nat) (ha : rList (rInt .u64) w p [.slice a n ca] l) (hb : rList (rInt .u64) w q [.slice b m cb] l) :
    Calls Try.prog 61 #[.slice a n ca, .slice b m cb, .func (.func 62) #[] #[]] w fun e w' => e = .returned (.bool true) ∧ Keep Nix w w' := by
  obtain ⟨hn, -, hf⟩ := rList_len ha
  obtain ⟨hm, -, -⟩ := rList_len hb
  subst hn hm
  have hfar : l.length ≤ 9223372036854775807 := by have := far_len; unfold maxLen at this; omega
  clear hf
  have kk0 : Keep Nix w w := Keep.refl _ _
  go_enter Try.func61, Try.ntmps61
  go_wp2_with fail
  go_loopw [6, 7] (fun r i wr => ∃ k : Nat, k ≤ l.length ∧ i = .int .i64 k ∧ r = .bool false ∧ Keep Nix w wr) (fun _ i _ => l.length - (intOf i).toNat)
  case atStart => exact ⟨0, by omega, rfl, rfl, kk0⟩
  case round =>
    clear kk0
    obtain ⟨k, hk, rfl, rfl, kk⟩ := hrel
    by_cases hlt : k < l.length
    · have hi0 : (0 : Int) ≤ (k : Int) := by omega
      have hi1 : (k : Int) < (l.length : Int) := by omega
      obtain ⟨b1, o1, c1, ca', e1, -, hb1, rA, hcA⟩ := rList_at (rInt_lawful _) (by decide) ((rList_lawful (rInt_lawful _)).nix ha kk) k hlt
      obtain ⟨b2, o2, c2, cb', e2, -, hb2, rB, hcB⟩ := rList_at (rInt_lawful _) (by decide) ((rList_lawful (rInt_lawful _)).nix hb kk) k hlt
      simp only [List.cons.injEq, Value.slice.injEq, and_true] at e1 e2
      obtain ⟨e1, -, -⟩ := e1
      obtain ⟨e2, -, -⟩ := e2
      subst e1 e2
      clear ha hb
      obtain ⟨rfl, -⟩ := rA
      obtain ⟨rfl, -⟩ := rB
      have xA := hcA 0 _ rfl
      have xB := hcB 0 _ rfl
      rw [Nat.mul_one, Nat.add_zero] at xA xB
      clear hcA hcB
      generalize hv : l[k] = v at xA xB
      clear hv
      go_wp2_with fail
      refine wp_region_held_drew (S := (fun w' => w'.cell? ⟨b1, o1 + k, none⟩ = some (.int .u64 v) ∧ w'.cell? ⟨b2, o2 + k, none⟩ = some (.int .u64 v))) (by kernel_rfl) ⟨xA, xB⟩ (fun hHeld => ?_)
      refine wpAnyH_take (i := 0) (v := ?_) rfl (by kernel_rfl) (by kernel_rfl) (by kernel_rfl) (fun _ _ _ h => h) (Or.inl ⟨by rfl, ?_⟩) hHeld ?_
      rotate_left
      · intro w' hSw
        (try dsimp only at hSw)
        go_simp
        try with_reducible rfl
      (try simp only [Act.put]); (try simp only [List.setIfInBounds_toArray]); (try simp only [List.set_cons_succ]); (try simp only [List.set_cons_zero])
      refine wpAnyH_take (i := 1) (v := ?_) rfl (by kernel_rfl) (by kernel_rfl) (by kernel_rfl) (fun _ _ _ h => h) (Or.inl ⟨by rfl, ?_⟩) hHeld ?_
      rotate_left
      · intro w' hSw
        (try dsimp only at hSw)
        go_simp
        try with_reducible rfl
      (try simp only [Act.put]); (try simp only [List.setIfInBounds_toArray]); (try simp only [List.set_cons_succ]); (try simp only [List.set_cons_zero])
      refine wpAnyH_take (i := 2) (v := ?_) rfl (by kernel_rfl) (by kernel_rfl) (by kernel_rfl) (fun _ _ _ h => h) (Or.inl ⟨by rfl, ?_⟩) hHeld ?_
      rotate_left
      · intro w' hSw
        (try dsimp only at hSw)
        go_simp
        try with_reducible rfl
      (try simp only [Act.put]); (try simp only [List.setIfInBounds_toArray]); (try simp only [List.set_cons_succ]); (try simp only [List.set_cons_zero])
      refine wpAnyH_take (i := 3) (v := ?_) rfl (by kernel_rfl) (by kernel_rfl) (by kernel_rfl) (fun _ _ _ h => h) (Or.inl ⟨by rfl, ?_⟩) hHeld ?_
      rotate_left
      · intro w' hSw
        (try dsimp only at hSw)
        go_simp
        try with_reducible rfl
      (try simp only [Act.put]); (try simp only [List.setIfInBounds_toArray]); (try simp only [List.set_cons_succ]); (try simp only [List.set_cons_zero])
      refine wpAnyH_take (i := 4) (v := ?_) rfl (by kernel_rfl) (by kernel_rfl) (by kernel_rfl) (fun _ _ _ h => h) (Or.inl ⟨by rfl, ?_⟩) hHeld ?_
      rotate_left
      · intro w' hSw
        (try dsimp only at hSw)
        (try simp only [List.getElem_toArray]); (try simp only [List.getElem_cons_succ]); (try simp only [List.getElem_cons_zero])
        go_simp
        try with_reducible rfl
      (try simp only [Act.put]); (try simp only [List.setIfInBounds_toArray]); (try simp only [List.set_cons_succ]); (try simp only [List.set_cons_zero])
      refine wpAnyH_take (i := 5) (v := ?_) rfl (by kernel_rfl) (by kernel_rfl) (by kernel_rfl) (fun _ _ _ h => h) (Or.inl ⟨by rfl, ?_⟩) hHeld ?_
      rotate_left
      · intro w' hSw
        (try dsimp only at hSw)
        go_simp
        try with_reducible rfl
      (try simp only [Act.put]); (try simp only [List.setIfInBounds_toArray]); (try simp only [List.set_cons_succ]); (try simp only [List.set_cons_zero])
      refine wpAnyH_take (i := 6) (v := ?_) rfl (by kernel_rfl) (by kernel_rfl) (by kernel_rfl) (fun _ _ _ h => h) (Or.inl ⟨by rfl, ?_⟩) hHeld ?_
      rotate_left
      · intro w' hSw
        (try dsimp only at hSw)
        go_simp
        try with_reducible rfl
      (try simp only [Act.put]); (try simp only [List.setIfInBounds_toArray]); (try simp only [List.set_cons_succ]); (try simp only [List.set_cons_zero])
      refine wpAnyH_take (i := 7) (v := ?_) rfl (by kernel_rfl) (by kernel_rfl) (by kernel_rfl) (fun _ _ _ h => h) (Or.inl ⟨by rfl, ?_⟩) hHeld ?_
      rotate_left
      · intro w' hSw
        (try dsimp only at hSw)
        go_simp
        try with_reducible rfl
      (try simp only [Act.put]); (try simp only [List.setIfInBounds_toArray]); (try simp only [List.set_cons_succ]); (try simp only [List.set_cons_zero])
      refine wpAnyH_take (i := 8) (v := ?_) rfl (by kernel_rfl) (by kernel_rfl) (by kernel_rfl) (fun _ _ _ h => h) (Or.inl ⟨by rfl, ?_⟩) hHeld ?_
      rotate_left
      · intro w' hSw
        (try dsimp only at hSw)
        (try simp only [List.getElem_toArray]); (try simp only [List.getElem_cons_succ]); (try simp only [List.getElem_cons_zero])
        go_simp
        try with_reducible rfl
      (try simp only [Act.put]); (try simp only [List.setIfInBounds_toArray]); (try simp only [List.set_cons_succ]); (try simp only [List.set_cons_zero])
      refine wpAnyH_ready (rs := [9]) (by kernel_rfl) (by simp) ?_
      refine AllReadyH.cons rfl (fun K hK => ?_) AllReadyH.nil
      go_simp
      go_fit (pc_num v _)
      rintro e w2 ⟨rfl, rfl⟩
      replace kk := kk.drew
      go_wp2_with fail
      refine hK.out _ _ ⟨xA, xB⟩ (fun hHeld => ?_)
      clear hK K
      (try simp only [Act.put]); (try simp only [List.setIfInBounds_toArray]); (try simp only [List.set_cons_succ]); (try simp only [List.set_cons_zero])
      refine wpAnyH_take (i := 10) (v := ?_) rfl (by kernel_rfl) (by kernel_rfl) (by kernel_rfl) (fun _ _ _ h => h) (Or.inl ⟨by rfl, ?_⟩) hHeld ?_
      rotate_left
      · intro w' hSw
        (try dsimp only at hSw)
        go_simp
        try with_reducible rfl
      (try simp only [Act.put]); (try simp only [List.setIfInBounds_toArray]); (try simp only [List.set_cons_succ]); (try simp only [List.set_cons_zero])
      refine wpAnyH_done (by kernel_rfl) ?_ _
      clear hHeld
      go_wp2
      go_roundw
      case rel => exact ⟨k + 1, by omega, by go_num, rfl, kk⟩
      case measure => simp [intOf]; omega
    · obtain rfl : k = l.length := by omega
      go_wp2_with fail
      go_ret
      exact ⟨rfl, kk⟩
theorem pl_num {p q : Nat → Prop} (w : World) (l : List Int) (a b : Option Addr) (n ca m cb : Nat) (ha : rList (rInt .u64) w p [.slice a n ca] l) (hb : rList (rInt .u64) w q [.slice b m cb] l) :
    Calls Try.prog 32 #[.slice a n ca, .slice b m cb] w fun e w' => e = .returned (.bool true) ∧ Keep Nix w w' := by
  go_enter Try.func32, Try.ntmps32
  go_wp2_with fail
  go_fit (sm_num w l a b n ca m cb ha hb)
  rintro e w1 ⟨rfl, k1⟩
  go_wp2
  go_ret
  exact ⟨rfl, k1⟩
set_option maxRecDepth 100000 in
set_option maxHeartbeats 4000000 in
theorem sm_bytes {p q : Nat → Prop} (w : World) (l : List (List UInt8)) (a b : Option Addr) (n ca m cb : Nat) (ha : rList rBytes w p [.slice a n ca] l) (hb : rList rBytes w q [.slice b m cb] l) :
    Calls Try.prog 41 #[.slice a n ca, .slice b m cb, .func (.func 17) #[] #[]] w fun e w' => e = .returned (.bool true) ∧ Keep Nix w w' := by
  obtain ⟨hn, -, hf⟩ := rList_len ha
  obtain ⟨hm, -, -⟩ := rList_len hb
  subst hn hm
  have hfar : l.length ≤ 9223372036854775807 := by have := far_len; unfold maxLen at this; omega
  clear hf
  have kk0 : Keep Nix w w := Keep.refl _ _
  go_enter Try.func41, Try.ntmps41
  go_wp2_with fail
  go_loopw [6, 7] (fun r i wr => ∃ k : Nat, k ≤ l.length ∧ i = .int .i64 k ∧ r = .bool false ∧ Keep Nix w wr) (fun _ i _ => l.length - (intOf i).toNat)
  case atStart => exact ⟨0, by omega, rfl, rfl, kk0⟩
  case round =>
    clear kk0
    obtain ⟨k, hk, rfl, rfl, kk⟩ := hrel
    by_cases hlt : k < l.length
    · have hi0 : (0 : Int) ≤ (k : Int) := by omega
      have hi1 : (k : Int) < (l.length : Int) := by omega
      obtain ⟨b1, o1, c1, ca', e1, -, hb1, rA, hcA⟩ := rList_at rBytes_lawful (by decide) ((rList_lawful rBytes_lawful).nix ha kk) k hlt
      obtain ⟨b2, o2, c2, cb', e2, -, hb2, rB, hcB⟩ := rList_at rBytes_lawful (by decide) ((rList_lawful rBytes_lawful).nix hb kk) k hlt
      simp only [List.cons.injEq, Value.slice.injEq, and_true] at e1 e2
      obtain ⟨e1, -, -⟩ := e1
      obtain ⟨e2, -, -⟩ := e2
      subst e1 e2
      clear ha hb
      obtain ⟨aA, cA, rfl, lA, -⟩ := rA
      obtain ⟨aB, cB, rfl, lB, -⟩ := rB
      have xA := hcA 0 _ rfl
      have xB := hcB 0 _ rfl
      rw [Nat.mul_one, Nat.add_zero] at xA xB
      clear hcA hcB
      generalize hv : l[k] = v at xA xB lA lB
      clear hv
      go_wp2_with fail
      refine wp_region_held_drew (S := (fun w' => w'.cell? ⟨b1, o1 + k, none⟩ = some (.slice aA v.length cA) ∧ w'.cell? ⟨b2, o2 + k, none⟩ = some (.slice aB v.length cB))) (by kernel_rfl) ⟨xA, xB⟩ (fun hHeld => ?_)
      refine wpAnyH_take (i := 0) (v := ?_) rfl (by kernel_rfl) (by kernel_rfl) (by kernel_rfl) (fun _ _ _ h => h) (Or.inl ⟨by rfl, ?_⟩) hHeld ?_
      rotate_left
      · intro w' hSw
        (try dsimp only at hSw)
        go_simp
        try with_reducible rfl
      (try simp only [Act.put]); (try simp only [List.setIfInBounds_toArray]); (try simp only [List.set_cons_succ]); (try simp only [List.set_cons_zero])
      refine wpAnyH_take (i := 1) (v := ?_) rfl (by kernel_rfl) (by kernel_rfl) (by kernel_rfl) (fun _ _ _ h => h) (Or.inl ⟨by rfl, ?_⟩) hHeld ?_
      rotate_left
      · intro w' hSw
        (try dsimp only at hSw)
        go_simp
        try with_reducible rfl
      (try simp only [Act.put]); (try simp only [List.setIfInBounds_toArray]); (try simp only [List.set_cons_succ]); (try simp only [List.set_cons_zero])
      refine wpAnyH_take (i := 2) (v := ?_) rfl (by kernel_rfl) (by kernel_rfl) (by kernel_rfl) (fun _ _ _ h => h) (Or.inl ⟨by rfl, ?_⟩) hHeld ?_
      rotate_left
      · intro w' hSw
        (try dsimp only at hSw)
        go_simp
        try with_reducible rfl
      (try simp only [Act.put]); (try simp only [List.setIfInBounds_toArray]); (try simp only [List.set_cons_succ]); (try simp only [List.set_cons_zero])
      refine wpAnyH_take (i := 3) (v := ?_) rfl (by kernel_rfl) (by kernel_rfl) (by kernel_rfl) (fun _ _ _ h => h) (Or.inl ⟨by rfl, ?_⟩) hHeld ?_
      rotate_left
      · intro w' hSw
        (try dsimp only at hSw)
        go_simp
        try with_reducible rfl
      (try simp only [Act.put]); (try simp only [List.setIfInBounds_toArray]); (try simp only [List.set_cons_succ]); (try simp only [List.set_cons_zero])
      refine wpAnyH_take (i := 4) (v := ?_) rfl (by kernel_rfl) (by kernel_rfl) (by kernel_rfl) (fun _ _ _ h => h) (Or.inl ⟨by rfl, ?_⟩) hHeld ?_
      rotate_left
      · intro w' hSw
        (try dsimp only at hSw)
        (try simp only [List.getElem_toArray]); (try simp only [List.getElem_cons_succ]); (try simp only [List.getElem_cons_zero])
        go_simp
        try with_reducible rfl
      (try simp only [Act.put]); (try simp only [List.setIfInBounds_toArray]); (try simp only [List.set_cons_succ]); (try simp only [List.set_cons_zero])
      refine wpAnyH_take (i := 5) (v := ?_) rfl (by kernel_rfl) (by kernel_rfl) (by kernel_rfl) (fun _ _ _ h => h) (Or.inl ⟨by rfl, ?_⟩) hHeld ?_
      rotate_left
      · intro w' hSw
        (try dsimp only at hSw)
        go_simp
        try with_reducible rfl
      (try simp only [Act.put]); (try simp only [List.setIfInBounds_toArray]); (try simp only [List.set_cons_succ]); (try simp only [List.set_cons_zero])
      refine wpAnyH_take (i := 6) (v := ?_) rfl (by kernel_rfl) (by kernel_rfl) (by kernel_rfl) (fun _ _ _ h => h) (Or.inl ⟨by rfl, ?_⟩) hHeld ?_
      rotate_left
      · intro w' hSw
        (try dsimp only at hSw)
        go_simp
        try with_reducible rfl
      (try simp only [Act.put]); (try simp only [List.setIfInBounds_toArray]); (try simp only [List.set_cons_succ]); (try simp only [List.set_cons_zero])
      refine wpAnyH_take (i := 7) (v := ?_) rfl (by kernel_rfl) (by kernel_rfl) (by kernel_rfl) (fun _ _ _ h => h) (Or.inl ⟨by rfl, ?_⟩) hHeld ?_
      rotate_left
      · intro w' hSw
        (try dsimp only at hSw)
        go_simp
        try with_reducible rfl
      (try simp only [Act.put]); (try simp only [List.setIfInBounds_toArray]); (try simp only [List.set_cons_succ]); (try simp only [List.set_cons_zero])
      refine wpAnyH_take (i := 8) (v := ?_) rfl (by kernel_rfl) (by kernel_rfl) (by kernel_rfl) (fun _ _ _ h => h) (Or.inl ⟨by rfl, ?_⟩) hHeld ?_
      rotate_left
      · intro w' hSw
        (try dsimp only at hSw)
        (try simp only [List.getElem_toArray]); (try simp only [List.getElem_cons_succ]); (try simp only [List.getElem_cons_zero])
        go_simp
        try with_reducible rfl
      (try simp only [Act.put]); (try simp only [List.setIfInBounds_toArray]); (try simp only [List.set_cons_succ]); (try simp only [List.set_cons_zero])
      refine wpAnyH_ready (rs := [9]) (by kernel_rfl) (by simp) ?_
      refine AllReadyH.cons rfl (fun K hK => ?_) AllReadyH.nil
      go_simp
      go_fit (bytesT_c _ _ _ _ _ _ v _ rfl rfl (lA.same (w' := wr.drew)) (lB.same (w' := wr.drew)))
      rintro e w2 ⟨rfl, rfl⟩
      replace kk := kk.drew
      go_wp2_with fail
      refine hK.out _ _ ⟨xA, xB⟩ (fun hHeld => ?_)
      clear hK K
      (try simp only [Act.put]); (try simp only [List.setIfInBounds_toArray]); (try simp only [List.set_cons_succ]); (try simp only [List.set_cons_zero])
      refine wpAnyH_take (i := 10) (v := ?_) rfl (by kernel_rfl) (by kernel_rfl) (by kernel_rfl) (fun _ _ _ h => h) (Or.inl ⟨by rfl, ?_⟩) hHeld ?_
      rotate_left
      · intro w' hSw
        (try dsimp only at hSw)
        go_simp
        try with_reducible rfl
      (try simp only [Act.put]); (try simp only [List.setIfInBounds_toArray]); (try simp only [List.set_cons_succ]); (try simp only [List.set_cons_zero])
      refine wpAnyH_done (by kernel_rfl) ?_ _
      clear hHeld
      go_wp2
      go_roundw
      case rel => exact ⟨k + 1, by omega, by go_num, rfl, kk⟩
      case measure => simp [intOf]; omega
    · obtain rfl : k = l.length := by omega
      go_wp2_with fail
      go_ret
      exact ⟨rfl, kk⟩
set_option maxRecDepth 100000 in
set_option maxHeartbeats 8000000 in
theorem sSpan_c {p q : Nat → Prop} (w : World) (x : GSpan) (ca cb : List Value) (ha : rGSpan w p ca x) (hb : rGSpan w q cb x) : Calls Try.prog 43 #[.agg ca.toArray, .agg cb.toArray] w fun e w' => e = .returned (.bool true) ∧ Keep Nix w w' := by
  obtain ⟨apFrom, cpFrom, apTo, cpTo, rfl, h0, h1, -⟩ := rGSpan_open ha
  obtain ⟨aqFrom, cqFrom, aqTo, cqTo, rfl, g0, g1, -⟩ := rGSpan_open hb
  have hsz : (w.alloc (.cells #[.slice apFrom x.fFrom.length cpFrom, .slice apTo x.fTo.length cpTo] 46)).heap.size = w.heap.size + 1 := by simp
  have rowA : RowIs ((w.alloc (.cells #[.slice apFrom x.fFrom.length cpFrom, .slice apTo x.fTo.length cpTo] 46)).alloc (.cells #[.slice aqFrom x.fFrom.length cqFrom, .slice aqTo x.fTo.length cqTo] 46)) w.heap.size 46 [.slice apFrom x.fFrom.length cpFrom, .slice apTo x.fTo.length cpTo] := (RowIs.alloc w _ _).keep ((Keep.refl Nix _).alloc _) id
  have rowB : RowIs ((w.alloc (.cells #[.slice apFrom x.fFrom.length cpFrom, .slice apTo x.fTo.length cpTo] 46)).alloc (.cells #[.slice aqFrom x.fFrom.length cqFrom, .slice aqTo x.fTo.length cqTo] 46)) (w.heap.size + 1) 46 [.slice aqFrom x.fFrom.length cqFrom, .slice aqTo x.fTo.length cqTo] := by
    rw [← hsz]
    exact RowIs.alloc (w.alloc (.cells #[.slice apFrom x.fFrom.length cpFrom, .slice apTo x.fTo.length cpTo] 46)) _ _
  have kk : Keep Nix w ((w.alloc (.cells #[.slice apFrom x.fFrom.length cpFrom, .slice apTo x.fTo.length cpTo] 46)).alloc (.cells #[.slice aqFrom x.fFrom.length cqFrom, .slice aqTo x.fTo.length cqTo] 46)) := ((Keep.refl Nix w).alloc _).alloc _
  clear hsz ha hb
  replace h0 := h0.1.keep kk (fun _ _ h => h)
  replace g0 := g0.1.keep kk (fun _ _ h => h)
  replace h1 := h1.1.keep kk (fun _ _ h => h)
  replace g1 := g1.1.keep kk (fun _ _ h => h)
  go_enter Try.func43, Try.ntmps43
  go_wp2_with fail
  go_fit (bytesT_c _ _ _ _ _ _ x.fFrom _ rfl rfl h0 g0)
  rintro e w1' ⟨rfl, rfl⟩
  clear h0 g0
  have xa1 : ((w.alloc (.cells #[.slice apFrom x.fFrom.length cpFrom, .slice apTo x.fTo.length cpTo] 46)).alloc (.cells #[.slice aqFrom x.fFrom.length cqFrom, .slice aqTo x.fTo.length cqTo] 46)).cell? ⟨w.heap.size, 1, none⟩ = some (.slice apTo x.fTo.length cpTo) := rowA.cell 1
  have xb1 : ((w.alloc (.cells #[.slice apFrom x.fFrom.length cpFrom, .slice apTo x.fTo.length cpTo] 46)).alloc (.cells #[.slice aqFrom x.fFrom.length cqFrom, .slice aqTo x.fTo.length cqTo] 46)).cell? ⟨w.heap.size + 1, 1, none⟩ = some (.slice aqTo x.fTo.length cqTo) := rowB.cell 1
  go_wp2_with fail
  clear xa1 xb1
  go_fit (bytesT_c _ _ _ _ _ _ x.fTo _ rfl rfl h1 g1)
  rintro e w2' ⟨rfl, rfl⟩
  clear h1 g1
  go_wp2
  go_ret
  exact ⟨by first | rfl | simp, kk⟩
set_option maxRecDepth 100000 in
set_option maxHeartbeats 8000000 in
theorem sWrite_c {p q : Nat → Prop} (w : World) (x : GWrite) (ca cb : List Value) (ha : rGWrite w p ca x) (hb : rGWrite w q cb x) : Calls Try.prog 45 #[.agg ca.toArray, .agg cb.toArray] w fun e w' => e = .returned (.bool true) ∧ Keep Nix w w' := by
  obtain ⟨apKey, cpKey, apValue, cpValue, rfl, h0, h1, -⟩ := rGWrite_open ha
  obtain ⟨aqKey, cqKey, aqValue, cqValue, rfl, g0, g1, -⟩ := rGWrite_open hb
  have hsz : (w.alloc (.cells #[.slice apKey x.fKey.length cpKey, .slice apValue x.fValue.length cpValue, .bool x.fDrop] 48)).heap.size = w.heap.size + 1 := by simp
  have rowA : RowIs ((w.alloc (.cells #[.slice apKey x.fKey.length cpKey, .slice apValue x.fValue.length cpValue, .bool x.fDrop] 48)).alloc (.cells #[.slice aqKey x.fKey.length cqKey, .slice aqValue x.fValue.length cqValue, .bool x.fDrop] 48)) w.heap.size 48 [.slice apKey x.fKey.length cpKey, .slice apValue x.fValue.length cpValue, .bool x.fDrop] := (RowIs.alloc w _ _).keep ((Keep.refl Nix _).alloc _) id
  have rowB : RowIs ((w.alloc (.cells #[.slice apKey x.fKey.length cpKey, .slice apValue x.fValue.length cpValue, .bool x.fDrop] 48)).alloc (.cells #[.slice aqKey x.fKey.length cqKey, .slice aqValue x.fValue.length cqValue, .bool x.fDrop] 48)) (w.heap.size + 1) 48 [.slice aqKey x.fKey.length cqKey, .slice aqValue x.fValue.length cqValue, .bool x.fDrop] := by
    rw [← hsz]
    exact RowIs.alloc (w.alloc (.cells #[.slice apKey x.fKey.length cpKey, .slice apValue x.fValue.length cpValue, .bool x.fDrop] 48)) _ _
  have kk : Keep Nix w ((w.alloc (.cells #[.slice apKey x.fKey.length cpKey, .slice apValue x.fValue.length cpValue, .bool x.fDrop] 48)).alloc (.cells #[.slice aqKey x.fKey.length cqKey, .slice aqValue x.fValue.length cqValue, .bool x.fDrop] 48)) := ((Keep.refl Nix w).alloc _).alloc _
  clear hsz ha hb
  replace h0 := h0.1.keep kk (fun _ _ h => h)
  replace g0 := g0.1.keep kk (fun _ _ h => h)
  replace h1 := h1.1.keep kk (fun _ _ h => h)
  replace g1 := g1.1.keep kk (fun _ _ h => h)
  go_enter Try.func45, Try.ntmps45
  go_wp2_with fail
  go_fit (bytesT_c _ _ _ _ _ _ x.fKey _ rfl rfl h0 g0)
  rintro e w1' ⟨rfl, rfl⟩
  clear h0 g0
  have xa1 : ((w.alloc (.cells #[.slice apKey x.fKey.length cpKey, .slice apValue x.fValue.length cpValue, .bool x.fDrop] 48)).alloc (.cells #[.slice aqKey x.fKey.length cqKey, .slice aqValue x.fValue.length cqValue, .bool x.fDrop] 48)).cell? ⟨w.heap.size, 1, none⟩ = some (.slice apValue x.fValue.length cpValue) := rowA.cell 1
  have xb1 : ((w.alloc (.cells #[.slice apKey x.fKey.length cpKey, .slice apValue x.fValue.length cpValue, .bool x.fDrop] 48)).alloc (.cells #[.slice aqKey x.fKey.length cqKey, .slice aqValue x.fValue.length cqValue, .bool x.fDrop] 48)).cell? ⟨w.heap.size + 1, 1, none⟩ = some (.slice aqValue x.fValue.length cqValue) := rowB.cell 1
  go_wp2_with fail
  clear xa1 xb1
  go_fit (bytesT_c _ _ _ _ _ _ x.fValue _ rfl rfl h1 g1)
  rintro e w2' ⟨rfl, rfl⟩
  clear h1 g1
  have xa2 : ((w.alloc (.cells #[.slice apKey x.fKey.length cpKey, .slice apValue x.fValue.length cpValue, .bool x.fDrop] 48)).alloc (.cells #[.slice aqKey x.fKey.length cqKey, .slice aqValue x.fValue.length cqValue, .bool x.fDrop] 48)).cell? ⟨w.heap.size, 2, none⟩ = some (.bool x.fDrop) := rowA.cell 2
  have xb2 : ((w.alloc (.cells #[.slice apKey x.fKey.length cpKey, .slice apValue x.fValue.length cpValue, .bool x.fDrop] 48)).alloc (.cells #[.slice aqKey x.fKey.length cqKey, .slice aqValue x.fValue.length cqValue, .bool x.fDrop] 48)).cell? ⟨w.heap.size + 1, 2, none⟩ = some (.bool x.fDrop) := rowB.cell 2
  go_wp2
  go_ret
  exact ⟨by first | rfl | simp, kk⟩
theorem lds_Write (a : Act) (dst : Option Tmp) (x : Operand) (ty : TypeId) (pos : String) (after : Array Edge) (guard : Option (Nat × Bool)) : execOp a.eval { dst := dst, op := .load 48 x, type := ty, pos := pos, after := after, guard := guard } = wholeSem 48 (a.eval x) := rfl
section
attribute [local go_sem ↓] lds_Write
set_option maxRecDepth 100000 in
set_option maxHeartbeats 4000000 in
theorem sm_Write {p q : Nat → Prop} (w : World) (l : List GWrite) (a b : Option Addr) (n ca m cb : Nat) (ha : rList rGWrite w p [.slice a n ca] l) (hb : rList rGWrite w q [.slice b m cb] l) :
    Calls Try.prog 44 #[.slice a n ca, .slice b m cb, .func (.func 45) #[] #[]] w fun e w' => e = .returned (.bool true) ∧ Keep Nix w w' := by
  obtain ⟨hn, -, hf⟩ := rList_len ha
  obtain ⟨hm, -, -⟩ := rList_len hb
  subst hn hm
  have hfar : l.length ≤ 9223372036854775807 := by have := far_len; unfold maxLen at this; omega
  clear hf
  have kk0 : Keep Nix w w := Keep.refl _ _
  go_enter Try.func44, Try.ntmps44
  go_wp2_with fail
  go_loopw [6, 7] (fun r i wr => ∃ k : Nat, k ≤ l.length ∧ i = .int .i64 k ∧ r = .bool false ∧ Keep Nix w wr) (fun _ i _ => l.length - (intOf i).toNat)
  case atStart => exact ⟨0, by omega, rfl, rfl, kk0⟩
  case round =>
    clear kk0
    obtain ⟨k, hk, rfl, rfl, kk⟩ := hrel
    by_cases hlt : k < l.length
    · have hi0 : (0 : Int) ≤ (k : Int) := by omega
      have hi1 : (k : Int) < (l.length : Int) := by omega
      obtain ⟨b1, o1, c1, ca', e1, -, hb1, rA, hcA⟩ := rList_at rGWrite_lawful (by decide) ((rList_lawful rGWrite_lawful).nix ha kk) k hlt
      obtain ⟨b2, o2, c2, cb', e2, -, hb2, rB, hcB⟩ := rList_at rGWrite_lawful (by decide) ((rList_lawful rGWrite_lawful).nix hb kk) k hlt
      simp only [List.cons.injEq, Value.slice.injEq, and_true] at e1 e2
      obtain ⟨e1, -, -⟩ := e1
      obtain ⟨e2, -, -⟩ := e2
      subst e1 e2
      clear ha hb
      have hlA := Lib.hid (rGWrite_lawful.len rA)
      have hlB := Lib.hid (rGWrite_lawful.len rB)
      generalize hv : l[k] = v at rA rB
      clear hv
      go_wp2_with fail
      refine wp_region_held_drew (S := (fun w' => (wholeSem 48 (.pointer (some ⟨b1, o1 + k * 3, none⟩))).run Try.prog w' = .ok (.value (.agg ca'.toArray)) w' ∧ (wholeSem 48 (.pointer (some ⟨b2, o2 + k * 3, none⟩))).run Try.prog w' = .ok (.value (.agg cb'.toArray)) w')) (by kernel_rfl) ⟨Whole.at (w := wr.drew) S_Write hlA.out hcA, Whole.at (w := wr.drew) S_Write hlB.out hcB⟩ (fun hHeld => ?_)
      refine wpAnyH_take (i := 0) (v := ?_) rfl (by kernel_rfl) (by kernel_rfl) (by kernel_rfl) (fun _ _ _ h => h) (Or.inl ⟨by rfl, ?_⟩) hHeld ?_
      rotate_left
      · intro w' hSw
        (try dsimp only at hSw)
        go_simp
        try with_reducible rfl
      (try simp only [Act.put]); (try simp only [List.setIfInBounds_toArray]); (try simp only [List.set_cons_succ]); (try simp only [List.set_cons_zero])
      refine wpAnyH_take (i := 1) (v := ?_) rfl (by kernel_rfl) (by kernel_rfl) (by kernel_rfl) (fun _ _ _ h => h) (Or.inl ⟨by rfl, ?_⟩) hHeld ?_
      rotate_left
      · intro w' hSw
        (try dsimp only at hSw)
        go_simp
        try with_reducible rfl
      (try simp only [Act.put]); (try simp only [List.setIfInBounds_toArray]); (try simp only [List.set_cons_succ]); (try simp only [List.set_cons_zero])
      refine wpAnyH_take (i := 2) (v := ?_) rfl (by kernel_rfl) (by kernel_rfl) (by kernel_rfl) (fun _ _ _ h => h) (Or.inl ⟨by rfl, ?_⟩) hHeld ?_
      rotate_left
      · intro w' hSw
        (try dsimp only at hSw)
        go_simp
        try with_reducible rfl
      (try simp only [Act.put]); (try simp only [List.setIfInBounds_toArray]); (try simp only [List.set_cons_succ]); (try simp only [List.set_cons_zero])
      refine wpAnyH_take (i := 3) (v := ?_) rfl (by kernel_rfl) (by kernel_rfl) (by kernel_rfl) (fun _ _ _ h => h) (Or.inl ⟨by rfl, ?_⟩) hHeld ?_
      rotate_left
      · intro w' hSw
        (try dsimp only at hSw)
        go_simp
        try with_reducible rfl
      (try simp only [Act.put]); (try simp only [List.setIfInBounds_toArray]); (try simp only [List.set_cons_succ]); (try simp only [List.set_cons_zero])
      refine wpAnyH_take (i := 4) (v := ?_) rfl (by kernel_rfl) (by kernel_rfl) (by kernel_rfl) (fun _ _ _ h => h) (Or.inl ⟨by rfl, ?_⟩) hHeld ?_
      rotate_left
      · intro w' hSw
        (try dsimp only at hSw)
        (try simp only [List.getElem_toArray]); (try simp only [List.getElem_cons_succ]); (try simp only [List.getElem_cons_zero])
        go_simp
        try with_reducible rfl
      (try simp only [Act.put]); (try simp only [List.setIfInBounds_toArray]); (try simp only [List.set_cons_succ]); (try simp only [List.set_cons_zero])
      refine wpAnyH_take (i := 5) (v := ?_) rfl (by kernel_rfl) (by kernel_rfl) (by kernel_rfl) (fun _ _ _ h => h) (Or.inl ⟨by rfl, ?_⟩) hHeld ?_
      rotate_left
      · intro w' hSw
        (try dsimp only at hSw)
        go_simp
        try with_reducible rfl
      (try simp only [Act.put]); (try simp only [List.setIfInBounds_toArray]); (try simp only [List.set_cons_succ]); (try simp only [List.set_cons_zero])
      refine wpAnyH_take (i := 6) (v := ?_) rfl (by kernel_rfl) (by kernel_rfl) (by kernel_rfl) (fun _ _ _ h => h) (Or.inl ⟨by rfl, ?_⟩) hHeld ?_
      rotate_left
      · intro w' hSw
        (try dsimp only at hSw)
        go_simp
        try with_reducible rfl
      (try simp only [Act.put]); (try simp only [List.setIfInBounds_toArray]); (try simp only [List.set_cons_succ]); (try simp only [List.set_cons_zero])
      refine wpAnyH_take (i := 7) (v := ?_) rfl (by kernel_rfl) (by kernel_rfl) (by kernel_rfl) (fun _ _ _ h => h) (Or.inl ⟨by rfl, ?_⟩) hHeld ?_
      rotate_left
      · intro w' hSw
        (try dsimp only at hSw)
        go_simp
        try with_reducible rfl
      (try simp only [Act.put]); (try simp only [List.setIfInBounds_toArray]); (try simp only [List.set_cons_succ]); (try simp only [List.set_cons_zero])
      refine wpAnyH_take (i := 8) (v := ?_) rfl (by kernel_rfl) (by kernel_rfl) (by kernel_rfl) (fun _ _ _ h => h) (Or.inl ⟨by rfl, ?_⟩) hHeld ?_
      rotate_left
      · intro w' hSw
        (try dsimp only at hSw)
        (try simp only [List.getElem_toArray]); (try simp only [List.getElem_cons_succ]); (try simp only [List.getElem_cons_zero])
        go_simp
        try with_reducible rfl
      (try simp only [Act.put]); (try simp only [List.setIfInBounds_toArray]); (try simp only [List.set_cons_succ]); (try simp only [List.set_cons_zero])
      refine wpAnyH_ready (rs := [9]) (by kernel_rfl) (by simp) ?_
      refine AllReadyH.cons rfl (fun K hK => ?_) AllReadyH.nil
      go_simp
      go_fit (sWrite_c _ v ca' cb' (rGWrite_lawful.nix rA ((Keep.refl Nix wr).drew)) (rGWrite_lawful.nix rB ((Keep.refl Nix wr).drew)))
      rintro e w2 ⟨rfl, k2⟩
      replace kk := kk.drew.trans k2
      replace hcA := fun j u hu => (k2.cell (p := ⟨b1, o1 + k * 3 + j, none⟩) hb1 id).trans (hcA j u hu)
      replace hcB := fun j u hu => (k2.cell (p := ⟨b2, o2 + k * 3 + j, none⟩) hb2 id).trans (hcB j u hu)
      clear k2 rA rB
      go_wp2_with fail
      refine hK.out _ _ ⟨Whole.at S_Write hlA.out hcA, Whole.at S_Write hlB.out hcB⟩ (fun hHeld => ?_)
      clear hK K
      (try simp only [Act.put]); (try simp only [List.setIfInBounds_toArray]); (try simp only [List.set_cons_succ]); (try simp only [List.set_cons_zero])
      refine wpAnyH_take (i := 10) (v := ?_) rfl (by kernel_rfl) (by kernel_rfl) (by kernel_rfl) (fun _ _ _ h => h) (Or.inl ⟨by rfl, ?_⟩) hHeld ?_
      rotate_left
      · intro w' hSw
        (try dsimp only at hSw)
        go_simp
        try with_reducible rfl
      (try simp only [Act.put]); (try simp only [List.setIfInBounds_toArray]); (try simp only [List.set_cons_succ]); (try simp only [List.set_cons_zero])
      refine wpAnyH_done (by kernel_rfl) ?_ _
      clear hHeld
      go_wp2
      go_roundw
      case rel => exact ⟨k + 1, by omega, by go_num, rfl, kk⟩
      case measure => simp [intOf]; omega
    · obtain rfl : k = l.length := by omega
      go_wp2_with fail
      go_ret
      exact ⟨rfl, kk⟩
end
end Go.Proofs.Ytfagejfcibgigaa
