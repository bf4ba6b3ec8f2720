/- COMPARISONS of things that are alike. Printed by gen11.py. -/
import Derived.Test.YtabgbleldbapbaaGreatHelp
import Derived.Test.YtabgbleldbapbaaGreatEnc
import Derived.Test.YtabgbleldbapbaaGreatWhole
import Derived.Test.YtabgbleldbapbaaGreatGetC
import Derived.Test.YtabgbleldbapbaaGreatGetD
import Derived.Test.YtabgbleldbapbaaGreatWire2
import Derived.Deep.RegionHeld3
namespace Go.Proofs.YtabgbleldbapbaaGreat
open Go.RowKit

theorem bytesT_c {p q : Nat → Prop} (a b : Option Addr) (n ca m cb : Nat) (l : List UInt8) (w : World) (hn : l.length = n) (hm : l.length = m) (ha : Lies w p a (l.map bv)) (hb : Lies w q b (l.map bv)) :
    Calls Tryz.prog 57 #[.slice a n ca, .slice b m cb] w fun e w' => e = .returned (.bool true) ∧ w = w' :=
  (bytes_c a b n ca m cb l l w hn hm ha hb).mono fun e w' ⟨he, hw⟩ => ⟨by rw [he]; simp, hw⟩
theorem pc_int (v : Int) (w : World) : Calls Tryz.prog 183 #[.int .i64 v, .int .i64 v] w fun e w' => e = .returned (.bool true) ∧ w = w' := by
  go_enter Tryz.func183, Tryz.ntmps183
  go_wp2
  go_ret
  exact ⟨by simp, rfl⟩
set_option maxRecDepth 100000 in
set_option maxHeartbeats 4000000 in
theorem sm_int {p q : Nat → Prop} (w : World) (l : List Int) (a b : Option Addr) (n ca m cb : Nat) (ha : rList (rInt .i64) w p [.slice a n ca] l) (hb : rList (rInt .i64) w q [.slice b m cb] l) :
    Calls Tryz.prog 182 #[.slice a n ca, .slice b m cb, .func (.func 183) #[] #[]] w fun e w' => e = .returned (.bool true) ∧ Keep Nix w w' := by
  obtain ⟨hn, -, hf⟩ := rList_len ha
  obtain ⟨hm, -, -⟩ := rList_len hb
  subst hn hm
  have hfar : l.length ≤ 9223372036854775807 := by have := far_len; unfold maxLen at this; omega
  clear hf
  have kk0 : Keep Nix w w := Keep.refl _ _
  go_enter Tryz.func182, Tryz.ntmps182
  go_wp2_with fail
  go_loopw [6, 7] (fun r i wr => ∃ k : Nat, k ≤ l.length ∧ i = .int .i64 k ∧ r = .bool false ∧ Keep Nix w wr) (fun _ i _ => l.length - (intOf i).toNat)
  case atStart => exact ⟨0, by omega, rfl, rfl, kk0⟩
  case round =>
    clear kk0
    obtain ⟨k, hk, rfl, rfl, kk⟩ := hrel
    by_cases hlt : k < l.length
    · have hi0 : (0 : Int) ≤ (k : Int) := by omega
      have hi1 : (k : Int) < (l.length : Int) := by omega
      obtain ⟨b1, o1, c1, ca', e1, -, hb1, rA, hcA⟩ := rList_at (rInt_lawful _) (by decide) ((rList_lawful (rInt_lawful _)).nix ha kk) k hlt
      obtain ⟨b2, o2, c2, cb', e2, -, hb2, rB, hcB⟩ := rList_at (rInt_lawful _) (by decide) ((rList_lawful (rInt_lawful _)).nix hb kk) k hlt
      simp only [List.cons.injEq, Value.slice.injEq, and_true] at e1 e2
      obtain ⟨e1, -, -⟩ := e1
      obtain ⟨e2, -, -⟩ := e2
      subst e1 e2
      clear ha hb
      obtain ⟨rfl, -⟩ := rA
      obtain ⟨rfl, -⟩ := rB
      have xA := hcA 0 _ rfl
      have xB := hcB 0 _ rfl
      rw [Nat.mul_one, Nat.add_zero] at xA xB
      clear hcA hcB
      generalize hv : l[k] = v at xA xB
      clear hv
      go_wp2_with fail
      refine wp_region_held_drew (S := (fun w' => w'.cell? ⟨b1, o1 + k, none⟩ = some (.int .i64 v) ∧ w'.cell? ⟨b2, o2 + k, none⟩ = some (.int .i64 v))) (by kernel_rfl) ⟨xA, xB⟩ (fun hHeld => ?_)
      refine wpAnyH_take (i := 0) (v := ?_) rfl (by kernel_rfl) (by kernel_rfl) (by kernel_rfl) (fun _ _ _ h => h) (Or.inl ⟨by rfl, ?_⟩) hHeld ?_
      rotate_left
      · intro w' hSw
        (try dsimp only at hSw)
        go_simp
        try with_reducible rfl
      (try simp only [Act.put]); (try simp only [List.setIfInBounds_toArray]); (try simp only [List.set_cons_succ]); (try simp only [List.set_cons_zero])
      refine wpAnyH_take (i := 1) (v := ?_) rfl (by kernel_rfl) (by kernel_rfl) (by kernel_rfl) (fun _ _ _ h => h) (Or.inl ⟨by rfl, ?_⟩) hHeld ?_
      rotate_left
      · intro w' hSw
        (try dsimp only at hSw)
        go_simp
        try with_reducible rfl
      (try simp only [Act.put]); (try simp only [List.setIfInBounds_toArray]); (try simp only [List.set_cons_succ]); (try simp only [List.set_cons_zero])
      refine wpAnyH_take (i := 2) (v := ?_) rfl (by kernel_rfl) (by kernel_rfl) (by kernel_rfl) (fun _ _ _ h => h) (Or.inl ⟨by rfl, ?_⟩) hHeld ?_
      rotate_left
      · intro w' hSw
        (try dsimp only at hSw)
        go_simp
        try with_reducible rfl
      (try simp only [Act.put]); (try simp only [List.setIfInBounds_toArray]); (try simp only [List.set_cons_succ]); (try simp only [List.set_cons_zero])
      refine wpAnyH_take (i := 3) (v := ?_) rfl (by kernel_rfl) (by kernel_rfl) (by kernel_rfl) (fun _ _ _ h => h) (Or.inl ⟨by rfl, ?_⟩) hHeld ?_
      rotate_left
      · intro w' hSw
        (try dsimp only at hSw)
        go_simp
        try with_reducible rfl
      (try simp only [Act.put]); (try simp only [List.setIfInBounds_toArray]); (try simp only [List.set_cons_succ]); (try simp only [List.set_cons_zero])
      refine wpAnyH_take (i := 4) (v := ?_) rfl (by kernel_rfl) (by kernel_rfl) (by kernel_rfl) (fun _ _ _ h => h) (Or.inl ⟨by rfl, ?_⟩) hHeld ?_
      rotate_left
      · intro w' hSw
        (try dsimp only at hSw)
        (try simp only [List.getElem_toArray]); (try simp only [List.getElem_cons_succ]); (try simp only [List.getElem_cons_zero])
        go_simp
        try with_reducible rfl
      (try simp only [Act.put]); (try simp only [List.setIfInBounds_toArray]); (try simp only [List.set_cons_succ]); (try simp only [List.set_cons_zero])
      refine wpAnyH_take (i := 5) (v := ?_) rfl (by kernel_rfl) (by kernel_rfl) (by kernel_rfl) (fun _ _ _ h => h) (Or.inl ⟨by rfl, ?_⟩) hHeld ?_
      rotate_left
      · intro w' hSw
        (try dsimp only at hSw)
        go_simp
        try with_reducible rfl
      (try simp only [Act.put]); (try simp only [List.setIfInBounds_toArray]); (try simp only [List.set_cons_succ]); (try simp only [List.set_cons_zero])
      refine wpAnyH_take (i := 6) (v := ?_) rfl (by kernel_rfl) (by kernel_rfl) (by kernel_rfl) (fun _ _ _ h => h) (Or.inl ⟨by rfl, ?_⟩) hHeld ?_
      rotate_left
      · intro w' hSw
        (try dsimp only at hSw)
        go_simp
        try with_reducible rfl
      (try simp only [Act.put]); (try simp only [List.setIfInBounds_toArray]); (try simp only [List.set_cons_succ]); (try simp only [List.set_cons_zero])
      refine wpAnyH_take (i := 7) (v := ?_) rfl (by kernel_rfl) (by kernel_rfl) (by kernel_rfl) (fun _ _ _ h => h) (Or.inl ⟨by rfl, ?_⟩) hHeld ?_
      rotate_left
      · intro w' hSw
        (try dsimp only at hSw)
        go_simp
        try with_reducible rfl
      (try simp only [Act.put]); (try simp only [List.setIfInBounds_toArray]); (try simp only [List.set_cons_succ]); (try simp only [List.set_cons_zero])
      refine wpAnyH_take (i := 8) (v := ?_) rfl (by kernel_rfl) (by kernel_rfl) (by kernel_rfl) (fun _ _ _ h => h) (Or.inl ⟨by rfl, ?_⟩) hHeld ?_
      rotate_left
      · intro w' hSw
        (try dsimp only at hSw)
        (try simp only [List.getElem_toArray]); (try simp only [List.getElem_cons_succ]); (try simp only [List.getElem_cons_zero])
        go_simp
        try with_reducible rfl
      (try simp only [Act.put]); (try simp only [List.setIfInBounds_toArray]); (try simp only [List.set_cons_succ]); (try simp only [List.set_cons_zero])
      refine wpAnyH_ready (rs := [9]) (by kernel_rfl) (by simp) ?_
      refine AllReadyH.cons rfl (fun K hK => ?_) AllReadyH.nil
      go_simp
      go_fit (pc_int v _)
      rintro e w2 ⟨rfl, rfl⟩
      replace kk := kk.drew
      go_wp2_with fail
      refine hK.out _ _ ⟨xA, xB⟩ (fun hHeld => ?_)
      clear hK K
      (try simp only [Act.put]); (try simp only [List.setIfInBounds_toArray]); (try simp only [List.set_cons_succ]); (try simp only [List.set_cons_zero])
      refine wpAnyH_take (i := 10) (v := ?_) rfl (by kernel_rfl) (by kernel_rfl) (by kernel_rfl) (fun _ _ _ h => h) (Or.inl ⟨by rfl, ?_⟩) hHeld ?_
      rotate_left
      · intro w' hSw
        (try dsimp only at hSw)
        go_simp
        try with_reducible rfl
      (try simp only [Act.put]); (try simp only [List.setIfInBounds_toArray]); (try simp only [List.set_cons_succ]); (try simp only [List.set_cons_zero])
      refine wpAnyH_done (by kernel_rfl) ?_ _
      clear hHeld
      go_wp2
      go_roundw
      case rel => exact ⟨k + 1, by omega, by go_num, rfl, kk⟩
      case measure => simp [intOf]; omega
    · obtain rfl : k = l.length := by omega
      go_wp2_with fail
      go_ret
      exact ⟨rfl, kk⟩
theorem pl_int {p q : Nat → Prop} (w : World) (l : List Int) (a b : Option Addr) (n ca m cb : Nat) (ha : rList (rInt .i64) w p [.slice a n ca] l) (hb : rList (rInt .i64) w q [.slice b m cb] l) :
    Calls Tryz.prog 131 #[.slice a n ca, .slice b m cb] w fun e w' => e = .returned (.bool true) ∧ Keep Nix w w' := by
  go_enter Tryz.func131, Tryz.ntmps131
  go_wp2_with fail
  go_fit (sm_int w l a b n ca m cb ha hb)
  rintro e w1 ⟨rfl, k1⟩
  go_wp2
  go_ret
  exact ⟨rfl, k1⟩
theorem pc_num (v : Int) (w : World) : Calls Tryz.prog 133 #[.int .u64 v, .int .u64 v] w fun e w' => e = .returned (.bool true) ∧ w = w' := by
  go_enter Tryz.func133, Tryz.ntmps133
  go_wp2
  go_ret
  exact ⟨by simp, rfl⟩
set_option maxRecDepth 100000 in
set_option maxHeartbeats 4000000 in
theorem sm_num {p q : Nat → Prop} (w : World) (l : List Int) (a b : Option Addr) (n ca m cb : Nat) (ha : rList (rInt .u64) w p [.slice a n ca] l) (hb : rList (rInt .u64) w q [.slice b m cb] l) :
    Calls Tryz.prog 132 #[.slice a n ca, .slice b m cb, .func (.func 133) #[] #[]] w fun e w' => e = .returned (.bool true) ∧ Keep Nix w w' := by
  obtain ⟨hn, -, hf⟩ := rList_len ha
  obtain ⟨hm, -, -⟩ := rList_len hb
  subst hn hm
  have hfar : l.length ≤ 9223372036854775807 := by have := far_len; unfold maxLen at this; omega
  clear hf
  have kk0 : Keep Nix w w := Keep.refl _ _
  go_enter Tryz.func132, Tryz.ntmps132
  go_wp2_with fail
  go_loopw [6, 7] (fun r i wr => ∃ k : Nat, k ≤ l.length ∧ i = .int .i64 k ∧ r = .bool false ∧ Keep Nix w wr) (fun _ i _ => l.length - (intOf i).toNat)
  case atStart => exact ⟨0, by omega, rfl, rfl, kk0⟩
  case round =>
    clear kk0
    obtain ⟨k, hk, rfl, rfl, kk⟩ := hrel
    by_cases hlt : k < l.length
    · have hi0 : (0 : Int) ≤ (k : Int) := by omega
      have hi1 : (k : Int) < (l.length : Int) := by omega
      obtain ⟨b1, o1, c1, ca', e1, -, hb1, rA, hcA⟩ := rList_at (rInt_lawful _) (by decide) ((rList_lawful (rInt_lawful _)).nix ha kk) k hlt
      obtain ⟨b2, o2, c2, cb', e2, -, hb2, rB, hcB⟩ := rList_at (rInt_lawful _) (by decide) ((rList_lawful (rInt_lawful _)).nix hb kk) k hlt
      simp only [List.cons.injEq, Value.slice.injEq, and_true] at e1 e2
      obtain ⟨e1, -, -⟩ := e1
      obtain ⟨e2, -, -⟩ := e2
      subst e1 e2
      clear ha hb
      obtain ⟨rfl, -⟩ := rA
      obtain ⟨rfl, -⟩ := rB
      have xA := hcA 0 _ rfl
      have xB := hcB 0 _ rfl
      rw [Nat.mul_one, Nat.add_zero] at xA xB
      clear hcA hcB
      generalize hv : l[k] = v at xA xB
      clear hv
      go_wp2_with fail
      refine wp_region_held_drew (S := (fun w' => w'.cell? ⟨b1, o1 + k, none⟩ = some (.int .u64 v) ∧ w'.cell? ⟨b2, o2 + k, none⟩ = some (.int .u64 v))) (by kernel_rfl) ⟨xA, xB⟩ (fun hHeld => ?_)
      refine wpAnyH_take (i := 0) (v := ?_) rfl (by kernel_rfl) (by kernel_rfl) (by kernel_rfl) (fun _ _ _ h => h) (Or.inl ⟨by rfl, ?_⟩) hHeld ?_
      rotate_left
      · intro w' hSw
        (try dsimp only at hSw)
        go_simp
        try with_reducible rfl
      (try simp only [Act.put]); (try simp only [List.setIfInBounds_toArray]); (try simp only [List.set_cons_succ]); (try simp only [List.set_cons_zero])
      refine wpAnyH_take (i := 1) (v := ?_) rfl (by kernel_rfl) (by kernel_rfl) (by kernel_rfl) (fun _ _ _ h => h) (Or.inl ⟨by rfl, ?_⟩) hHeld ?_
      rotate_left
      · intro w' hSw
        (try dsimp only at hSw)
        go_simp
        try with_reducible rfl
      (try simp only [Act.put]); (try simp only [List.setIfInBounds_toArray]); (try simp only [List.set_cons_succ]); (try simp only [List.set_cons_zero])
      refine wpAnyH_take (i := 2) (v := ?_) rfl (by kernel_rfl) (by kernel_rfl) (by kernel_rfl) (fun _ _ _ h => h) (Or.inl ⟨by rfl, ?_⟩) hHeld ?_
      rotate_left
      · intro w' hSw
        (try dsimp only at hSw)
        go_simp
        try with_reducible rfl
      (try simp only [Act.put]); (try simp only [List.setIfInBounds_toArray]); (try simp only [List.set_cons_succ]); (try simp only [List.set_cons_zero])
      refine wpAnyH_take (i := 3) (v := ?_) rfl (by kernel_rfl) (by kernel_rfl) (by kernel_rfl) (fun _ _ _ h => h) (Or.inl ⟨by rfl, ?_⟩) hHeld ?_
      rotate_left
      · intro w' hSw
        (try dsimp only at hSw)
        go_simp
        try with_reducible rfl
      (try simp only [Act.put]); (try simp only [List.setIfInBounds_toArray]); (try simp only [List.set_cons_succ]); (try simp only [List.set_cons_zero])
      refine wpAnyH_take (i := 4) (v := ?_) rfl (by kernel_rfl) (by kernel_rfl) (by kernel_rfl) (fun _ _ _ h => h) (Or.inl ⟨by rfl, ?_⟩) hHeld ?_
      rotate_left
      · intro w' hSw
        (try dsimp only at hSw)
        (try simp only [List.getElem_toArray]); (try simp only [List.getElem_cons_succ]); (try simp only [List.getElem_cons_zero])
        go_simp
        try with_reducible rfl
      (try simp only [Act.put]); (try simp only [List.setIfInBounds_toArray]); (try simp only [List.set_cons_succ]); (try simp only [List.set_cons_zero])
      refine wpAnyH_take (i := 5) (v := ?_) rfl (by kernel_rfl) (by kernel_rfl) (by kernel_rfl) (fun _ _ _ h => h) (Or.inl ⟨by rfl, ?_⟩) hHeld ?_
      rotate_left
      · intro w' hSw
        (try dsimp only at hSw)
        go_simp
        try with_reducible rfl
      (try simp only [Act.put]); (try simp only [List.setIfInBounds_toArray]); (try simp only [List.set_cons_succ]); (try simp only [List.set_cons_zero])
      refine wpAnyH_take (i := 6) (v := ?_) rfl (by kernel_rfl) (by kernel_rfl) (by kernel_rfl) (fun _ _ _ h => h) (Or.inl ⟨by rfl, ?_⟩) hHeld ?_
      rotate_left
      · intro w' hSw
        (try dsimp only at hSw)
        go_simp
        try with_reducible rfl
      (try simp only [Act.put]); (try simp only [List.setIfInBounds_toArray]); (try simp only [List.set_cons_succ]); (try simp only [List.set_cons_zero])
      refine wpAnyH_take (i := 7) (v := ?_) rfl (by kernel_rfl) (by kernel_rfl) (by kernel_rfl) (fun _ _ _ h => h) (Or.inl ⟨by rfl, ?_⟩) hHeld ?_
      rotate_left
      · intro w' hSw
        (try dsimp only at hSw)
        go_simp
        try with_reducible rfl
      (try simp only [Act.put]); (try simp only [List.setIfInBounds_toArray]); (try simp only [List.set_cons_succ]); (try simp only [List.set_cons_zero])
      refine wpAnyH_take (i := 8) (v := ?_) rfl (by kernel_rfl) (by kernel_rfl) (by kernel_rfl) (fun _ _ _ h => h) (Or.inl ⟨by rfl, ?_⟩) hHeld ?_
      rotate_left
      · intro w' hSw
        (try dsimp only at hSw)
        (try simp only [List.getElem_toArray]); (try simp only [List.getElem_cons_succ]); (try simp only [List.getElem_cons_zero])
        go_simp
        try with_reducible rfl
      (try simp only [Act.put]); (try simp only [List.setIfInBounds_toArray]); (try simp only [List.set_cons_succ]); (try simp only [List.set_cons_zero])
      refine wpAnyH_ready (rs := [9]) (by kernel_rfl) (by simp) ?_
      refine AllReadyH.cons rfl (fun K hK => ?_) AllReadyH.nil
      go_simp
      go_fit (pc_num v _)
      rintro e w2 ⟨rfl, rfl⟩
      replace kk := kk.drew
      go_wp2_with fail
      refine hK.out _ _ ⟨xA, xB⟩ (fun hHeld => ?_)
      clear hK K
      (try simp only [Act.put]); (try simp only [List.setIfInBounds_toArray]); (try simp only [List.set_cons_succ]); (try simp only [List.set_cons_zero])
      refine wpAnyH_take (i := 10) (v := ?_) rfl (by kernel_rfl) (by kernel_rfl) (by kernel_rfl) (fun _ _ _ h => h) (Or.inl ⟨by rfl, ?_⟩) hHeld ?_
      rotate_left
      · intro w' hSw
        (try dsimp only at hSw)
        go_simp
        try with_reducible rfl
      (try simp only [Act.put]); (try simp only [List.setIfInBounds_toArray]); (try simp only [List.set_cons_succ]); (try simp only [List.set_cons_zero])
      refine wpAnyH_done (by kernel_rfl) ?_ _
      clear hHeld
      go_wp2
      go_roundw
      case rel => exact ⟨k + 1, by omega, by go_num, rfl, kk⟩
      case measure => simp [intOf]; omega
    · obtain rfl : k = l.length := by omega
      go_wp2_with fail
      go_ret
      exact ⟨rfl, kk⟩
theorem pl_num {p q : Nat → Prop} (w : World) (l : List Int) (a b : Option Addr) (n ca m cb : Nat) (ha : rList (rInt .u64) w p [.slice a n ca] l) (hb : rList (rInt .u64) w q [.slice b m cb] l) :
    Calls Tryz.prog 67 #[.slice a n ca, .slice b m cb] w fun e w' => e = .returned (.bool true) ∧ Keep Nix w w' := by
  go_enter Tryz.func67, Tryz.ntmps67
  go_wp2_with fail
  go_fit (sm_num w l a b n ca m cb ha hb)
  rintro e w1 ⟨rfl, k1⟩
  go_wp2
  go_ret
  exact ⟨rfl, k1⟩
set_option maxRecDepth 100000 in
set_option maxHeartbeats 4000000 in
theorem sm_bytes {p q : Nat → Prop} (w : World) (l : List (List UInt8)) (a b : Option Addr) (n ca m cb : Nat) (ha : rList rBytes w p [.slice a n ca] l) (hb : rList rBytes w q [.slice b m cb] l) :
    Calls Tryz.prog 138 #[.slice a n ca, .slice b m cb, .func (.func 57) #[] #[]] w fun e w' => e = .returned (.bool true) ∧ Keep Nix w w' := by
  obtain ⟨hn, -, hf⟩ := rList_len ha
  obtain ⟨hm, -, -⟩ := rList_len hb
  subst hn hm
  have hfar : l.length ≤ 9223372036854775807 := by have := far_len; unfold maxLen at this; omega
  clear hf
  have kk0 : Keep Nix w w := Keep.refl _ _
  go_enter Tryz.func138, Tryz.ntmps138
  go_wp2_with fail
  go_loopw [6, 7] (fun r i wr => ∃ k : Nat, k ≤ l.length ∧ i = .int .i64 k ∧ r = .bool false ∧ Keep Nix w wr) (fun _ i _ => l.length - (intOf i).toNat)
  case atStart => exact ⟨0, by omega, rfl, rfl, kk0⟩
  case round =>
    clear kk0
    obtain ⟨k, hk, rfl, rfl, kk⟩ := hrel
    by_cases hlt : k < l.length
    · have hi0 : (0 : Int) ≤ (k : Int) := by omega
      have hi1 : (k : Int) < (l.length : Int) := by omega
      obtain ⟨b1, o1, c1, ca', e1, -, hb1, rA, hcA⟩ := rList_at rBytes_lawful (by decide) ((rList_lawful rBytes_lawful).nix ha kk) k hlt
      obtain ⟨b2, o2, c2, cb', e2, -, hb2, rB, hcB⟩ := rList_at rBytes_lawful (by decide) ((rList_lawful rBytes_lawful).nix hb kk) k hlt
      simp only [List.cons.injEq, Value.slice.injEq, and_true] at e1 e2
      obtain ⟨e1, -, -⟩ := e1
      obtain ⟨e2, -, -⟩ := e2
      subst e1 e2
      clear ha hb
      obtain ⟨aA, cA, rfl, lA, -⟩ := rA
      obtain ⟨aB, cB, rfl, lB, -⟩ := rB
      have xA := hcA 0 _ rfl
      have xB := hcB 0 _ rfl
      rw [Nat.mul_one, Nat.add_zero] at xA xB
      clear hcA hcB
      generalize hv : l[k] = v at xA xB lA lB
      clear hv
      go_wp2_with fail
      refine wp_region_held_drew (S := (fun w' => w'.cell? ⟨b1, o1 + k, none⟩ = some (.slice aA v.length cA) ∧ w'.cell? ⟨b2, o2 + k, none⟩ = some (.slice aB v.length cB))) (by kernel_rfl) ⟨xA, xB⟩ (fun hHeld => ?_)
      refine wpAnyH_take (i := 0) (v := ?_) rfl (by kernel_rfl) (by kernel_rfl) (by kernel_rfl) (fun _ _ _ h => h) (Or.inl ⟨by rfl, ?_⟩) hHeld ?_
      rotate_left
      · intro w' hSw
        (try dsimp only at hSw)
        go_simp
        try with_reducible rfl
      (try simp only [Act.put]); (try simp only [List.setIfInBounds_toArray]); (try simp only [List.set_cons_succ]); (try simp only [List.set_cons_zero])
      refine wpAnyH_take (i := 1) (v := ?_) rfl (by kernel_rfl) (by kernel_rfl) (by kernel_rfl) (fun _ _ _ h => h) (Or.inl ⟨by rfl, ?_⟩) hHeld ?_
      rotate_left
      · intro w' hSw
        (try dsimp only at hSw)
        go_simp
        try with_reducible rfl
      (try simp only [Act.put]); (try simp only [List.setIfInBounds_toArray]); (try simp only [List.set_cons_succ]); (try simp only [List.set_cons_zero])
      refine wpAnyH_take (i := 2) (v := ?_) rfl (by kernel_rfl) (by kernel_rfl) (by kernel_rfl) (fun _ _ _ h => h) (Or.inl ⟨by rfl, ?_⟩) hHeld ?_
      rotate_left
      · intro w' hSw
        (try dsimp only at hSw)
        go_simp
        try with_reducible rfl
      (try simp only [Act.put]); (try simp only [List.setIfInBounds_toArray]); (try simp only [List.set_cons_succ]); (try simp only [List.set_cons_zero])
      refine wpAnyH_take (i := 3) (v := ?_) rfl (by kernel_rfl) (by kernel_rfl) (by kernel_rfl) (fun _ _ _ h => h) (Or.inl ⟨by rfl, ?_⟩) hHeld ?_
      rotate_left
      · intro w' hSw
        (try dsimp only at hSw)
        go_simp
        try with_reducible rfl
      (try simp only [Act.put]); (try simp only [List.setIfInBounds_toArray]); (try simp only [List.set_cons_succ]); (try simp only [List.set_cons_zero])
      refine wpAnyH_take (i := 4) (v := ?_) rfl (by kernel_rfl) (by kernel_rfl) (by kernel_rfl) (fun _ _ _ h => h) (Or.inl ⟨by rfl, ?_⟩) hHeld ?_
      rotate_left
      · intro w' hSw
        (try dsimp only at hSw)
        (try simp only [List.getElem_toArray]); (try simp only [List.getElem_cons_succ]); (try simp only [List.getElem_cons_zero])
        go_simp
        try with_reducible rfl
      (try simp only [Act.put]); (try simp only [List.setIfInBounds_toArray]); (try simp only [List.set_cons_succ]); (try simp only [List.set_cons_zero])
      refine wpAnyH_take (i := 5) (v := ?_) rfl (by kernel_rfl) (by kernel_rfl) (by kernel_rfl) (fun _ _ _ h => h) (Or.inl ⟨by rfl, ?_⟩) hHeld ?_
      rotate_left
      · intro w' hSw
        (try dsimp only at hSw)
        go_simp
        try with_reducible rfl
      (try simp only [Act.put]); (try simp only [List.setIfInBounds_toArray]); (try simp only [List.set_cons_succ]); (try simp only [List.set_cons_zero])
      refine wpAnyH_take (i := 6) (v := ?_) rfl (by kernel_rfl) (by kernel_rfl) (by kernel_rfl) (fun _ _ _ h => h) (Or.inl ⟨by rfl, ?_⟩) hHeld ?_
      rotate_left
      · intro w' hSw
        (try dsimp only at hSw)
        go_simp
        try with_reducible rfl
      (try simp only [Act.put]); (try simp only [List.setIfInBounds_toArray]); (try simp only [List.set_cons_succ]); (try simp only [List.set_cons_zero])
      refine wpAnyH_take (i := 7) (v := ?_) rfl (by kernel_rfl) (by kernel_rfl) (by kernel_rfl) (fun _ _ _ h => h) (Or.inl ⟨by rfl, ?_⟩) hHeld ?_
      rotate_left
      · intro w' hSw
        (try dsimp only at hSw)
        go_simp
        try with_reducible rfl
      (try simp only [Act.put]); (try simp only [List.setIfInBounds_toArray]); (try simp only [List.set_cons_succ]); (try simp only [List.set_cons_zero])
      refine wpAnyH_take (i := 8) (v := ?_) rfl (by kernel_rfl) (by kernel_rfl) (by kernel_rfl) (fun _ _ _ h => h) (Or.inl ⟨by rfl, ?_⟩) hHeld ?_
      rotate_left
      · intro w' hSw
        (try dsimp only at hSw)
        (try simp only [List.getElem_toArray]); (try simp only [List.getElem_cons_succ]); (try simp only [List.getElem_cons_zero])
        go_simp
        try with_reducible rfl
      (try simp only [Act.put]); (try simp only [List.setIfInBounds_toArray]); (try simp only [List.set_cons_succ]); (try simp only [List.set_cons_zero])
      refine wpAnyH_ready (rs := [9]) (by kernel_rfl) (by simp) ?_
      refine AllReadyH.cons rfl (fun K hK => ?_) AllReadyH.nil
      go_simp
      go_fit (bytesT_c _ _ _ _ _ _ v _ rfl rfl (lA.same (w' := wr.drew)) (lB.same (w' := wr.drew)))
      rintro e w2 ⟨rfl, rfl⟩
      replace kk := kk.drew
      go_wp2_with fail
      refine hK.out _ _ ⟨xA, xB⟩ (fun hHeld => ?_)
      clear hK K
      (try simp only [Act.put]); (try simp only [List.setIfInBounds_toArray]); (try simp only [List.set_cons_succ]); (try simp only [List.set_cons_zero])
      refine wpAnyH_take (i := 10) (v := ?_) rfl (by kernel_rfl) (by kernel_rfl) (by kernel_rfl) (fun _ _ _ h => h) (Or.inl ⟨by rfl, ?_⟩) hHeld ?_
      rotate_left
      · intro w' hSw
        (try dsimp only at hSw)
        go_simp
        try with_reducible rfl
      (try simp only [Act.put]); (try simp only [List.setIfInBounds_toArray]); (try simp only [List.set_cons_succ]); (try simp only [List.set_cons_zero])
      refine wpAnyH_done (by kernel_rfl) ?_ _
      clear hHeld
      go_wp2
      go_roundw
      case rel => exact ⟨k + 1, by omega, by go_num, rfl, kk⟩
      case measure => simp [intOf]; omega
    · obtain rfl : k = l.length := by omega
      go_wp2_with fail
      go_ret
      exact ⟨rfl, kk⟩
theorem pc_Column {p q : Nat → Prop} (w : World) (x : GColumn) (ca cb : List Value) (ha : rGColumn w p ca x) (hb : rGColumn w q cb x) : Calls Tryz.prog 181 #[.agg ca.toArray, .agg cb.toArray] w fun e w' => e = .returned (.bool true) ∧ Keep Nix w w' := by
  obtain ⟨rfl, -⟩ := rGColumn_open ha
  obtain ⟨rfl, -⟩ := rGColumn_open hb
  clear ha hb
  go_enter Tryz.func181, Tryz.ntmps181
  go_wp2
  go_ret
  exact ⟨by simp, ((Keep.refl _ _).alloc _).alloc _⟩
theorem lds_Column (a : Act) (dst : Option Tmp) (x : Operand) (ty : TypeId) (pos : String) (after : Array Edge) (guard : Option (Nat × Bool)) : execOp a.eval { dst := dst, op := .load 190 x, type := ty, pos := pos, after := after, guard := guard } = wholeSem 190 (a.eval x) := rfl
section
attribute [local go_sem ↓] lds_Column
set_option maxRecDepth 100000 in
set_option maxHeartbeats 4000000 in
theorem sm_Column {p q : Nat → Prop} (w : World) (l : List GColumn) (a b : Option Addr) (n ca m cb : Nat) (ha : rList rGColumn w p [.slice a n ca] l) (hb : rList rGColumn w q [.slice b m cb] l) :
    Calls Tryz.prog 180 #[.slice a n ca, .slice b m cb, .func (.func 181) #[] #[]] w fun e w' => e = .returned (.bool true) ∧ Keep Nix w w' := by
  obtain ⟨hn, -, hf⟩ := rList_len ha
  obtain ⟨hm, -, -⟩ := rList_len hb
  subst hn hm
  have hfar : l.length ≤ 9223372036854775807 := by have := far_len; unfold maxLen at this; omega
  clear hf
  have kk0 : Keep Nix w w := Keep.refl _ _
  go_enter Tryz.func180, Tryz.ntmps180
  go_wp2_with fail
  go_loopw [6, 7] (fun r i wr => ∃ k : Nat, k ≤ l.length ∧ i = .int .i64 k ∧ r = .bool false ∧ Keep Nix w wr) (fun _ i _ => l.length - (intOf i).toNat)
  case atStart => exact ⟨0, by omega, rfl, rfl, kk0⟩
  case round =>
    clear kk0
    obtain ⟨k, hk, rfl, rfl, kk⟩ := hrel
    by_cases hlt : k < l.length
    · have hi0 : (0 : Int) ≤ (k : Int) := by omega
      have hi1 : (k : Int) < (l.length : Int) := by omega
      obtain ⟨b1, o1, c1, ca', e1, -, hb1, rA, hcA⟩ := rList_at rGColumn_lawful (by decide) ((rList_lawful rGColumn_lawful).nix ha kk) k hlt
      obtain ⟨b2, o2, c2, cb', e2, -, hb2, rB, hcB⟩ := rList_at rGColumn_lawful (by decide) ((rList_lawful rGColumn_lawful).nix hb kk) k hlt
      simp only [List.cons.injEq, Value.slice.injEq, and_true] at e1 e2
      obtain ⟨e1, -, -⟩ := e1
      obtain ⟨e2, -, -⟩ := e2
      subst e1 e2
      clear ha hb
      have hlA := Lib.hid (rGColumn_lawful.len rA)
      have hlB := Lib.hid (rGColumn_lawful.len rB)
      generalize hv : l[k] = v at rA rB
      clear hv
      go_wp2_with fail
      refine wp_region_held_drew (S := (fun w' => (wholeSem 190 (.pointer (some ⟨b1, o1 + k * 3, none⟩))).run Tryz.prog w' = .ok (.value (.agg ca'.toArray)) w' ∧ (wholeSem 190 (.pointer (some ⟨b2, o2 + k * 3, none⟩))).run Tryz.prog w' = .ok (.value (.agg cb'.toArray)) w')) (by kernel_rfl) ⟨Whole.at (w := wr.drew) S_Column hlA.out hcA, Whole.at (w := wr.drew) S_Column hlB.out hcB⟩ (fun hHeld => ?_)
      refine wpAnyH_take (i := 0) (v := ?_) rfl (by kernel_rfl) (by kernel_rfl) (by kernel_rfl) (fun _ _ _ h => h) (Or.inl ⟨by rfl, ?_⟩) hHeld ?_
      rotate_left
      · intro w' hSw
        (try dsimp only at hSw)
        go_simp
        try with_reducible rfl
      (try simp only [Act.put]); (try simp only [List.setIfInBounds_toArray]); (try simp only [List.set_cons_succ]); (try simp only [List.set_cons_zero])
      refine wpAnyH_take (i := 1) (v := ?_) rfl (by kernel_rfl) (by kernel_rfl) (by kernel_rfl) (fun _ _ _ h => h) (Or.inl ⟨by rfl, ?_⟩) hHeld ?_
      rotate_left
      · intro w' hSw
        (try dsimp only at hSw)
        go_simp
        try with_reducible rfl
      (try simp only [Act.put]); (try simp only [List.setIfInBounds_toArray]); (try simp only [List.set_cons_succ]); (try simp only [List.set_cons_zero])
      refine wpAnyH_take (i := 2) (v := ?_) rfl (by kernel_rfl) (by kernel_rfl) (by kernel_rfl) (fun _ _ _ h => h) (Or.inl ⟨by rfl, ?_⟩) hHeld ?_
      rotate_left
      · intro w' hSw
        (try dsimp only at hSw)
        go_simp
        try with_reducible rfl
      (try simp only [Act.put]); (try simp only [List.setIfInBounds_toArray]); (try simp only [List.set_cons_succ]); (try simp only [List.set_cons_zero])
      refine wpAnyH_take (i := 3) (v := ?_) rfl (by kernel_rfl) (by kernel_rfl) (by kernel_rfl) (fun _ _ _ h => h) (Or.inl ⟨by rfl, ?_⟩) hHeld ?_
      rotate_left
      · intro w' hSw
        (try dsimp only at hSw)
        go_simp
        try with_reducible rfl
      (try simp only [Act.put]); (try simp only [List.setIfInBounds_toArray]); (try simp only [List.set_cons_succ]); (try simp only [List.set_cons_zero])
      refine wpAnyH_take (i := 4) (v := ?_) rfl (by kernel_rfl) (by kernel_rfl) (by kernel_rfl) (fun _ _ _ h => h) (Or.inl ⟨by rfl, ?_⟩) hHeld ?_
      rotate_left
      · intro w' hSw
        (try dsimp only at hSw)
        (try simp only [List.getElem_toArray]); (try simp only [List.getElem_cons_succ]); (try simp only [List.getElem_cons_zero])
        go_simp
        try with_reducible rfl
      (try simp only [Act.put]); (try simp only [List.setIfInBounds_toArray]); (try simp only [List.set_cons_succ]); (try simp only [List.set_cons_zero])
      refine wpAnyH_take (i := 5) (v := ?_) rfl (by kernel_rfl) (by kernel_rfl) (by kernel_rfl) (fun _ _ _ h => h) (Or.inl ⟨by rfl, ?_⟩) hHeld ?_
      rotate_left
      · intro w' hSw
        (try dsimp only at hSw)
        go_simp
        try with_reducible rfl
      (try simp only [Act.put]); (try simp only [List.setIfInBounds_toArray]); (try simp only [List.set_cons_succ]); (try simp only [List.set_cons_zero])
      refine wpAnyH_take (i := 6) (v := ?_) rfl (by kernel_rfl) (by kernel_rfl) (by kernel_rfl) (fun _ _ _ h => h) (Or.inl ⟨by rfl, ?_⟩) hHeld ?_
      rotate_left
      · intro w' hSw
        (try dsimp only at hSw)
        go_simp
        try with_reducible rfl
      (try simp only [Act.put]); (try simp only [List.setIfInBounds_toArray]); (try simp only [List.set_cons_succ]); (try simp only [List.set_cons_zero])
      refine wpAnyH_take (i := 7) (v := ?_) rfl (by kernel_rfl) (by kernel_rfl) (by kernel_rfl) (fun _ _ _ h => h) (Or.inl ⟨by rfl, ?_⟩) hHeld ?_
      rotate_left
      · intro w' hSw
        (try dsimp only at hSw)
        go_simp
        try with_reducible rfl
      (try simp only [Act.put]); (try simp only [List.setIfInBounds_toArray]); (try simp only [List.set_cons_succ]); (try simp only [List.set_cons_zero])
      refine wpAnyH_take (i := 8) (v := ?_) rfl (by kernel_rfl) (by kernel_rfl) (by kernel_rfl) (fun _ _ _ h => h) (Or.inl ⟨by rfl, ?_⟩) hHeld ?_
      rotate_left
      · intro w' hSw
        (try dsimp only at hSw)
        (try simp only [List.getElem_toArray]); (try simp only [List.getElem_cons_succ]); (try simp only [List.getElem_cons_zero])
        go_simp
        try with_reducible rfl
      (try simp only [Act.put]); (try simp only [List.setIfInBounds_toArray]); (try simp only [List.set_cons_succ]); (try simp only [List.set_cons_zero])
      refine wpAnyH_ready (rs := [9]) (by kernel_rfl) (by simp) ?_
      refine AllReadyH.cons rfl (fun K hK => ?_) AllReadyH.nil
      go_simp
      go_fit (pc_Column _ v ca' cb' (rGColumn_lawful.nix rA ((Keep.refl Nix wr).drew)) (rGColumn_lawful.nix rB ((Keep.refl Nix wr).drew)))
      rintro e w2 ⟨rfl, k2⟩
      replace kk := kk.drew.trans k2
      replace hcA := fun j u hu => (k2.cell (p := ⟨b1, o1 + k * 3 + j, none⟩) hb1 id).trans (hcA j u hu)
      replace hcB := fun j u hu => (k2.cell (p := ⟨b2, o2 + k * 3 + j, none⟩) hb2 id).trans (hcB j u hu)
      clear k2 rA rB
      go_wp2_with fail
      refine hK.out _ _ ⟨Whole.at S_Column hlA.out hcA, Whole.at S_Column hlB.out hcB⟩ (fun hHeld => ?_)
      clear hK K
      (try simp only [Act.put]); (try simp only [List.setIfInBounds_toArray]); (try simp only [List.set_cons_succ]); (try simp only [List.set_cons_zero])
      refine wpAnyH_take (i := 10) (v := ?_) rfl (by kernel_rfl) (by kernel_rfl) (by kernel_rfl) (fun _ _ _ h => h) (Or.inl ⟨by rfl, ?_⟩) hHeld ?_
      rotate_left
      · intro w' hSw
        (try dsimp only at hSw)
        go_simp
        try with_reducible rfl
      (try simp only [Act.put]); (try simp only [List.setIfInBounds_toArray]); (try simp only [List.set_cons_succ]); (try simp only [List.set_cons_zero])
      refine wpAnyH_done (by kernel_rfl) ?_ _
      clear hHeld
      go_wp2
      go_roundw
      case rel => exact ⟨k + 1, by omega, by go_num, rfl, kk⟩
      case measure => simp [intOf]; omega
    · obtain rfl : k = l.length := by omega
      go_wp2_with fail
      go_ret
      exact ⟨rfl, kk⟩
end
theorem pl_Column {p q : Nat → Prop} (w : World) (l : List GColumn) (a b : Option Addr) (n ca m cb : Nat) (ha : rList rGColumn w p [.slice a n ca] l) (hb : rList rGColumn w q [.slice b m cb] l) :
    Calls Tryz.prog 130 #[.slice a n ca, .slice b m cb] w fun e w' => e = .returned (.bool true) ∧ Keep Nix w w' := by
  go_enter Tryz.func130, Tryz.ntmps130
  go_wp2_with fail
  go_fit (sm_Column w l a b n ca m cb ha hb)
  rintro e w1 ⟨rfl, k1⟩
  go_wp2
  go_ret
  exact ⟨rfl, k1⟩
theorem pc_Value {p q : Nat → Prop} (w : World) (x : GValue) (ca cb : List Value) (ha : rGValue w p ca x) (hb : rGValue w q cb x) : Calls Tryz.prog 185 #[.agg ca.toArray, .agg cb.toArray] w fun e w' => e = .returned (.bool true) ∧ Keep Nix w w' := by
  obtain ⟨rfl, -⟩ := rGValue_open ha
  obtain ⟨rfl, -⟩ := rGValue_open hb
  clear ha hb
  go_enter Tryz.func185, Tryz.ntmps185
  go_wp2
  go_ret
  exact ⟨by simp, ((Keep.refl _ _).alloc _).alloc _⟩
theorem lds_Value (a : Act) (dst : Option Tmp) (x : Operand) (ty : TypeId) (pos : String) (after : Array Edge) (guard : Option (Nat × Bool)) : execOp a.eval { dst := dst, op := .load 200 x, type := ty, pos := pos, after := after, guard := guard } = wholeSem 200 (a.eval x) := rfl
section
attribute [local go_sem ↓] lds_Value
set_option maxRecDepth 100000 in
set_option maxHeartbeats 4000000 in
theorem sm_Value {p q : Nat → Prop} (w : World) (l : List GValue) (a b : Option Addr) (n ca m cb : Nat) (ha : rList rGValue w p [.slice a n ca] l) (hb : rList rGValue w q [.slice b m cb] l) :
    Calls Tryz.prog 184 #[.slice a n ca, .slice b m cb, .func (.func 185) #[] #[]] w fun e w' => e = .returned (.bool true) ∧ Keep Nix w w' := by
  obtain ⟨hn, -, hf⟩ := rList_len ha
  obtain ⟨hm, -, -⟩ := rList_len hb
  subst hn hm
  have hfar : l.length ≤ 9223372036854775807 := by have := far_len; unfold maxLen at this; omega
  clear hf
  have kk0 : Keep Nix w w := Keep.refl _ _
  go_enter Tryz.func184, Tryz.ntmps184
  go_wp2_with fail
  go_loopw [6, 7] (fun r i wr => ∃ k : Nat, k ≤ l.length ∧ i = .int .i64 k ∧ r = .bool false ∧ Keep Nix w wr) (fun _ i _ => l.length - (intOf i).toNat)
  case atStart => exact ⟨0, by omega, rfl, rfl, kk0⟩
  case round =>
    clear kk0
    obtain ⟨k, hk, rfl, rfl, kk⟩ := hrel
    by_cases hlt : k < l.length
    · have hi0 : (0 : Int) ≤ (k : Int) := by omega
      have hi1 : (k : Int) < (l.length : Int) := by omega
      obtain ⟨b1, o1, c1, ca', e1, -, hb1, rA, hcA⟩ := rList_at rGValue_lawful (by decide) ((rList_lawful rGValue_lawful).nix ha kk) k hlt
      obtain ⟨b2, o2, c2, cb', e2, -, hb2, rB, hcB⟩ := rList_at rGValue_lawful (by decide) ((rList_lawful rGValue_lawful).nix hb kk) k hlt
      simp only [List.cons.injEq, Value.slice.injEq, and_true] at e1 e2
      obtain ⟨e1, -, -⟩ := e1
      obtain ⟨e2, -, -⟩ := e2
      subst e1 e2
      clear ha hb
      have hlA := Lib.hid (rGValue_lawful.len rA)
      have hlB := Lib.hid (rGValue_lawful.len rB)
      generalize hv : l[k] = v at rA rB
      clear hv
      go_wp2_with fail
      refine wp_region_held_drew (S := (fun w' => (wholeSem 200 (.pointer (some ⟨b1, o1 + k * 3, none⟩))).run Tryz.prog w' = .ok (.value (.agg ca'.toArray)) w' ∧ (wholeSem 200 (.pointer (some ⟨b2, o2 + k * 3, none⟩))).run Tryz.prog w' = .ok (.value (.agg cb'.toArray)) w')) (by kernel_rfl) ⟨Whole.at (w := wr.drew) S_Value hlA.out hcA, Whole.at (w := wr.drew) S_Value hlB.out hcB⟩ (fun hHeld => ?_)
      refine wpAnyH_take (i := 0) (v := ?_) rfl (by kernel_rfl) (by kernel_rfl) (by kernel_rfl) (fun _ _ _ h => h) (Or.inl ⟨by rfl, ?_⟩) hHeld ?_
      rotate_left
      · intro w' hSw
        (try dsimp only at hSw)
        go_simp
        try with_reducible rfl
      (try simp only [Act.put]); (try simp only [List.setIfInBounds_toArray]); (try simp only [List.set_cons_succ]); (try simp only [List.set_cons_zero])
      refine wpAnyH_take (i := 1) (v := ?_) rfl (by kernel_rfl) (by kernel_rfl) (by kernel_rfl) (fun _ _ _ h => h) (Or.inl ⟨by rfl, ?_⟩) hHeld ?_
      rotate_left
      · intro w' hSw
        (try dsimp only at hSw)
        go_simp
        try with_reducible rfl
      (try simp only [Act.put]); (try simp only [List.setIfInBounds_toArray]); (try simp only [List.set_cons_succ]); (try simp only [List.set_cons_zero])
      refine wpAnyH_take (i := 2) (v := ?_) rfl (by kernel_rfl) (by kernel_rfl) (by kernel_rfl) (fun _ _ _ h => h) (Or.inl ⟨by rfl, ?_⟩) hHeld ?_
      rotate_left
      · intro w' hSw
        (try dsimp only at hSw)
        go_simp
        try with_reducible rfl
      (try simp only [Act.put]); (try simp only [List.setIfInBounds_toArray]); (try simp only [List.set_cons_succ]); (try simp only [List.set_cons_zero])
      refine wpAnyH_take (i := 3) (v := ?_) rfl (by kernel_rfl) (by kernel_rfl) (by kernel_rfl) (fun _ _ _ h => h) (Or.inl ⟨by rfl, ?_⟩) hHeld ?_
      rotate_left
      · intro w' hSw
        (try dsimp only at hSw)
        go_simp
        try with_reducible rfl
      (try simp only [Act.put]); (try simp only [List.setIfInBounds_toArray]); (try simp only [List.set_cons_succ]); (try simp only [List.set_cons_zero])
      refine wpAnyH_take (i := 4) (v := ?_) rfl (by kernel_rfl) (by kernel_rfl) (by kernel_rfl) (fun _ _ _ h => h) (Or.inl ⟨by rfl, ?_⟩) hHeld ?_
      rotate_left
      · intro w' hSw
        (try dsimp only at hSw)
        (try simp only [List.getElem_toArray]); (try simp only [List.getElem_cons_succ]); (try simp only [List.getElem_cons_zero])
        go_simp
        try with_reducible rfl
      (try simp only [Act.put]); (try simp only [List.setIfInBounds_toArray]); (try simp only [List.set_cons_succ]); (try simp only [List.set_cons_zero])
      refine wpAnyH_take (i := 5) (v := ?_) rfl (by kernel_rfl) (by kernel_rfl) (by kernel_rfl) (fun _ _ _ h => h) (Or.inl ⟨by rfl, ?_⟩) hHeld ?_
      rotate_left
      · intro w' hSw
        (try dsimp only at hSw)
        go_simp
        try with_reducible rfl
      (try simp only [Act.put]); (try simp only [List.setIfInBounds_toArray]); (try simp only [List.set_cons_succ]); (try simp only [List.set_cons_zero])
      refine wpAnyH_take (i := 6) (v := ?_) rfl (by kernel_rfl) (by kernel_rfl) (by kernel_rfl) (fun _ _ _ h => h) (Or.inl ⟨by rfl, ?_⟩) hHeld ?_
      rotate_left
      · intro w' hSw
        (try dsimp only at hSw)
        go_simp
        try with_reducible rfl
      (try simp only [Act.put]); (try simp only [List.setIfInBounds_toArray]); (try simp only [List.set_cons_succ]); (try simp only [List.set_cons_zero])
      refine wpAnyH_take (i := 7) (v := ?_) rfl (by kernel_rfl) (by kernel_rfl) (by kernel_rfl) (fun _ _ _ h => h) (Or.inl ⟨by rfl, ?_⟩) hHeld ?_
      rotate_left
      · intro w' hSw
        (try dsimp only at hSw)
        go_simp
        try with_reducible rfl
      (try simp only [Act.put]); (try simp only [List.setIfInBounds_toArray]); (try simp only [List.set_cons_succ]); (try simp only [List.set_cons_zero])
      refine wpAnyH_take (i := 8) (v := ?_) rfl (by kernel_rfl) (by kernel_rfl) (by kernel_rfl) (fun _ _ _ h => h) (Or.inl ⟨by rfl, ?_⟩) hHeld ?_
      rotate_left
      · intro w' hSw
        (try dsimp only at hSw)
        (try simp only [List.getElem_toArray]); (try simp only [List.getElem_cons_succ]); (try simp only [List.getElem_cons_zero])
        go_simp
        try with_reducible rfl
      (try simp only [Act.put]); (try simp only [List.setIfInBounds_toArray]); (try simp only [List.set_cons_succ]); (try simp only [List.set_cons_zero])
      refine wpAnyH_ready (rs := [9]) (by kernel_rfl) (by simp) ?_
      refine AllReadyH.cons rfl (fun K hK => ?_) AllReadyH.nil
      go_simp
      go_fit (pc_Value _ v ca' cb' (rGValue_lawful.nix rA ((Keep.refl Nix wr).drew)) (rGValue_lawful.nix rB ((Keep.refl Nix wr).drew)))
      rintro e w2 ⟨rfl, k2⟩
      replace kk := kk.drew.trans k2
      replace hcA := fun j u hu => (k2.cell (p := ⟨b1, o1 + k * 3 + j, none⟩) hb1 id).trans (hcA j u hu)
      replace hcB := fun j u hu => (k2.cell (p := ⟨b2, o2 + k * 3 + j, none⟩) hb2 id).trans (hcB j u hu)
      clear k2 rA rB
      go_wp2_with fail
      refine hK.out _ _ ⟨Whole.at S_Value hlA.out hcA, Whole.at S_Value hlB.out hcB⟩ (fun hHeld => ?_)
      clear hK K
      (try simp only [Act.put]); (try simp only [List.setIfInBounds_toArray]); (try simp only [List.set_cons_succ]); (try simp only [List.set_cons_zero])
      refine wpAnyH_take (i := 10) (v := ?_) rfl (by kernel_rfl) (by kernel_rfl) (by kernel_rfl) (fun _ _ _ h => h) (Or.inl ⟨by rfl, ?_⟩) hHeld ?_
      rotate_left
      · intro w' hSw
        (try dsimp only at hSw)
        go_simp
        try with_reducible rfl
      (try simp only [Act.put]); (try simp only [List.setIfInBounds_toArray]); (try simp only [List.set_cons_succ]); (try simp only [List.set_cons_zero])
      refine wpAnyH_done (by kernel_rfl) ?_ _
      clear hHeld
      go_wp2
      go_roundw
      case rel => exact ⟨k + 1, by omega, by go_num, rfl, kk⟩
      case measure => simp [intOf]; omega
    · obtain rfl : k = l.length := by omega
      go_wp2_with fail
      go_ret
      exact ⟨rfl, kk⟩
end
theorem pl_Value {p q : Nat → Prop} (w : World) (l : List GValue) (a b : Option Addr) (n ca m cb : Nat) (ha : rList rGValue w p [.slice a n ca] l) (hb : rList rGValue w q [.slice b m cb] l) :
    Calls Tryz.prog 136 #[.slice a n ca, .slice b m cb] w fun e w' => e = .returned (.bool true) ∧ Keep Nix w w' := by
  go_enter Tryz.func136, Tryz.ntmps136
  go_wp2_with fail
  go_fit (sm_Value w l a b n ca m cb ha hb)
  rintro e w1 ⟨rfl, k1⟩
  go_wp2
  go_ret
  exact ⟨rfl, k1⟩
theorem pc_Set {p q : Nat → Prop} (w : World) (x : GSet) (ca cb : List Value) (ha : rGSet w p ca x) (hb : rGSet w q cb x) : Calls Tryz.prog 187 #[.agg ca.toArray, .agg cb.toArray] w fun e w' => e = .returned (.bool true) ∧ Keep Nix w w' := by
  obtain ⟨rfl, -⟩ := rGSet_open ha
  obtain ⟨rfl, -⟩ := rGSet_open hb
  clear ha hb
  go_enter Tryz.func187, Tryz.ntmps187
  go_wp2
  go_ret
  exact ⟨by simp, ((Keep.refl _ _).alloc _).alloc _⟩
theorem lds_Set (a : Act) (dst : Option Tmp) (x : Operand) (ty : TypeId) (pos : String) (after : Array Edge) (guard : Option (Nat × Bool)) : execOp a.eval { dst := dst, op := .load 203 x, type := ty, pos := pos, after := after, guard := guard } = wholeSem 203 (a.eval x) := rfl
section
attribute [local go_sem ↓] lds_Set
set_option maxRecDepth 100000 in
set_option maxHeartbeats 4000000 in
theorem sm_Set {p q : Nat → Prop} (w : World) (l : List GSet) (a b : Option Addr) (n ca m cb : Nat) (ha : rList rGSet w p [.slice a n ca] l) (hb : rList rGSet w q [.slice b m cb] l) :
    Calls Tryz.prog 186 #[.slice a n ca, .slice b m cb, .func (.func 187) #[] #[]] w fun e w' => e = .returned (.bool true) ∧ Keep Nix w w' := by
  obtain ⟨hn, -, hf⟩ := rList_len ha
  obtain ⟨hm, -, -⟩ := rList_len hb
  subst hn hm
  have hfar : l.length ≤ 9223372036854775807 := by have := far_len; unfold maxLen at this; omega
  clear hf
  have kk0 : Keep Nix w w := Keep.refl _ _
  go_enter Tryz.func186, Tryz.ntmps186
  go_wp2_with fail
  go_loopw [6, 7] (fun r i wr => ∃ k : Nat, k ≤ l.length ∧ i = .int .i64 k ∧ r = .bool false ∧ Keep Nix w wr) (fun _ i _ => l.length - (intOf i).toNat)
  case atStart => exact ⟨0, by omega, rfl, rfl, kk0⟩
  case round =>
    clear kk0
    obtain ⟨k, hk, rfl, rfl, kk⟩ := hrel
    by_cases hlt : k < l.length
    · have hi0 : (0 : Int) ≤ (k : Int) := by omega
      have hi1 : (k : Int) < (l.length : Int) := by omega
      obtain ⟨b1, o1, c1, ca', e1, -, hb1, rA, hcA⟩ := rList_at rGSet_lawful (by decide) ((rList_lawful rGSet_lawful).nix ha kk) k hlt
      obtain ⟨b2, o2, c2, cb', e2, -, hb2, rB, hcB⟩ := rList_at rGSet_lawful (by decide) ((rList_lawful rGSet_lawful).nix hb kk) k hlt
      simp only [List.cons.injEq, Value.slice.injEq, and_true] at e1 e2
      obtain ⟨e1, -, -⟩ := e1
      obtain ⟨e2, -, -⟩ := e2
      subst e1 e2
      clear ha hb
      have hlA := Lib.hid (rGSet_lawful.len rA)
      have hlB := Lib.hid (rGSet_lawful.len rB)
      generalize hv : l[k] = v at rA rB
      clear hv
      go_wp2_with fail
      refine wp_region_held_drew (S := (fun w' => (wholeSem 203 (.pointer (some ⟨b1, o1 + k * 4, none⟩))).run Tryz.prog w' = .ok (.value (.agg ca'.toArray)) w' ∧ (wholeSem 203 (.pointer (some ⟨b2, o2 + k * 4, none⟩))).run Tryz.prog w' = .ok (.value (.agg cb'.toArray)) w')) (by kernel_rfl) ⟨Whole.at (w := wr.drew) S_Set hlA.out hcA, Whole.at (w := wr.drew) S_Set hlB.out hcB⟩ (fun hHeld => ?_)
      refine wpAnyH_take (i := 0) (v := ?_) rfl (by kernel_rfl) (by kernel_rfl) (by kernel_rfl) (fun _ _ _ h => h) (Or.inl ⟨by rfl, ?_⟩) hHeld ?_
      rotate_left
      · intro w' hSw
        (try dsimp only at hSw)
        go_simp
        try with_reducible rfl
      (try simp only [Act.put]); (try simp only [List.setIfInBounds_toArray]); (try simp only [List.set_cons_succ]); (try simp only [List.set_cons_zero])
      refine wpAnyH_take (i := 1) (v := ?_) rfl (by kernel_rfl) (by kernel_rfl) (by kernel_rfl) (fun _ _ _ h => h) (Or.inl ⟨by rfl, ?_⟩) hHeld ?_
      rotate_left
      · intro w' hSw
        (try dsimp only at hSw)
        go_simp
        try with_reducible rfl
      (try simp only [Act.put]); (try simp only [List.setIfInBounds_toArray]); (try simp only [List.set_cons_succ]); (try simp only [List.set_cons_zero])
      refine wpAnyH_take (i := 2) (v := ?_) rfl (by kernel_rfl) (by kernel_rfl) (by kernel_rfl) (fun _ _ _ h => h) (Or.inl ⟨by rfl, ?_⟩) hHeld ?_
      rotate_left
      · intro w' hSw
        (try dsimp only at hSw)
        go_simp
        try with_reducible rfl
      (try simp only [Act.put]); (try simp only [List.setIfInBounds_toArray]); (try simp only [List.set_cons_succ]); (try simp only [List.set_cons_zero])
      refine wpAnyH_take (i := 3) (v := ?_) rfl (by kernel_rfl) (by kernel_rfl) (by kernel_rfl) (fun _ _ _ h => h) (Or.inl ⟨by rfl, ?_⟩) hHeld ?_
      rotate_left
      · intro w' hSw
        (try dsimp only at hSw)
        go_simp
        try with_reducible rfl
      (try simp only [Act.put]); (try simp only [List.setIfInBounds_toArray]); (try simp only [List.set_cons_succ]); (try simp only [List.set_cons_zero])
      refine wpAnyH_take (i := 4) (v := ?_) rfl (by kernel_rfl) (by kernel_rfl) (by kernel_rfl) (fun _ _ _ h => h) (Or.inl ⟨by rfl, ?_⟩) hHeld ?_
      rotate_left
      · intro w' hSw
        (try dsimp only at hSw)
        (try simp only [List.getElem_toArray]); (try simp only [List.getElem_cons_succ]); (try simp only [List.getElem_cons_zero])
        go_simp
        try with_reducible rfl
      (try simp only [Act.put]); (try simp only [List.setIfInBounds_toArray]); (try simp only [List.set_cons_succ]); (try simp only [List.set_cons_zero])
      refine wpAnyH_take (i := 5) (v := ?_) rfl (by kernel_rfl) (by kernel_rfl) (by kernel_rfl) (fun _ _ _ h => h) (Or.inl ⟨by rfl, ?_⟩) hHeld ?_
      rotate_left
      · intro w' hSw
        (try dsimp only at hSw)
        go_simp
        try with_reducible rfl
      (try simp only [Act.put]); (try simp only [List.setIfInBounds_toArray]); (try simp only [List.set_cons_succ]); (try simp only [List.set_cons_zero])
      refine wpAnyH_take (i := 6) (v := ?_) rfl (by kernel_rfl) (by kernel_rfl) (by kernel_rfl) (fun _ _ _ h => h) (Or.inl ⟨by rfl, ?_⟩) hHeld ?_
      rotate_left
      · intro w' hSw
        (try dsimp only at hSw)
        go_simp
        try with_reducible rfl
      (try simp only [Act.put]); (try simp only [List.setIfInBounds_toArray]); (try simp only [List.set_cons_succ]); (try simp only [List.set_cons_zero])
      refine wpAnyH_take (i := 7) (v := ?_) rfl (by kernel_rfl) (by kernel_rfl) (by kernel_rfl) (fun _ _ _ h => h) (Or.inl ⟨by rfl, ?_⟩) hHeld ?_
      rotate_left
      · intro w' hSw
        (try dsimp only at hSw)
        go_simp
        try with_reducible rfl
      (try simp only [Act.put]); (try simp only [List.setIfInBounds_toArray]); (try simp only [List.set_cons_succ]); (try simp only [List.set_cons_zero])
      refine wpAnyH_take (i := 8) (v := ?_) rfl (by kernel_rfl) (by kernel_rfl) (by kernel_rfl) (fun _ _ _ h => h) (Or.inl ⟨by rfl, ?_⟩) hHeld ?_
      rotate_left
      · intro w' hSw
        (try dsimp only at hSw)
        (try simp only [List.getElem_toArray]); (try simp only [List.getElem_cons_succ]); (try simp only [List.getElem_cons_zero])
        go_simp
        try with_reducible rfl
      (try simp only [Act.put]); (try simp only [List.setIfInBounds_toArray]); (try simp only [List.set_cons_succ]); (try simp only [List.set_cons_zero])
      refine wpAnyH_ready (rs := [9]) (by kernel_rfl) (by simp) ?_
      refine AllReadyH.cons rfl (fun K hK => ?_) AllReadyH.nil
      go_simp
      go_fit (pc_Set _ v ca' cb' (rGSet_lawful.nix rA ((Keep.refl Nix wr).drew)) (rGSet_lawful.nix rB ((Keep.refl Nix wr).drew)))
      rintro e w2 ⟨rfl, k2⟩
      replace kk := kk.drew.trans k2
      replace hcA := fun j u hu => (k2.cell (p := ⟨b1, o1 + k * 4 + j, none⟩) hb1 id).trans (hcA j u hu)
      replace hcB := fun j u hu => (k2.cell (p := ⟨b2, o2 + k * 4 + j, none⟩) hb2 id).trans (hcB j u hu)
      clear k2 rA rB
      go_wp2_with fail
      refine hK.out _ _ ⟨Whole.at S_Set hlA.out hcA, Whole.at S_Set hlB.out hcB⟩ (fun hHeld => ?_)
      clear hK K
      (try simp only [Act.put]); (try simp only [List.setIfInBounds_toArray]); (try simp only [List.set_cons_succ]); (try simp only [List.set_cons_zero])
      refine wpAnyH_take (i := 10) (v := ?_) rfl (by kernel_rfl) (by kernel_rfl) (by kernel_rfl) (fun _ _ _ h => h) (Or.inl ⟨by rfl, ?_⟩) hHeld ?_
      rotate_left
      · intro w' hSw
        (try dsimp only at hSw)
        go_simp
        try with_reducible rfl
      (try simp only [Act.put]); (try simp only [List.setIfInBounds_toArray]); (try simp only [List.set_cons_succ]); (try simp only [List.set_cons_zero])
      refine wpAnyH_done (by kernel_rfl) ?_ _
      clear hHeld
      go_wp2
      go_roundw
      case rel => exact ⟨k + 1, by omega, by go_num, rfl, kk⟩
      case measure => simp [intOf]; omega
    · obtain rfl : k = l.length := by omega
      go_wp2_with fail
      go_ret
      exact ⟨rfl, kk⟩
end
theorem pl_Set {p q : Nat → Prop} (w : World) (l : List GSet) (a b : Option Addr) (n ca m cb : Nat) (ha : rList rGSet w p [.slice a n ca] l) (hb : rList rGSet w q [.slice b m cb] l) :
    Calls Tryz.prog 137 #[.slice a n ca, .slice b m cb] w fun e w' => e = .returned (.bool true) ∧ Keep Nix w w' := by
  go_enter Tryz.func137, Tryz.ntmps137
  go_wp2_with fail
  go_fit (sm_Set w l a b n ca m cb ha hb)
  rintro e w1 ⟨rfl, k1⟩
  go_wp2
  go_ret
  exact ⟨rfl, k1⟩
set_option maxRecDepth 100000 in
set_option maxHeartbeats 8000000 in
theorem sSpan_c {p q : Nat → Prop} (w : World) (x : GSpan) (ca cb : List Value) (ha : rGSpan w p ca x) (hb : rGSpan w q cb x) : Calls Tryz.prog 58 #[.agg ca.toArray, .agg cb.toArray] w fun e w' => e = .returned (.bool true) ∧ Keep Nix w w' := by
  obtain ⟨apFrom, cpFrom, apTo, cpTo, rfl, h0, h1, -⟩ := rGSpan_open ha
  obtain ⟨aqFrom, cqFrom, aqTo, cqTo, rfl, g0, g1, -⟩ := rGSpan_open hb
  have hsz : (w.alloc (.cells #[.slice apFrom x.fFrom.length cpFrom, .slice apTo x.fTo.length cpTo] 32)).heap.size = w.heap.size + 1 := by simp
  have rowA : RowIs ((w.alloc (.cells #[.slice apFrom x.fFrom.length cpFrom, .slice apTo x.fTo.length cpTo] 32)).alloc (.cells #[.slice aqFrom x.fFrom.length cqFrom, .slice aqTo x.fTo.length cqTo] 32)) w.heap.size 32 [.slice apFrom x.fFrom.length cpFrom, .slice apTo x.fTo.length cpTo] := (RowIs.alloc w _ _).keep ((Keep.refl Nix _).alloc _) id
  have rowB : RowIs ((w.alloc (.cells #[.slice apFrom x.fFrom.length cpFrom, .slice apTo x.fTo.length cpTo] 32)).alloc (.cells #[.slice aqFrom x.fFrom.length cqFrom, .slice aqTo x.fTo.length cqTo] 32)) (w.heap.size + 1) 32 [.slice aqFrom x.fFrom.length cqFrom, .slice aqTo x.fTo.length cqTo] := by
    rw [← hsz]
    exact RowIs.alloc (w.alloc (.cells #[.slice apFrom x.fFrom.length cpFrom, .slice apTo x.fTo.length cpTo] 32)) _ _
  have kk : Keep Nix w ((w.alloc (.cells #[.slice apFrom x.fFrom.length cpFrom, .slice apTo x.fTo.length cpTo] 32)).alloc (.cells #[.slice aqFrom x.fFrom.length cqFrom, .slice aqTo x.fTo.length cqTo] 32)) := ((Keep.refl Nix w).alloc _).alloc _
  clear hsz ha hb
  replace h0 := h0.1.keep kk (fun _ _ h => h)
  replace g0 := g0.1.keep kk (fun _ _ h => h)
  replace h1 := h1.1.keep kk (fun _ _ h => h)
  replace g1 := g1.1.keep kk (fun _ _ h => h)
  go_enter Tryz.func58, Tryz.ntmps58
  go_wp2_with fail
  go_fit (bytesT_c _ _ _ _ _ _ x.fFrom _ rfl rfl h0 g0)
  rintro e w1' ⟨rfl, rfl⟩
  clear h0 g0
  have xa1 : ((w.alloc (.cells #[.slice apFrom x.fFrom.length cpFrom, .slice apTo x.fTo.length cpTo] 32)).alloc (.cells #[.slice aqFrom x.fFrom.length cqFrom, .slice aqTo x.fTo.length cqTo] 32)).cell? ⟨w.heap.size, 1, none⟩ = some (.slice apTo x.fTo.length cpTo) := rowA.cell 1
  have xb1 : ((w.alloc (.cells #[.slice apFrom x.fFrom.length cpFrom, .slice apTo x.fTo.length cpTo] 32)).alloc (.cells #[.slice aqFrom x.fFrom.length cqFrom, .slice aqTo x.fTo.length cqTo] 32)).cell? ⟨w.heap.size + 1, 1, none⟩ = some (.slice aqTo x.fTo.length cqTo) := rowB.cell 1
  go_wp2_with fail
  clear xa1 xb1
  go_fit (bytesT_c _ _ _ _ _ _ x.fTo _ rfl rfl h1 g1)
  rintro e w2' ⟨rfl, rfl⟩
  clear h1 g1
  go_wp2
  go_ret
  exact ⟨by first | rfl | simp, kk⟩
set_option maxRecDepth 100000 in
set_option maxHeartbeats 8000000 in
theorem sPair_c {p q : Nat → Prop} (w : World) (x : GPair) (ca cb : List Value) (ha : rGPair w p ca x) (hb : rGPair w q cb x) : Calls Tryz.prog 60 #[.agg ca.toArray, .agg cb.toArray] w fun e w' => e = .returned (.bool true) ∧ Keep Nix w w' := by
  obtain ⟨apKey, cpKey, apValue, cpValue, rfl, h0, h1, h2, -⟩ := rGPair_open ha
  obtain ⟨aqKey, cqKey, aqValue, cqValue, rfl, g0, g1, g2, -⟩ := rGPair_open hb
  have hsz : (w.alloc (.cells #[.slice apKey x.fKey.length cpKey, .slice apValue x.fValue.length cpValue, .int .i64 x.fVersion] 72)).heap.size = w.heap.size + 1 := by simp
  have rowA : RowIs ((w.alloc (.cells #[.slice apKey x.fKey.length cpKey, .slice apValue x.fValue.length cpValue, .int .i64 x.fVersion] 72)).alloc (.cells #[.slice aqKey x.fKey.length cqKey, .slice aqValue x.fValue.length cqValue, .int .i64 x.fVersion] 72)) w.heap.size 72 [.slice apKey x.fKey.length cpKey, .slice apValue x.fValue.length cpValue, .int .i64 x.fVersion] := (RowIs.alloc w _ _).keep ((Keep.refl Nix _).alloc _) id
  have rowB : RowIs ((w.alloc (.cells #[.slice apKey x.fKey.length cpKey, .slice apValue x.fValue.length cpValue, .int .i64 x.fVersion] 72)).alloc (.cells #[.slice aqKey x.fKey.length cqKey, .slice aqValue x.fValue.length cqValue, .int .i64 x.fVersion] 72)) (w.heap.size + 1) 72 [.slice aqKey x.fKey.length cqKey, .slice aqValue x.fValue.length cqValue, .int .i64 x.fVersion] := by
    rw [← hsz]
    exact RowIs.alloc (w.alloc (.cells #[.slice apKey x.fKey.length cpKey, .slice apValue x.fValue.length cpValue, .int .i64 x.fVersion] 72)) _ _
  have kk : Keep Nix w ((w.alloc (.cells #[.slice apKey x.fKey.length cpKey, .slice apValue x.fValue.length cpValue, .int .i64 x.fVersion] 72)).alloc (.cells #[.slice aqKey x.fKey.length cqKey, .slice aqValue x.fValue.length cqValue, .int .i64 x.fVersion] 72)) := ((Keep.refl Nix w).alloc _).alloc _
  clear hsz ha hb
  replace h0 := h0.1.keep kk (fun _ _ h => h)
  replace g0 := g0.1.keep kk (fun _ _ h => h)
  replace h1 := h1.1.keep kk (fun _ _ h => h)
  replace g1 := g1.1.keep kk (fun _ _ h => h)
  clear h2 g2
  go_enter Tryz.func60, Tryz.ntmps60
  go_wp2_with fail
  go_fit (bytesT_c _ _ _ _ _ _ x.fKey _ rfl rfl h0 g0)
  rintro e w1' ⟨rfl, rfl⟩
  clear h0 g0
  have xa1 : ((w.alloc (.cells #[.slice apKey x.fKey.length cpKey, .slice apValue x.fValue.length cpValue, .int .i64 x.fVersion] 72)).alloc (.cells #[.slice aqKey x.fKey.length cqKey, .slice aqValue x.fValue.length cqValue, .int .i64 x.fVersion] 72)).cell? ⟨w.heap.size, 1, none⟩ = some (.slice apValue x.fValue.length cpValue) := rowA.cell 1
  have xb1 : ((w.alloc (.cells #[.slice apKey x.fKey.length cpKey, .slice apValue x.fValue.length cpValue, .int .i64 x.fVersion] 72)).alloc (.cells #[.slice aqKey x.fKey.length cqKey, .slice aqValue x.fValue.length cqValue, .int .i64 x.fVersion] 72)).cell? ⟨w.heap.size + 1, 1, none⟩ = some (.slice aqValue x.fValue.length cqValue) := rowB.cell 1
  go_wp2_with fail
  clear xa1 xb1
  go_fit (bytesT_c _ _ _ _ _ _ x.fValue _ rfl rfl h1 g1)
  rintro e w2' ⟨rfl, rfl⟩
  clear h1 g1
  have xa2 : ((w.alloc (.cells #[.slice apKey x.fKey.length cpKey, .slice apValue x.fValue.length cpValue, .int .i64 x.fVersion] 72)).alloc (.cells #[.slice aqKey x.fKey.length cqKey, .slice aqValue x.fValue.length cqValue, .int .i64 x.fVersion] 72)).cell? ⟨w.heap.size, 2, none⟩ = some (.int .i64 x.fVersion) := rowA.cell 2
  have xb2 : ((w.alloc (.cells #[.slice apKey x.fKey.length cpKey, .slice apValue x.fValue.length cpValue, .int .i64 x.fVersion] 72)).alloc (.cells #[.slice aqKey x.fKey.length cqKey, .slice aqValue x.fValue.length cqValue, .int .i64 x.fVersion] 72)).cell? ⟨w.heap.size + 1, 2, none⟩ = some (.int .i64 x.fVersion) := rowB.cell 2
  go_wp2
  go_ret
  exact ⟨by first | rfl | simp, kk⟩
theorem lds_Pair (a : Act) (dst : Option Tmp) (x : Operand) (ty : TypeId) (pos : String) (after : Array Edge) (guard : Option (Nat × Bool)) : execOp a.eval { dst := dst, op := .load 72 x, type := ty, pos := pos, after := after, guard := guard } = wholeSem 72 (a.eval x) := rfl
section
attribute [local go_sem ↓] lds_Pair
set_option maxRecDepth 100000 in
set_option maxHeartbeats 4000000 in
theorem sm_Pair {p q : Nat → Prop} (w : World) (l : List GPair) (a b : Option Addr) (n ca m cb : Nat) (ha : rList rGPair w p [.slice a n ca] l) (hb : rList rGPair w q [.slice b m cb] l) :
    Calls Tryz.prog 59 #[.slice a n ca, .slice b m cb, .func (.func 60) #[] #[]] w fun e w' => e = .returned (.bool true) ∧ Keep Nix w w' := by
  obtain ⟨hn, -, hf⟩ := rList_len ha
  obtain ⟨hm, -, -⟩ := rList_len hb
  subst hn hm
  have hfar : l.length ≤ 9223372036854775807 := by have := far_len; unfold maxLen at this; omega
  clear hf
  have kk0 : Keep Nix w w := Keep.refl _ _
  go_enter Tryz.func59, Tryz.ntmps59
  go_wp2_with fail
  go_loopw [6, 7] (fun r i wr => ∃ k : Nat, k ≤ l.length ∧ i = .int .i64 k ∧ r = .bool false ∧ Keep Nix w wr) (fun _ i _ => l.length - (intOf i).toNat)
  case atStart => exact ⟨0, by omega, rfl, rfl, kk0⟩
  case round =>
    clear kk0
    obtain ⟨k, hk, rfl, rfl, kk⟩ := hrel
    by_cases hlt : k < l.length
    · have hi0 : (0 : Int) ≤ (k : Int) := by omega
      have hi1 : (k : Int) < (l.length : Int) := by omega
      obtain ⟨b1, o1, c1, ca', e1, -, hb1, rA, hcA⟩ := rList_at rGPair_lawful (by decide) ((rList_lawful rGPair_lawful).nix ha kk) k hlt
      obtain ⟨b2, o2, c2, cb', e2, -, hb2, rB, hcB⟩ := rList_at rGPair_lawful (by decide) ((rList_lawful rGPair_lawful).nix hb kk) k hlt
      simp only [List.cons.injEq, Value.slice.injEq, and_true] at e1 e2
      obtain ⟨e1, -, -⟩ := e1
      obtain ⟨e2, -, -⟩ := e2
      subst e1 e2
      clear ha hb
      have hlA := Lib.hid (rGPair_lawful.len rA)
      have hlB := Lib.hid (rGPair_lawful.len rB)
      generalize hv : l[k] = v at rA rB
      clear hv
      go_wp2_with fail
      refine wp_region_held_drew (S := (fun w' => (wholeSem 72 (.pointer (some ⟨b1, o1 + k * 3, none⟩))).run Tryz.prog w' = .ok (.value (.agg ca'.toArray)) w' ∧ (wholeSem 72 (.pointer (some ⟨b2, o2 + k * 3, none⟩))).run Tryz.prog w' = .ok (.value (.agg cb'.toArray)) w')) (by kernel_rfl) ⟨Whole.at (w := wr.drew) S_Pair hlA.out hcA, Whole.at (w := wr.drew) S_Pair hlB.out hcB⟩ (fun hHeld => ?_)
      refine wpAnyH_take (i := 0) (v := ?_) rfl (by kernel_rfl) (by kernel_rfl) (by kernel_rfl) (fun _ _ _ h => h) (Or.inl ⟨by rfl, ?_⟩) hHeld ?_
      rotate_left
      · intro w' hSw
        (try dsimp only at hSw)
        go_simp
        try with_reducible rfl
      (try simp only [Act.put]); (try simp only [List.setIfInBounds_toArray]); (try simp only [List.set_cons_succ]); (try simp only [List.set_cons_zero])
      refine wpAnyH_take (i := 1) (v := ?_) rfl (by kernel_rfl) (by kernel_rfl) (by kernel_rfl) (fun _ _ _ h => h) (Or.inl ⟨by rfl, ?_⟩) hHeld ?_
      rotate_left
      · intro w' hSw
        (try dsimp only at hSw)
        go_simp
        try with_reducible rfl
      (try simp only [Act.put]); (try simp only [List.setIfInBounds_toArray]); (try simp only [List.set_cons_succ]); (try simp only [List.set_cons_zero])
      refine wpAnyH_take (i := 2) (v := ?_) rfl (by kernel_rfl) (by kernel_rfl) (by kernel_rfl) (fun _ _ _ h => h) (Or.inl ⟨by rfl, ?_⟩) hHeld ?_
      rotate_left
      · intro w' hSw
        (try dsimp only at hSw)
        go_simp
        try with_reducible rfl
      (try simp only [Act.put]); (try simp only [List.setIfInBounds_toArray]); (try simp only [List.set_cons_succ]); (try simp only [List.set_cons_zero])
      refine wpAnyH_take (i := 3) (v := ?_) rfl (by kernel_rfl) (by kernel_rfl) (by kernel_rfl) (fun _ _ _ h => h) (Or.inl ⟨by rfl, ?_⟩) hHeld ?_
      rotate_left
      · intro w' hSw
        (try dsimp only at hSw)
        go_simp
        try with_reducible rfl
      (try simp only [Act.put]); (try simp only [List.setIfInBounds_toArray]); (try simp only [List.set_cons_succ]); (try simp only [List.set_cons_zero])
      refine wpAnyH_take (i := 4) (v := ?_) rfl (by kernel_rfl) (by kernel_rfl) (by kernel_rfl) (fun _ _ _ h => h) (Or.inl ⟨by rfl, ?_⟩) hHeld ?_
      rotate_left
      · intro w' hSw
        (try dsimp only at hSw)
        (try simp only [List.getElem_toArray]); (try simp only [List.getElem_cons_succ]); (try simp only [List.getElem_cons_zero])
        go_simp
        try with_reducible rfl
      (try simp only [Act.put]); (try simp only [List.setIfInBounds_toArray]); (try simp only [List.set_cons_succ]); (try simp only [List.set_cons_zero])
      refine wpAnyH_take (i := 5) (v := ?_) rfl (by kernel_rfl) (by kernel_rfl) (by kernel_rfl) (fun _ _ _ h => h) (Or.inl ⟨by rfl, ?_⟩) hHeld ?_
      rotate_left
      · intro w' hSw
        (try dsimp only at hSw)
        go_simp
        try with_reducible rfl
      (try simp only [Act.put]); (try simp only [List.setIfInBounds_toArray]); (try simp only [List.set_cons_succ]); (try simp only [List.set_cons_zero])
      refine wpAnyH_take (i := 6) (v := ?_) rfl (by kernel_rfl) (by kernel_rfl) (by kernel_rfl) (fun _ _ _ h => h) (Or.inl ⟨by rfl, ?_⟩) hHeld ?_
      rotate_left
      · intro w' hSw
        (try dsimp only at hSw)
        go_simp
        try with_reducible rfl
      (try simp only [Act.put]); (try simp only [List.setIfInBounds_toArray]); (try simp only [List.set_cons_succ]); (try simp only [List.set_cons_zero])
      refine wpAnyH_take (i := 7) (v := ?_) rfl (by kernel_rfl) (by kernel_rfl) (by kernel_rfl) (fun _ _ _ h => h) (Or.inl ⟨by rfl, ?_⟩) hHeld ?_
      rotate_left
      · intro w' hSw
        (try dsimp only at hSw)
        go_simp
        try with_reducible rfl
      (try simp only [Act.put]); (try simp only [List.setIfInBounds_toArray]); (try simp only [List.set_cons_succ]); (try simp only [List.set_cons_zero])
      refine wpAnyH_take (i := 8) (v := ?_) rfl (by kernel_rfl) (by kernel_rfl) (by kernel_rfl) (fun _ _ _ h => h) (Or.inl ⟨by rfl, ?_⟩) hHeld ?_
      rotate_left
      · intro w' hSw
        (try dsimp only at hSw)
        (try simp only [List.getElem_toArray]); (try simp only [List.getElem_cons_succ]); (try simp only [List.getElem_cons_zero])
        go_simp
        try with_reducible rfl
      (try simp only [Act.put]); (try simp only [List.setIfInBounds_toArray]); (try simp only [List.set_cons_succ]); (try simp only [List.set_cons_zero])
      refine wpAnyH_ready (rs := [9]) (by kernel_rfl) (by simp) ?_
      refine AllReadyH.cons rfl (fun K hK => ?_) AllReadyH.nil
      go_simp
      go_fit (sPair_c _ v ca' cb' (rGPair_lawful.nix rA ((Keep.refl Nix wr).drew)) (rGPair_lawful.nix rB ((Keep.refl Nix wr).drew)))
      rintro e w2 ⟨rfl, k2⟩
      replace kk := kk.drew.trans k2
      replace hcA := fun j u hu => (k2.cell (p := ⟨b1, o1 + k * 3 + j, none⟩) hb1 id).trans (hcA j u hu)
      replace hcB := fun j u hu => (k2.cell (p := ⟨b2, o2 + k * 3 + j, none⟩) hb2 id).trans (hcB j u hu)
      clear k2 rA rB
      go_wp2_with fail
      refine hK.out _ _ ⟨Whole.at S_Pair hlA.out hcA, Whole.at S_Pair hlB.out hcB⟩ (fun hHeld => ?_)
      clear hK K
      (try simp only [Act.put]); (try simp only [List.setIfInBounds_toArray]); (try simp only [List.set_cons_succ]); (try simp only [List.set_cons_zero])
      refine wpAnyH_take (i := 10) (v := ?_) rfl (by kernel_rfl) (by kernel_rfl) (by kernel_rfl) (fun _ _ _ h => h) (Or.inl ⟨by rfl, ?_⟩) hHeld ?_
      rotate_left
      · intro w' hSw
        (try dsimp only at hSw)
        go_simp
        try with_reducible rfl
      (try simp only [Act.put]); (try simp only [List.setIfInBounds_toArray]); (try simp only [List.set_cons_succ]); (try simp only [List.set_cons_zero])
      refine wpAnyH_done (by kernel_rfl) ?_ _
      clear hHeld
      go_wp2
      go_roundw
      case rel => exact ⟨k + 1, by omega, by go_num, rfl, kk⟩
      case measure => simp [intOf]; omega
    · obtain rfl : k = l.length := by omega
      go_wp2_with fail
      go_ret
      exact ⟨rfl, kk⟩
end
set_option maxRecDepth 100000 in
set_option maxHeartbeats 8000000 in
theorem sSeen_c {p q : Nat → Prop} (w : World) (x : GSeen) (ca cb : List Value) (ha : rGSeen w p ca x) (hb : rGSeen w q cb x) : Calls Tryz.prog 62 #[.agg ca.toArray, .agg cb.toArray] w fun e w' => e = .returned (.bool true) ∧ Keep Nix w w' := by
  obtain ⟨apSpanFrom, cpSpanFrom, apSpanTo, cpSpanTo, apPairs, cpPairs, rfl, h0, h1, -⟩ := rGSeen_open ha
  obtain ⟨aqSpanFrom, cqSpanFrom, aqSpanTo, cqSpanTo, aqPairs, cqPairs, rfl, g0, g1, -⟩ := rGSeen_open hb
  have hsz : (w.alloc (.cells #[.slice apSpanFrom x.fSpan.fFrom.length cpSpanFrom, .slice apSpanTo x.fSpan.fTo.length cpSpanTo, .slice apPairs x.fPairs.length cpPairs] 118)).heap.size = w.heap.size + 1 := by simp
  have rowA : RowIs ((w.alloc (.cells #[.slice apSpanFrom x.fSpan.fFrom.length cpSpanFrom, .slice apSpanTo x.fSpan.fTo.length cpSpanTo, .slice apPairs x.fPairs.length cpPairs] 118)).alloc (.cells #[.slice aqSpanFrom x.fSpan.fFrom.length cqSpanFrom, .slice aqSpanTo x.fSpan.fTo.length cqSpanTo, .slice aqPairs x.fPairs.length cqPairs] 118)) w.heap.size 118 [.slice apSpanFrom x.fSpan.fFrom.length cpSpanFrom, .slice apSpanTo x.fSpan.fTo.length cpSpanTo, .slice apPairs x.fPairs.length cpPairs] := (RowIs.alloc w _ _).keep ((Keep.refl Nix _).alloc _) id
  have rowB : RowIs ((w.alloc (.cells #[.slice apSpanFrom x.fSpan.fFrom.length cpSpanFrom, .slice apSpanTo x.fSpan.fTo.length cpSpanTo, .slice apPairs x.fPairs.length cpPairs] 118)).alloc (.cells #[.slice aqSpanFrom x.fSpan.fFrom.length cqSpanFrom, .slice aqSpanTo x.fSpan.fTo.length cqSpanTo, .slice aqPairs x.fPairs.length cqPairs] 118)) (w.heap.size + 1) 118 [.slice aqSpanFrom x.fSpan.fFrom.length cqSpanFrom, .slice aqSpanTo x.fSpan.fTo.length cqSpanTo, .slice aqPairs x.fPairs.length cqPairs] := by
    rw [← hsz]
    exact RowIs.alloc (w.alloc (.cells #[.slice apSpanFrom x.fSpan.fFrom.length cpSpanFrom, .slice apSpanTo x.fSpan.fTo.length cpSpanTo, .slice apPairs x.fPairs.length cpPairs] 118)) _ _
  have kk : Keep Nix w ((w.alloc (.cells #[.slice apSpanFrom x.fSpan.fFrom.length cpSpanFrom, .slice apSpanTo x.fSpan.fTo.length cpSpanTo, .slice apPairs x.fPairs.length cpPairs] 118)).alloc (.cells #[.slice aqSpanFrom x.fSpan.fFrom.length cqSpanFrom, .slice aqSpanTo x.fSpan.fTo.length cqSpanTo, .slice aqPairs x.fPairs.length cqPairs] 118)) := ((Keep.refl Nix w).alloc _).alloc _
  clear hsz ha hb
  replace h0 := rGSpan_lawful.nix h0 kk
  replace g0 := rGSpan_lawful.nix g0 kk
  replace h1 := (rList_lawful rGPair_lawful).nix h1 kk
  replace g1 := (rList_lawful rGPair_lawful).nix g1 kk
  go_enter Tryz.func62, Tryz.ntmps62
  go_wp2_with fail
  go_fit (sSpan_c _ x.fSpan _ _ h0 g0)
  rintro e w1 ⟨rfl, k1⟩
  replace rowA := rowA.keep k1 id
  replace rowB := rowB.keep k1 id
  replace kk := kk.trans k1
  replace h1 := (rList_lawful rGPair_lawful).nix h1 k1
  replace g1 := (rList_lawful rGPair_lawful).nix g1 k1
  clear k1
  clear h0 g0
  have xa2 : w1.cell? ⟨w.heap.size, 2, none⟩ = some (.slice apPairs x.fPairs.length cpPairs) := rowA.cell 2
  have xb2 : w1.cell? ⟨w.heap.size + 1, 2, none⟩ = some (.slice aqPairs x.fPairs.length cqPairs) := rowB.cell 2
  go_wp2_with fail
  clear xa2 xb2
  go_fit (sm_Pair _ x.fPairs _ _ _ _ _ _ h1 g1)
  rintro e w2 ⟨rfl, k1⟩
  replace rowA := rowA.keep k1 id
  replace rowB := rowB.keep k1 id
  replace kk := kk.trans k1
  clear k1
  clear h1 g1
  go_wp2
  go_ret
  exact ⟨by first | rfl | simp, kk⟩
theorem lds_Seen (a : Act) (dst : Option Tmp) (x : Operand) (ty : TypeId) (pos : String) (after : Array Edge) (guard : Option (Nat × Bool)) : execOp a.eval { dst := dst, op := .load 118 x, type := ty, pos := pos, after := after, guard := guard } = wholeSem 118 (a.eval x) := rfl
section
attribute [local go_sem ↓] lds_Seen
set_option maxRecDepth 100000 in
set_option maxHeartbeats 4000000 in
theorem sm_Seen {p q : Nat → Prop} (w : World) (l : List GSeen) (a b : Option Addr) (n ca m cb : Nat) (ha : rList rGSeen w p [.slice a n ca] l) (hb : rList rGSeen w q [.slice b m cb] l) :
    Calls Tryz.prog 61 #[.slice a n ca, .slice b m cb, .func (.func 62) #[] #[]] w fun e w' => e = .returned (.bool true) ∧ Keep Nix w w' := by
  obtain ⟨hn, -, hf⟩ := rList_len ha
  obtain ⟨hm, -, -⟩ := rList_len hb
  subst hn hm
  have hfar : l.length ≤ 9223372036854775807 := by have := far_len; unfold maxLen at this; omega
  clear hf
  have kk0 : Keep Nix w w := Keep.refl _ _
  go_enter Tryz.func61, Tryz.ntmps61
  go_wp2_with fail
  go_loopw [6, 7] (fun r i wr => ∃ k : Nat, k ≤ l.length ∧ i = .int .i64 k ∧ r = .bool false ∧ Keep Nix w wr) (fun _ i _ => l.length - (intOf i).toNat)
  case atStart => exact ⟨0, by omega, rfl, rfl, kk0⟩
  case round =>
    clear kk0
    obtain ⟨k, hk, rfl, rfl, kk⟩ := hrel
    by_cases hlt : k < l.length
    · have hi0 : (0 : Int) ≤ (k : Int) := by omega
      have hi1 : (k : Int) < (l.length : Int) := by omega
      obtain ⟨b1, o1, c1, ca', e1, -, hb1, rA, hcA⟩ := rList_at rGSeen_lawful (by decide) ((rList_lawful rGSeen_lawful).nix ha kk) k hlt
      obtain ⟨b2, o2, c2, cb', e2, -, hb2, rB, hcB⟩ := rList_at rGSeen_lawful (by decide) ((rList_lawful rGSeen_lawful).nix hb kk) k hlt
      simp only [List.cons.injEq, Value.slice.injEq, and_true] at e1 e2
      obtain ⟨e1, -, -⟩ := e1
      obtain ⟨e2, -, -⟩ := e2
      subst e1 e2
      clear ha hb
      have hlA := Lib.hid (rGSeen_lawful.len rA)
      have hlB := Lib.hid (rGSeen_lawful.len rB)
      generalize hv : l[k] = v at rA rB
      clear hv
      go_wp2_with fail
      refine wp_region_held_drew (S := (fun w' => (wholeSem 118 (.pointer (some ⟨b1, o1 + k * 3, none⟩))).run Tryz.prog w' = .ok (.value (.agg ca'.toArray)) w' ∧ (wholeSem 118 (.pointer (some ⟨b2, o2 + k * 3, none⟩))).run Tryz.prog w' = .ok (.value (.agg cb'.toArray)) w')) (by kernel_rfl) ⟨Whole.at (w := wr.drew) S_Seen hlA.out hcA, Whole.at (w := wr.drew) S_Seen hlB.out hcB⟩ (fun hHeld => ?_)
      refine wpAnyH_take (i := 0) (v := ?_) rfl (by kernel_rfl) (by kernel_rfl) (by kernel_rfl) (fun _ _ _ h => h) (Or.inl ⟨by rfl, ?_⟩) hHeld ?_
      rotate_left
      · intro w' hSw
        (try dsimp only at hSw)
        go_simp
        try with_reducible rfl
      (try simp only [Act.put]); (try simp only [List.setIfInBounds_toArray]); (try simp only [List.set_cons_succ]); (try simp only [List.set_cons_zero])
      refine wpAnyH_take (i := 1) (v := ?_) rfl (by kernel_rfl) (by kernel_rfl) (by kernel_rfl) (fun _ _ _ h => h) (Or.inl ⟨by rfl, ?_⟩) hHeld ?_
      rotate_left
      · intro w' hSw
        (try dsimp only at hSw)
        go_simp
        try with_reducible rfl
      (try simp only [Act.put]); (try simp only [List.setIfInBounds_toArray]); (try simp only [List.set_cons_succ]); (try simp only [List.set_cons_zero])
      refine wpAnyH_take (i := 2) (v := ?_) rfl (by kernel_rfl) (by kernel_rfl) (by kernel_rfl) (fun _ _ _ h => h) (Or.inl ⟨by rfl, ?_⟩) hHeld ?_
      rotate_left
      · intro w' hSw
        (try dsimp only at hSw)
        go_simp
        try with_reducible rfl
      (try simp only [Act.put]); (try simp only [List.setIfInBounds_toArray]); (try simp only [List.set_cons_succ]); (try simp only [List.set_cons_zero])
      refine wpAnyH_take (i := 3) (v := ?_) rfl (by kernel_rfl) (by kernel_rfl) (by kernel_rfl) (fun _ _ _ h => h) (Or.inl ⟨by rfl, ?_⟩) hHeld ?_
      rotate_left
      · intro w' hSw
        (try dsimp only at hSw)
        go_simp
        try with_reducible rfl
      (try simp only [Act.put]); (try simp only [List.setIfInBounds_toArray]); (try simp only [List.set_cons_succ]); (try simp only [List.set_cons_zero])
      refine wpAnyH_take (i := 4) (v := ?_) rfl (by kernel_rfl) (by kernel_rfl) (by kernel_rfl) (fun _ _ _ h => h) (Or.inl ⟨by rfl, ?_⟩) hHeld ?_
      rotate_left
      · intro w' hSw
        (try dsimp only at hSw)
        (try simp only [List.getElem_toArray]); (try simp only [List.getElem_cons_succ]); (try simp only [List.getElem_cons_zero])
        go_simp
        try with_reducible rfl
      (try simp only [Act.put]); (try simp only [List.setIfInBounds_toArray]); (try simp only [List.set_cons_succ]); (try simp only [List.set_cons_zero])
      refine wpAnyH_take (i := 5) (v := ?_) rfl (by kernel_rfl) (by kernel_rfl) (by kernel_rfl) (fun _ _ _ h => h) (Or.inl ⟨by rfl, ?_⟩) hHeld ?_
      rotate_left
      · intro w' hSw
        (try dsimp only at hSw)
        go_simp
        try with_reducible rfl
      (try simp only [Act.put]); (try simp only [List.setIfInBounds_toArray]); (try simp only [List.set_cons_succ]); (try simp only [List.set_cons_zero])
      refine wpAnyH_take (i := 6) (v := ?_) rfl (by kernel_rfl) (by kernel_rfl) (by kernel_rfl) (fun _ _ _ h => h) (Or.inl ⟨by rfl, ?_⟩) hHeld ?_
      rotate_left
      · intro w' hSw
        (try dsimp only at hSw)
        go_simp
        try with_reducible rfl
      (try simp only [Act.put]); (try simp only [List.setIfInBounds_toArray]); (try simp only [List.set_cons_succ]); (try simp only [List.set_cons_zero])
      refine wpAnyH_take (i := 7) (v := ?_) rfl (by kernel_rfl) (by kernel_rfl) (by kernel_rfl) (fun _ _ _ h => h) (Or.inl ⟨by rfl, ?_⟩) hHeld ?_
      rotate_left
      · intro w' hSw
        (try dsimp only at hSw)
        go_simp
        try with_reducible rfl
      (try simp only [Act.put]); (try simp only [List.setIfInBounds_toArray]); (try simp only [List.set_cons_succ]); (try simp only [List.set_cons_zero])
      refine wpAnyH_take (i := 8) (v := ?_) rfl (by kernel_rfl) (by kernel_rfl) (by kernel_rfl) (fun _ _ _ h => h) (Or.inl ⟨by rfl, ?_⟩) hHeld ?_
      rotate_left
      · intro w' hSw
        (try dsimp only at hSw)
        (try simp only [List.getElem_toArray]); (try simp only [List.getElem_cons_succ]); (try simp only [List.getElem_cons_zero])
        go_simp
        try with_reducible rfl
      (try simp only [Act.put]); (try simp only [List.setIfInBounds_toArray]); (try simp only [List.set_cons_succ]); (try simp only [List.set_cons_zero])
      refine wpAnyH_ready (rs := [9]) (by kernel_rfl) (by simp) ?_
      refine AllReadyH.cons rfl (fun K hK => ?_) AllReadyH.nil
      go_simp
      go_fit (sSeen_c _ v ca' cb' (rGSeen_lawful.nix rA ((Keep.refl Nix wr).drew)) (rGSeen_lawful.nix rB ((Keep.refl Nix wr).drew)))
      rintro e w2 ⟨rfl, k2⟩
      replace kk := kk.drew.trans k2
      replace hcA := fun j u hu => (k2.cell (p := ⟨b1, o1 + k * 3 + j, none⟩) hb1 id).trans (hcA j u hu)
      replace hcB := fun j u hu => (k2.cell (p := ⟨b2, o2 + k * 3 + j, none⟩) hb2 id).trans (hcB j u hu)
      clear k2 rA rB
      go_wp2_with fail
      refine hK.out _ _ ⟨Whole.at S_Seen hlA.out hcA, Whole.at S_Seen hlB.out hcB⟩ (fun hHeld => ?_)
      clear hK K
      (try simp only [Act.put]); (try simp only [List.setIfInBounds_toArray]); (try simp only [List.set_cons_succ]); (try simp only [List.set_cons_zero])
      refine wpAnyH_take (i := 10) (v := ?_) rfl (by kernel_rfl) (by kernel_rfl) (by kernel_rfl) (fun _ _ _ h => h) (Or.inl ⟨by rfl, ?_⟩) hHeld ?_
      rotate_left
      · intro w' hSw
        (try dsimp only at hSw)
        go_simp
        try with_reducible rfl
      (try simp only [Act.put]); (try simp only [List.setIfInBounds_toArray]); (try simp only [List.set_cons_succ]); (try simp only [List.set_cons_zero])
      refine wpAnyH_done (by kernel_rfl) ?_ _
      clear hHeld
      go_wp2
      go_roundw
      case rel => exact ⟨k + 1, by omega, by go_num, rfl, kk⟩
      case measure => simp [intOf]; omega
    · obtain rfl : k = l.length := by omega
      go_wp2_with fail
      go_ret
      exact ⟨rfl, kk⟩
end
set_option maxRecDepth 100000 in
set_option maxHeartbeats 8000000 in
theorem sWrite_c {p q : Nat → Prop} (w : World) (x : GWrite) (ca cb : List Value) (ha : rGWrite w p ca x) (hb : rGWrite w q cb x) : Calls Tryz.prog 64 #[.agg ca.toArray, .agg cb.toArray] w fun e w' => e = .returned (.bool true) ∧ Keep Nix w w' := by
  obtain ⟨apKey, cpKey, apValue, cpValue, rfl, h0, h1, -⟩ := rGWrite_open ha
  obtain ⟨aqKey, cqKey, aqValue, cqValue, rfl, g0, g1, -⟩ := rGWrite_open hb
  have hsz : (w.alloc (.cells #[.slice apKey x.fKey.length cpKey, .slice apValue x.fValue.length cpValue, .bool x.fDrop] 122)).heap.size = w.heap.size + 1 := by simp
  have rowA : RowIs ((w.alloc (.cells #[.slice apKey x.fKey.length cpKey, .slice apValue x.fValue.length cpValue, .bool x.fDrop] 122)).alloc (.cells #[.slice aqKey x.fKey.length cqKey, .slice aqValue x.fValue.length cqValue, .bool x.fDrop] 122)) w.heap.size 122 [.slice apKey x.fKey.length cpKey, .slice apValue x.fValue.length cpValue, .bool x.fDrop] := (RowIs.alloc w _ _).keep ((Keep.refl Nix _).alloc _) id
  have rowB : RowIs ((w.alloc (.cells #[.slice apKey x.fKey.length cpKey, .slice apValue x.fValue.length cpValue, .bool x.fDrop] 122)).alloc (.cells #[.slice aqKey x.fKey.length cqKey, .slice aqValue x.fValue.length cqValue, .bool x.fDrop] 122)) (w.heap.size + 1) 122 [.slice aqKey x.fKey.length cqKey, .slice aqValue x.fValue.length cqValue, .bool x.fDrop] := by
    rw [← hsz]
    exact RowIs.alloc (w.alloc (.cells #[.slice apKey x.fKey.length cpKey, .slice apValue x.fValue.length cpValue, .bool x.fDrop] 122)) _ _
  have kk : Keep Nix w ((w.alloc (.cells #[.slice apKey x.fKey.length cpKey, .slice apValue x.fValue.length cpValue, .bool x.fDrop] 122)).alloc (.cells #[.slice aqKey x.fKey.length cqKey, .slice aqValue x.fValue.length cqValue, .bool x.fDrop] 122)) := ((Keep.refl Nix w).alloc _).alloc _
  clear hsz ha hb
  replace h0 := h0.1.keep kk (fun _ _ h => h)
  replace g0 := g0.1.keep kk (fun _ _ h => h)
  replace h1 := h1.1.keep kk (fun _ _ h => h)
  replace g1 := g1.1.keep kk (fun _ _ h => h)
  go_enter Tryz.func64, Tryz.ntmps64
  go_wp2_with fail
  go_fit (bytesT_c _ _ _ _ _ _ x.fKey _ rfl rfl h0 g0)
  rintro e w1' ⟨rfl, rfl⟩
  clear h0 g0
  have xa1 : ((w.alloc (.cells #[.slice apKey x.fKey.length cpKey, .slice apValue x.fValue.length cpValue, .bool x.fDrop] 122)).alloc (.cells #[.slice aqKey x.fKey.length cqKey, .slice aqValue x.fValue.length cqValue, .bool x.fDrop] 122)).cell? ⟨w.heap.size, 1, none⟩ = some (.slice apValue x.fValue.length cpValue) := rowA.cell 1
  have xb1 : ((w.alloc (.cells #[.slice apKey x.fKey.length cpKey, .slice apValue x.fValue.length cpValue, .bool x.fDrop] 122)).alloc (.cells #[.slice aqKey x.fKey.length cqKey, .slice aqValue x.fValue.length cqValue, .bool x.fDrop] 122)).cell? ⟨w.heap.size + 1, 1, none⟩ = some (.slice aqValue x.fValue.length cqValue) := rowB.cell 1
  go_wp2_with fail
  clear xa1 xb1
  go_fit (bytesT_c _ _ _ _ _ _ x.fValue _ rfl rfl h1 g1)
  rintro e w2' ⟨rfl, rfl⟩
  clear h1 g1
  have xa2 : ((w.alloc (.cells #[.slice apKey x.fKey.length cpKey, .slice apValue x.fValue.length cpValue, .bool x.fDrop] 122)).alloc (.cells #[.slice aqKey x.fKey.length cqKey, .slice aqValue x.fValue.length cqValue, .bool x.fDrop] 122)).cell? ⟨w.heap.size, 2, none⟩ = some (.bool x.fDrop) := rowA.cell 2
  have xb2 : ((w.alloc (.cells #[.slice apKey x.fKey.length cpKey, .slice apValue x.fValue.length cpValue, .bool x.fDrop] 122)).alloc (.cells #[.slice aqKey x.fKey.length cqKey, .slice aqValue x.fValue.length cqValue, .bool x.fDrop] 122)).cell? ⟨w.heap.size + 1, 2, none⟩ = some (.bool x.fDrop) := rowB.cell 2
  go_wp2
  go_ret
  exact ⟨by first | rfl | simp, kk⟩
theorem lds_Write (a : Act) (dst : Option Tmp) (x : Operand) (ty : TypeId) (pos : String) (after : Array Edge) (guard : Option (Nat × Bool)) : execOp a.eval { dst := dst, op := .load 122 x, type := ty, pos := pos, after := after, guard := guard } = wholeSem 122 (a.eval x) := rfl
section
attribute [local go_sem ↓] lds_Write
set_option maxRecDepth 100000 in
set_option maxHeartbeats 4000000 in
theorem sm_Write {p q : Nat → Prop} (w : World) (l : List GWrite) (a b : Option Addr) (n ca m cb : Nat) (ha : rList rGWrite w p [.slice a n ca] l) (hb : rList rGWrite w q [.slice b m cb] l) :
    Calls Tryz.prog 63 #[.slice a n ca, .slice b m cb, .func (.func 64) #[] #[]] w fun e w' => e = .returned (.bool true) ∧ Keep Nix w w' := by
  obtain ⟨hn, -, hf⟩ := rList_len ha
  obtain ⟨hm, -, -⟩ := rList_len hb
  subst hn hm
  have hfar : l.length ≤ 9223372036854775807 := by have := far_len; unfold maxLen at this; omega
  clear hf
  have kk0 : Keep Nix w w := Keep.refl _ _
  go_enter Tryz.func63, Tryz.ntmps63
  go_wp2_with fail
  go_loopw [6, 7] (fun r i wr => ∃ k : Nat, k ≤ l.length ∧ i = .int .i64 k ∧ r = .bool false ∧ Keep Nix w wr) (fun _ i _ => l.length - (intOf i).toNat)
  case atStart => exact ⟨0, by omega, rfl, rfl, kk0⟩
  case round =>
    clear kk0
    obtain ⟨k, hk, rfl, rfl, kk⟩ := hrel
    by_cases hlt : k < l.length
    · have hi0 : (0 : Int) ≤ (k : Int) := by omega
      have hi1 : (k : Int) < (l.length : Int) := by omega
      obtain ⟨b1, o1, c1, ca', e1, -, hb1, rA, hcA⟩ := rList_at rGWrite_lawful (by decide) ((rList_lawful rGWrite_lawful).nix ha kk) k hlt
      obtain ⟨b2, o2, c2, cb', e2, -, hb2, rB, hcB⟩ := rList_at rGWrite_lawful (by decide) ((rList_lawful rGWrite_lawful).nix hb kk) k hlt
      simp only [List.cons.injEq, Value.slice.injEq, and_true] at e1 e2
      obtain ⟨e1, -, -⟩ := e1
      obtain ⟨e2, -, -⟩ := e2
      subst e1 e2
      clear ha hb
      have hlA := Lib.hid (rGWrite_lawful.len rA)
      have hlB := Lib.hid (rGWrite_lawful.len rB)
      generalize hv : l[k] = v at rA rB
      clear hv
      go_wp2_with fail
      refine wp_region_held_drew (S := (fun w' => (wholeSem 122 (.pointer (some ⟨b1, o1 + k * 3, none⟩))).run Tryz.prog w' = .ok (.value (.agg ca'.toArray)) w' ∧ (wholeSem 122 (.pointer (some ⟨b2, o2 + k * 3, none⟩))).run Tryz.prog w' = .ok (.value (.agg cb'.toArray)) w')) (by kernel_rfl) ⟨Whole.at (w := wr.drew) S_Write hlA.out hcA, Whole.at (w := wr.drew) S_Write hlB.out hcB⟩ (fun hHeld => ?_)
      refine wpAnyH_take (i := 0) (v := ?_) rfl (by kernel_rfl) (by kernel_rfl) (by kernel_rfl) (fun _ _ _ h => h) (Or.inl ⟨by rfl, ?_⟩) hHeld ?_
      rotate_left
      · intro w' hSw
        (try dsimp only at hSw)
        go_simp
        try with_reducible rfl
      (try simp only [Act.put]); (try simp only [List.setIfInBounds_toArray]); (try simp only [List.set_cons_succ]); (try simp only [List.set_cons_zero])
      refine wpAnyH_take (i := 1) (v := ?_) rfl (by kernel_rfl) (by kernel_rfl) (by kernel_rfl) (fun _ _ _ h => h) (Or.inl ⟨by rfl, ?_⟩) hHeld ?_
      rotate_left
      · intro w' hSw
        (try dsimp only at hSw)
        go_simp
        try with_reducible rfl
      (try simp only [Act.put]); (try simp only [List.setIfInBounds_toArray]); (try simp only [List.set_cons_succ]); (try simp only [List.set_cons_zero])
      refine wpAnyH_take (i := 2) (v := ?_) rfl (by kernel_rfl) (by kernel_rfl) (by kernel_rfl) (fun _ _ _ h => h) (Or.inl ⟨by rfl, ?_⟩) hHeld ?_
      rotate_left
      · intro w' hSw
        (try dsimp only at hSw)
        go_simp
        try with_reducible rfl
      (try simp only [Act.put]); (try simp only [List.setIfInBounds_toArray]); (try simp only [List.set_cons_succ]); (try simp only [List.set_cons_zero])
      refine wpAnyH_take (i := 3) (v := ?_) rfl (by kernel_rfl) (by kernel_rfl) (by kernel_rfl) (fun _ _ _ h => h) (Or.inl ⟨by rfl, ?_⟩) hHeld ?_
      rotate_left
      · intro w' hSw
        (try dsimp only at hSw)
        go_simp
        try with_reducible rfl
      (try simp only [Act.put]); (try simp only [List.setIfInBounds_toArray]); (try simp only [List.set_cons_succ]); (try simp only [List.set_cons_zero])
      refine wpAnyH_take (i := 4) (v := ?_) rfl (by kernel_rfl) (by kernel_rfl) (by kernel_rfl) (fun _ _ _ h => h) (Or.inl ⟨by rfl, ?_⟩) hHeld ?_
      rotate_left
      · intro w' hSw
        (try dsimp only at hSw)
        (try simp only [List.getElem_toArray]); (try simp only [List.getElem_cons_succ]); (try simp only [List.getElem_cons_zero])
        go_simp
        try with_reducible rfl
      (try simp only [Act.put]); (try simp only [List.setIfInBounds_toArray]); (try simp only [List.set_cons_succ]); (try simp only [List.set_cons_zero])
      refine wpAnyH_take (i := 5) (v := ?_) rfl (by kernel_rfl) (by kernel_rfl) (by kernel_rfl) (fun _ _ _ h => h) (Or.inl ⟨by rfl, ?_⟩) hHeld ?_
      rotate_left
      · intro w' hSw
        (try dsimp only at hSw)
        go_simp
        try with_reducible rfl
      (try simp only [Act.put]); (try simp only [List.setIfInBounds_toArray]); (try simp only [List.set_cons_succ]); (try simp only [List.set_cons_zero])
      refine wpAnyH_take (i := 6) (v := ?_) rfl (by kernel_rfl) (by kernel_rfl) (by kernel_rfl) (fun _ _ _ h => h) (Or.inl ⟨by rfl, ?_⟩) hHeld ?_
      rotate_left
      · intro w' hSw
        (try dsimp only at hSw)
        go_simp
        try with_reducible rfl
      (try simp only [Act.put]); (try simp only [List.setIfInBounds_toArray]); (try simp only [List.set_cons_succ]); (try simp only [List.set_cons_zero])
      refine wpAnyH_take (i := 7) (v := ?_) rfl (by kernel_rfl) (by kernel_rfl) (by kernel_rfl) (fun _ _ _ h => h) (Or.inl ⟨by rfl, ?_⟩) hHeld ?_
      rotate_left
      · intro w' hSw
        (try dsimp only at hSw)
        go_simp
        try with_reducible rfl
      (try simp only [Act.put]); (try simp only [List.setIfInBounds_toArray]); (try simp only [List.set_cons_succ]); (try simp only [List.set_cons_zero])
      refine wpAnyH_take (i := 8) (v := ?_) rfl (by kernel_rfl) (by kernel_rfl) (by kernel_rfl) (fun _ _ _ h => h) (Or.inl ⟨by rfl, ?_⟩) hHeld ?_
      rotate_left
      · intro w' hSw
        (try dsimp only at hSw)
        (try simp only [List.getElem_toArray]); (try simp only [List.getElem_cons_succ]); (try simp only [List.getElem_cons_zero])
        go_simp
        try with_reducible rfl
      (try simp only [Act.put]); (try simp only [List.setIfInBounds_toArray]); (try simp only [List.set_cons_succ]); (try simp only [List.set_cons_zero])
      refine wpAnyH_ready (rs := [9]) (by kernel_rfl) (by simp) ?_
      refine AllReadyH.cons rfl (fun K hK => ?_) AllReadyH.nil
      go_simp
      go_fit (sWrite_c _ v ca' cb' (rGWrite_lawful.nix rA ((Keep.refl Nix wr).drew)) (rGWrite_lawful.nix rB ((Keep.refl Nix wr).drew)))
      rintro e w2 ⟨rfl, k2⟩
      replace kk := kk.drew.trans k2
      replace hcA := fun j u hu => (k2.cell (p := ⟨b1, o1 + k * 3 + j, none⟩) hb1 id).trans (hcA j u hu)
      replace hcB := fun j u hu => (k2.cell (p := ⟨b2, o2 + k * 3 + j, none⟩) hb2 id).trans (hcB j u hu)
      clear k2 rA rB
      go_wp2_with fail
      refine hK.out _ _ ⟨Whole.at S_Write hlA.out hcA, Whole.at S_Write hlB.out hcB⟩ (fun hHeld => ?_)
      clear hK K
      (try simp only [Act.put]); (try simp only [List.setIfInBounds_toArray]); (try simp only [List.set_cons_succ]); (try simp only [List.set_cons_zero])
      refine wpAnyH_take (i := 10) (v := ?_) rfl (by kernel_rfl) (by kernel_rfl) (by kernel_rfl) (fun _ _ _ h => h) (Or.inl ⟨by rfl, ?_⟩) hHeld ?_
      rotate_left
      · intro w' hSw
        (try dsimp only at hSw)
        go_simp
        try with_reducible rfl
      (try simp only [Act.put]); (try simp only [List.setIfInBounds_toArray]); (try simp only [List.set_cons_succ]); (try simp only [List.set_cons_zero])
      refine wpAnyH_done (by kernel_rfl) ?_ _
      clear hHeld
      go_wp2
      go_roundw
      case rel => exact ⟨k + 1, by omega, by go_num, rfl, kk⟩
      case measure => simp [intOf]; omega
    · obtain rfl : k = l.length := by omega
      go_wp2_with fail
      go_ret
      exact ⟨rfl, kk⟩
end
set_option maxRecDepth 100000 in
set_option maxHeartbeats 8000000 in
theorem sTable_c {p q : Nat → Prop} (w : World) (x : GTable) (ca cb : List Value) (ha : rGTable w p ca x) (hb : rGTable w q cb x) : Calls Tryz.prog 65 #[.agg ca.toArray, .agg cb.toArray] w fun e w' => e = .returned (.bool true) ∧ Keep Nix w w' := by
  obtain ⟨apColumns, cpColumns, apKey, cpKey, rfl, h0, h1, h2, h3, -⟩ := rGTable_open ha
  obtain ⟨aqColumns, cqColumns, aqKey, cqKey, rfl, g0, g1, g2, g3, -⟩ := rGTable_open hb
  have hsz : (w.alloc (.cells #[.int .i64 x.fID, .string (strB x.fName), .slice apColumns x.fColumns.length cpColumns, .slice apKey x.fKey.length cpKey] 39)).heap.size = w.heap.size + 1 := by simp
  have rowA : RowIs ((w.alloc (.cells #[.int .i64 x.fID, .string (strB x.fName), .slice apColumns x.fColumns.length cpColumns, .slice apKey x.fKey.length cpKey] 39)).alloc (.cells #[.int .i64 x.fID, .string (strB x.fName), .slice aqColumns x.fColumns.length cqColumns, .slice aqKey x.fKey.length cqKey] 39)) w.heap.size 39 [.int .i64 x.fID, .string (strB x.fName), .slice apColumns x.fColumns.length cpColumns, .slice apKey x.fKey.length cpKey] := (RowIs.alloc w _ _).keep ((Keep.refl Nix _).alloc _) id
  have rowB : RowIs ((w.alloc (.cells #[.int .i64 x.fID, .string (strB x.fName), .slice apColumns x.fColumns.length cpColumns, .slice apKey x.fKey.length cpKey] 39)).alloc (.cells #[.int .i64 x.fID, .string (strB x.fName), .slice aqColumns x.fColumns.length cqColumns, .slice aqKey x.fKey.length cqKey] 39)) (w.heap.size + 1) 39 [.int .i64 x.fID, .string (strB x.fName), .slice aqColumns x.fColumns.length cqColumns, .slice aqKey x.fKey.length cqKey] := by
    rw [← hsz]
    exact RowIs.alloc (w.alloc (.cells #[.int .i64 x.fID, .string (strB x.fName), .slice apColumns x.fColumns.length cpColumns, .slice apKey x.fKey.length cpKey] 39)) _ _
  have kk : Keep Nix w ((w.alloc (.cells #[.int .i64 x.fID, .string (strB x.fName), .slice apColumns x.fColumns.length cpColumns, .slice apKey x.fKey.length cpKey] 39)).alloc (.cells #[.int .i64 x.fID, .string (strB x.fName), .slice aqColumns x.fColumns.length cqColumns, .slice aqKey x.fKey.length cqKey] 39)) := ((Keep.refl Nix w).alloc _).alloc _
  clear hsz ha hb
  clear h0 g0
  clear h1 g1
  replace h2 := (rList_lawful rGColumn_lawful).nix h2 kk
  replace g2 := (rList_lawful rGColumn_lawful).nix g2 kk
  replace h3 := (rList_lawful (rInt_lawful _)).nix h3 kk
  replace g3 := (rList_lawful (rInt_lawful _)).nix g3 kk
  go_enter Tryz.func65, Tryz.ntmps65
  go_wp2_with fail
  go_fit (pl_Column _ x.fColumns _ _ _ _ _ _ h2 g2)
  rintro e w1 ⟨rfl, k1⟩
  replace rowA := rowA.keep k1 id
  replace rowB := rowB.keep k1 id
  replace kk := kk.trans k1
  replace h3 := (rList_lawful (rInt_lawful _)).nix h3 k1
  replace g3 := (rList_lawful (rInt_lawful _)).nix g3 k1
  clear k1
  clear h2 g2
  have xa3 : w1.cell? ⟨w.heap.size, 3, none⟩ = some (.slice apKey x.fKey.length cpKey) := rowA.cell 3
  have xb3 : w1.cell? ⟨w.heap.size + 1, 3, none⟩ = some (.slice aqKey x.fKey.length cqKey) := rowB.cell 3
  go_wp2_with fail
  clear xa3 xb3
  go_fit (pl_int _ x.fKey _ _ _ _ _ _ h3 g3)
  rintro e w2 ⟨rfl, k1⟩
  replace rowA := rowA.keep k1 id
  replace rowB := rowB.keep k1 id
  replace kk := kk.trans k1
  clear k1
  clear h3 g3
  go_wp2
  go_ret
  exact ⟨by first | rfl | simp, kk⟩
theorem lds_Table (a : Act) (dst : Option Tmp) (x : Operand) (ty : TypeId) (pos : String) (after : Array Edge) (guard : Option (Nat × Bool)) : execOp a.eval { dst := dst, op := .load 39 x, type := ty, pos := pos, after := after, guard := guard } = wholeSem 39 (a.eval x) := rfl
section
attribute [local go_sem ↓] lds_Table
set_option maxRecDepth 100000 in
set_option maxHeartbeats 4000000 in
theorem sm_Table {p q : Nat → Prop} (w : World) (l : List GTable) (a b : Option Addr) (n ca m cb : Nat) (ha : rList rGTable w p [.slice a n ca] l) (hb : rList rGTable w q [.slice b m cb] l) :
    Calls Tryz.prog 69 #[.slice a n ca, .slice b m cb, .func (.func 65) #[] #[]] w fun e w' => e = .returned (.bool true) ∧ Keep Nix w w' := by
  obtain ⟨hn, -, hf⟩ := rList_len ha
  obtain ⟨hm, -, -⟩ := rList_len hb
  subst hn hm
  have hfar : l.length ≤ 9223372036854775807 := by have := far_len; unfold maxLen at this; omega
  clear hf
  have kk0 : Keep Nix w w := Keep.refl _ _
  go_enter Tryz.func69, Tryz.ntmps69
  go_wp2_with fail
  go_loopw [6, 7] (fun r i wr => ∃ k : Nat, k ≤ l.length ∧ i = .int .i64 k ∧ r = .bool false ∧ Keep Nix w wr) (fun _ i _ => l.length - (intOf i).toNat)
  case atStart => exact ⟨0, by omega, rfl, rfl, kk0⟩
  case round =>
    clear kk0
    obtain ⟨k, hk, rfl, rfl, kk⟩ := hrel
    by_cases hlt : k < l.length
    · have hi0 : (0 : Int) ≤ (k : Int) := by omega
      have hi1 : (k : Int) < (l.length : Int) := by omega
      obtain ⟨b1, o1, c1, ca', e1, -, hb1, rA, hcA⟩ := rList_at rGTable_lawful (by decide) ((rList_lawful rGTable_lawful).nix ha kk) k hlt
      obtain ⟨b2, o2, c2, cb', e2, -, hb2, rB, hcB⟩ := rList_at rGTable_lawful (by decide) ((rList_lawful rGTable_lawful).nix hb kk) k hlt
      simp only [List.cons.injEq, Value.slice.injEq, and_true] at e1 e2
      obtain ⟨e1, -, -⟩ := e1
      obtain ⟨e2, -, -⟩ := e2
      subst e1 e2
      clear ha hb
      have hlA := Lib.hid (rGTable_lawful.len rA)
      have hlB := Lib.hid (rGTable_lawful.len rB)
      generalize hv : l[k] = v at rA rB
      clear hv
      go_wp2_with fail
      refine wp_region_held_drew (S := (fun w' => (wholeSem 39 (.pointer (some ⟨b1, o1 + k * 4, none⟩))).run Tryz.prog w' = .ok (.value (.agg ca'.toArray)) w' ∧ (wholeSem 39 (.pointer (some ⟨b2, o2 + k * 4, none⟩))).run Tryz.prog w' = .ok (.value (.agg cb'.toArray)) w')) (by kernel_rfl) ⟨Whole.at (w := wr.drew) S_Table hlA.out hcA, Whole.at (w := wr.drew) S_Table hlB.out hcB⟩ (fun hHeld => ?_)
      refine wpAnyH_take (i := 0) (v := ?_) rfl (by kernel_rfl) (by kernel_rfl) (by kernel_rfl) (fun _ _ _ h => h) (Or.inl ⟨by rfl, ?_⟩) hHeld ?_
      rotate_left
      · intro w' hSw
        (try dsimp only at hSw)
        go_simp
        try with_reducible rfl
      (try simp only [Act.put]); (try simp only [List.setIfInBounds_toArray]); (try simp only [List.set_cons_succ]); (try simp only [List.set_cons_zero])
      refine wpAnyH_take (i := 1) (v := ?_) rfl (by kernel_rfl) (by kernel_rfl) (by kernel_rfl) (fun _ _ _ h => h) (Or.inl ⟨by rfl, ?_⟩) hHeld ?_
      rotate_left
      · intro w' hSw
        (try dsimp only at hSw)
        go_simp
        try with_reducible rfl
      (try simp only [Act.put]); (try simp only [List.setIfInBounds_toArray]); (try simp only [List.set_cons_succ]); (try simp only [List.set_cons_zero])
      refine wpAnyH_take (i := 2) (v := ?_) rfl (by kernel_rfl) (by kernel_rfl) (by kernel_rfl) (fun _ _ _ h => h) (Or.inl ⟨by rfl, ?_⟩) hHeld ?_
      rotate_left
      · intro w' hSw
        (try dsimp only at hSw)
        go_simp
        try with_reducible rfl
      (try simp only [Act.put]); (try simp only [List.setIfInBounds_toArray]); (try simp only [List.set_cons_succ]); (try simp only [List.set_cons_zero])
      refine wpAnyH_take (i := 3) (v := ?_) rfl (by kernel_rfl) (by kernel_rfl) (by kernel_rfl) (fun _ _ _ h => h) (Or.inl ⟨by rfl, ?_⟩) hHeld ?_
      rotate_left
      · intro w' hSw
        (try dsimp only at hSw)
        go_simp
        try with_reducible rfl
      (try simp only [Act.put]); (try simp only [List.setIfInBounds_toArray]); (try simp only [List.set_cons_succ]); (try simp only [List.set_cons_zero])
      refine wpAnyH_take (i := 4) (v := ?_) rfl (by kernel_rfl) (by kernel_rfl) (by kernel_rfl) (fun _ _ _ h => h) (Or.inl ⟨by rfl, ?_⟩) hHeld ?_
      rotate_left
      · intro w' hSw
        (try dsimp only at hSw)
        (try simp only [List.getElem_toArray]); (try simp only [List.getElem_cons_succ]); (try simp only [List.getElem_cons_zero])
        go_simp
        try with_reducible rfl
      (try simp only [Act.put]); (try simp only [List.setIfInBounds_toArray]); (try simp only [List.set_cons_succ]); (try simp only [List.set_cons_zero])
      refine wpAnyH_take (i := 5) (v := ?_) rfl (by kernel_rfl) (by kernel_rfl) (by kernel_rfl) (fun _ _ _ h => h) (Or.inl ⟨by rfl, ?_⟩) hHeld ?_
      rotate_left
      · intro w' hSw
        (try dsimp only at hSw)
        go_simp
        try with_reducible rfl
      (try simp only [Act.put]); (try simp only [List.setIfInBounds_toArray]); (try simp only [List.set_cons_succ]); (try simp only [List.set_cons_zero])
      refine wpAnyH_take (i := 6) (v := ?_) rfl (by kernel_rfl) (by kernel_rfl) (by kernel_rfl) (fun _ _ _ h => h) (Or.inl ⟨by rfl, ?_⟩) hHeld ?_
      rotate_left
      · intro w' hSw
        (try dsimp only at hSw)
        go_simp
        try with_reducible rfl
      (try simp only [Act.put]); (try simp only [List.setIfInBounds_toArray]); (try simp only [List.set_cons_succ]); (try simp only [List.set_cons_zero])
      refine wpAnyH_take (i := 7) (v := ?_) rfl (by kernel_rfl) (by kernel_rfl) (by kernel_rfl) (fun _ _ _ h => h) (Or.inl ⟨by rfl, ?_⟩) hHeld ?_
      rotate_left
      · intro w' hSw
        (try dsimp only at hSw)
        go_simp
        try with_reducible rfl
      (try simp only [Act.put]); (try simp only [List.setIfInBounds_toArray]); (try simp only [List.set_cons_succ]); (try simp only [List.set_cons_zero])
      refine wpAnyH_take (i := 8) (v := ?_) rfl (by kernel_rfl) (by kernel_rfl) (by kernel_rfl) (fun _ _ _ h => h) (Or.inl ⟨by rfl, ?_⟩) hHeld ?_
      rotate_left
      · intro w' hSw
        (try dsimp only at hSw)
        (try simp only [List.getElem_toArray]); (try simp only [List.getElem_cons_succ]); (try simp only [List.getElem_cons_zero])
        go_simp
        try with_reducible rfl
      (try simp only [Act.put]); (try simp only [List.setIfInBounds_toArray]); (try simp only [List.set_cons_succ]); (try simp only [List.set_cons_zero])
      refine wpAnyH_ready (rs := [9]) (by kernel_rfl) (by simp) ?_
      refine AllReadyH.cons rfl (fun K hK => ?_) AllReadyH.nil
      go_simp
      go_fit (sTable_c _ v ca' cb' (rGTable_lawful.nix rA ((Keep.refl Nix wr).drew)) (rGTable_lawful.nix rB ((Keep.refl Nix wr).drew)))
      rintro e w2 ⟨rfl, k2⟩
      replace kk := kk.drew.trans k2
      replace hcA := fun j u hu => (k2.cell (p := ⟨b1, o1 + k * 4 + j, none⟩) hb1 id).trans (hcA j u hu)
      replace hcB := fun j u hu => (k2.cell (p := ⟨b2, o2 + k * 4 + j, none⟩) hb2 id).trans (hcB j u hu)
      clear k2 rA rB
      go_wp2_with fail
      refine hK.out _ _ ⟨Whole.at S_Table hlA.out hcA, Whole.at S_Table hlB.out hcB⟩ (fun hHeld => ?_)
      clear hK K
      (try simp only [Act.put]); (try simp only [List.setIfInBounds_toArray]); (try simp only [List.set_cons_succ]); (try simp only [List.set_cons_zero])
      refine wpAnyH_take (i := 10) (v := ?_) rfl (by kernel_rfl) (by kernel_rfl) (by kernel_rfl) (fun _ _ _ h => h) (Or.inl ⟨by rfl, ?_⟩) hHeld ?_
      rotate_left
      · intro w' hSw
        (try dsimp only at hSw)
        go_simp
        try with_reducible rfl
      (try simp only [Act.put]); (try simp only [List.setIfInBounds_toArray]); (try simp only [List.set_cons_succ]); (try simp only [List.set_cons_zero])
      refine wpAnyH_done (by kernel_rfl) ?_ _
      clear hHeld
      go_wp2
      go_roundw
      case rel => exact ⟨k + 1, by omega, by go_num, rfl, kk⟩
      case measure => simp [intOf]; omega
    · obtain rfl : k = l.length := by omega
      go_wp2_with fail
      go_ret
      exact ⟨rfl, kk⟩
end
set_option maxRecDepth 100000 in
set_option maxHeartbeats 8000000 in
theorem sIndex_c {p q : Nat → Prop} (w : World) (x : GIndex) (ca cb : List Value) (ha : rGIndex w p ca x) (hb : rGIndex w q cb x) : Calls Tryz.prog 66 #[.agg ca.toArray, .agg cb.toArray] w fun e w' => e = .returned (.bool true) ∧ Keep Nix w w' := by
  obtain ⟨apColumns, cpColumns, rfl, h0, h1, h2, h3, h5, -⟩ := rGIndex_open ha
  obtain ⟨aqColumns, cqColumns, rfl, g0, g1, g2, g3, g5, -⟩ := rGIndex_open hb
  have hsz : (w.alloc (.cells #[.int .i64 x.fID, .int .i64 x.fTable, .string (strB x.fName), .slice apColumns x.fColumns.length cpColumns, .bool x.fUnique, .int .i64 x.fState, .bool x.fBad] 41)).heap.size = w.heap.size + 1 := by simp
  have rowA : RowIs ((w.alloc (.cells #[.int .i64 x.fID, .int .i64 x.fTable, .string (strB x.fName), .slice apColumns x.fColumns.length cpColumns, .bool x.fUnique, .int .i64 x.fState, .bool x.fBad] 41)).alloc (.cells #[.int .i64 x.fID, .int .i64 x.fTable, .string (strB x.fName), .slice aqColumns x.fColumns.length cqColumns, .bool x.fUnique, .int .i64 x.fState, .bool x.fBad] 41)) w.heap.size 41 [.int .i64 x.fID, .int .i64 x.fTable, .string (strB x.fName), .slice apColumns x.fColumns.length cpColumns, .bool x.fUnique, .int .i64 x.fState, .bool x.fBad] := (RowIs.alloc w _ _).keep ((Keep.refl Nix _).alloc _) id
  have rowB : RowIs ((w.alloc (.cells #[.int .i64 x.fID, .int .i64 x.fTable, .string (strB x.fName), .slice apColumns x.fColumns.length cpColumns, .bool x.fUnique, .int .i64 x.fState, .bool x.fBad] 41)).alloc (.cells #[.int .i64 x.fID, .int .i64 x.fTable, .string (strB x.fName), .slice aqColumns x.fColumns.length cqColumns, .bool x.fUnique, .int .i64 x.fState, .bool x.fBad] 41)) (w.heap.size + 1) 41 [.int .i64 x.fID, .int .i64 x.fTable, .string (strB x.fName), .slice aqColumns x.fColumns.length cqColumns, .bool x.fUnique, .int .i64 x.fState, .bool x.fBad] := by
    rw [← hsz]
    exact RowIs.alloc (w.alloc (.cells #[.int .i64 x.fID, .int .i64 x.fTable, .string (strB x.fName), .slice apColumns x.fColumns.length cpColumns, .bool x.fUnique, .int .i64 x.fState, .bool x.fBad] 41)) _ _
  have kk : Keep Nix w ((w.alloc (.cells #[.int .i64 x.fID, .int .i64 x.fTable, .string (strB x.fName), .slice apColumns x.fColumns.length cpColumns, .bool x.fUnique, .int .i64 x.fState, .bool x.fBad] 41)).alloc (.cells #[.int .i64 x.fID, .int .i64 x.fTable, .string (strB x.fName), .slice aqColumns x.fColumns.length cqColumns, .bool x.fUnique, .int .i64 x.fState, .bool x.fBad] 41)) := ((Keep.refl Nix w).alloc _).alloc _
  clear hsz ha hb
  clear h0 g0
  clear h1 g1
  clear h2 g2
  replace h3 := (rList_lawful (rInt_lawful _)).nix h3 kk
  replace g3 := (rList_lawful (rInt_lawful _)).nix g3 kk
  clear h5 g5
  go_enter Tryz.func66, Tryz.ntmps66
  go_wp2_with fail
  go_fit (pl_int _ x.fColumns _ _ _ _ _ _ h3 g3)
  rintro e w1 ⟨rfl, k1⟩
  replace rowA := rowA.keep k1 id
  replace rowB := rowB.keep k1 id
  replace kk := kk.trans k1
  clear k1
  clear h3 g3
  have xa4 : w1.cell? ⟨w.heap.size, 4, none⟩ = some (.bool x.fUnique) := rowA.cell 4
  have xb4 : w1.cell? ⟨w.heap.size + 1, 4, none⟩ = some (.bool x.fUnique) := rowB.cell 4
  have xa5 : w1.cell? ⟨w.heap.size, 5, none⟩ = some (.int .i64 x.fState) := rowA.cell 5
  have xb5 : w1.cell? ⟨w.heap.size + 1, 5, none⟩ = some (.int .i64 x.fState) := rowB.cell 5
  have xa6 : w1.cell? ⟨w.heap.size, 6, none⟩ = some (.bool x.fBad) := rowA.cell 6
  have xb6 : w1.cell? ⟨w.heap.size + 1, 6, none⟩ = some (.bool x.fBad) := rowB.cell 6
  go_wp2
  go_ret
  exact ⟨by first | rfl | simp, kk⟩
theorem lds_Index (a : Act) (dst : Option Tmp) (x : Operand) (ty : TypeId) (pos : String) (after : Array Edge) (guard : Option (Nat × Bool)) : execOp a.eval { dst := dst, op := .load 41 x, type := ty, pos := pos, after := after, guard := guard } = wholeSem 41 (a.eval x) := rfl
section
attribute [local go_sem ↓] lds_Index
set_option maxRecDepth 100000 in
set_option maxHeartbeats 4000000 in
theorem sm_Index {p q : Nat → Prop} (w : World) (l : List GIndex) (a b : Option Addr) (n ca m cb : Nat) (ha : rList rGIndex w p [.slice a n ca] l) (hb : rList rGIndex w q [.slice b m cb] l) :
    Calls Tryz.prog 70 #[.slice a n ca, .slice b m cb, .func (.func 66) #[] #[]] w fun e w' => e = .returned (.bool true) ∧ Keep Nix w w' := by
  obtain ⟨hn, -, hf⟩ := rList_len ha
  obtain ⟨hm, -, -⟩ := rList_len hb
  subst hn hm
  have hfar : l.length ≤ 9223372036854775807 := by have := far_len; unfold maxLen at this; omega
  clear hf
  have kk0 : Keep Nix w w := Keep.refl _ _
  go_enter Tryz.func70, Tryz.ntmps70
  go_wp2_with fail
  go_loopw [6, 7] (fun r i wr => ∃ k : Nat, k ≤ l.length ∧ i = .int .i64 k ∧ r = .bool false ∧ Keep Nix w wr) (fun _ i _ => l.length - (intOf i).toNat)
  case atStart => exact ⟨0, by omega, rfl, rfl, kk0⟩
  case round =>
    clear kk0
    obtain ⟨k, hk, rfl, rfl, kk⟩ := hrel
    by_cases hlt : k < l.length
    · have hi0 : (0 : Int) ≤ (k : Int) := by omega
      have hi1 : (k : Int) < (l.length : Int) := by omega
      obtain ⟨b1, o1, c1, ca', e1, -, hb1, rA, hcA⟩ := rList_at rGIndex_lawful (by decide) ((rList_lawful rGIndex_lawful).nix ha kk) k hlt
      obtain ⟨b2, o2, c2, cb', e2, -, hb2, rB, hcB⟩ := rList_at rGIndex_lawful (by decide) ((rList_lawful rGIndex_lawful).nix hb kk) k hlt
      simp only [List.cons.injEq, Value.slice.injEq, and_true] at e1 e2
      obtain ⟨e1, -, -⟩ := e1
      obtain ⟨e2, -, -⟩ := e2
      subst e1 e2
      clear ha hb
      have hlA := Lib.hid (rGIndex_lawful.len rA)
      have hlB := Lib.hid (rGIndex_lawful.len rB)
      generalize hv : l[k] = v at rA rB
      clear hv
      go_wp2_with fail
      refine wp_region_held_drew (S := (fun w' => (wholeSem 41 (.pointer (some ⟨b1, o1 + k * 7, none⟩))).run Tryz.prog w' = .ok (.value (.agg ca'.toArray)) w' ∧ (wholeSem 41 (.pointer (some ⟨b2, o2 + k * 7, none⟩))).run Tryz.prog w' = .ok (.value (.agg cb'.toArray)) w')) (by kernel_rfl) ⟨Whole.at (w := wr.drew) S_Index hlA.out hcA, Whole.at (w := wr.drew) S_Index hlB.out hcB⟩ (fun hHeld => ?_)
      refine wpAnyH_take (i := 0) (v := ?_) rfl (by kernel_rfl) (by kernel_rfl) (by kernel_rfl) (fun _ _ _ h => h) (Or.inl ⟨by rfl, ?_⟩) hHeld ?_
      rotate_left
      · intro w' hSw
        (try dsimp only at hSw)
        go_simp
        try with_reducible rfl
      (try simp only [Act.put]); (try simp only [List.setIfInBounds_toArray]); (try simp only [List.set_cons_succ]); (try simp only [List.set_cons_zero])
      refine wpAnyH_take (i := 1) (v := ?_) rfl (by kernel_rfl) (by kernel_rfl) (by kernel_rfl) (fun _ _ _ h => h) (Or.inl ⟨by rfl, ?_⟩) hHeld ?_
      rotate_left
      · intro w' hSw
        (try dsimp only at hSw)
        go_simp
        try with_reducible rfl
      (try simp only [Act.put]); (try simp only [List.setIfInBounds_toArray]); (try simp only [List.set_cons_succ]); (try simp only [List.set_cons_zero])
      refine wpAnyH_take (i := 2) (v := ?_) rfl (by kernel_rfl) (by kernel_rfl) (by kernel_rfl) (fun _ _ _ h => h) (Or.inl ⟨by rfl, ?_⟩) hHeld ?_
      rotate_left
      · intro w' hSw
        (try dsimp only at hSw)
        go_simp
        try with_reducible rfl
      (try simp only [Act.put]); (try simp only [List.setIfInBounds_toArray]); (try simp only [List.set_cons_succ]); (try simp only [List.set_cons_zero])
      refine wpAnyH_take (i := 3) (v := ?_) rfl (by kernel_rfl) (by kernel_rfl) (by kernel_rfl) (fun _ _ _ h => h) (Or.inl ⟨by rfl, ?_⟩) hHeld ?_
      rotate_left
      · intro w' hSw
        (try dsimp only at hSw)
        go_simp
        try with_reducible rfl
      (try simp only [Act.put]); (try simp only [List.setIfInBounds_toArray]); (try simp only [List.set_cons_succ]); (try simp only [List.set_cons_zero])
      refine wpAnyH_take (i := 4) (v := ?_) rfl (by kernel_rfl) (by kernel_rfl) (by kernel_rfl) (fun _ _ _ h => h) (Or.inl ⟨by rfl, ?_⟩) hHeld ?_
      rotate_left
      · intro w' hSw
        (try dsimp only at hSw)
        (try simp only [List.getElem_toArray]); (try simp only [List.getElem_cons_succ]); (try simp only [List.getElem_cons_zero])
        go_simp
        try with_reducible rfl
      (try simp only [Act.put]); (try simp only [List.setIfInBounds_toArray]); (try simp only [List.set_cons_succ]); (try simp only [List.set_cons_zero])
      refine wpAnyH_take (i := 5) (v := ?_) rfl (by kernel_rfl) (by kernel_rfl) (by kernel_rfl) (fun _ _ _ h => h) (Or.inl ⟨by rfl, ?_⟩) hHeld ?_
      rotate_left
      · intro w' hSw
        (try dsimp only at hSw)
        go_simp
        try with_reducible rfl
      (try simp only [Act.put]); (try simp only [List.setIfInBounds_toArray]); (try simp only [List.set_cons_succ]); (try simp only [List.set_cons_zero])
      refine wpAnyH_take (i := 6) (v := ?_) rfl (by kernel_rfl) (by kernel_rfl) (by kernel_rfl) (fun _ _ _ h => h) (Or.inl ⟨by rfl, ?_⟩) hHeld ?_
      rotate_left
      · intro w' hSw
        (try dsimp only at hSw)
        go_simp
        try with_reducible rfl
      (try simp only [Act.put]); (try simp only [List.setIfInBounds_toArray]); (try simp only [List.set_cons_succ]); (try simp only [List.set_cons_zero])
      refine wpAnyH_take (i := 7) (v := ?_) rfl (by kernel_rfl) (by kernel_rfl) (by kernel_rfl) (fun _ _ _ h => h) (Or.inl ⟨by rfl, ?_⟩) hHeld ?_
      rotate_left
      · intro w' hSw
        (try dsimp only at hSw)
        go_simp
        try with_reducible rfl
      (try simp only [Act.put]); (try simp only [List.setIfInBounds_toArray]); (try simp only [List.set_cons_succ]); (try simp only [List.set_cons_zero])
      refine wpAnyH_take (i := 8) (v := ?_) rfl (by kernel_rfl) (by kernel_rfl) (by kernel_rfl) (fun _ _ _ h => h) (Or.inl ⟨by rfl, ?_⟩) hHeld ?_
      rotate_left
      · intro w' hSw
        (try dsimp only at hSw)
        (try simp only [List.getElem_toArray]); (try simp only [List.getElem_cons_succ]); (try simp only [List.getElem_cons_zero])
        go_simp
        try with_reducible rfl
      (try simp only [Act.put]); (try simp only [List.setIfInBounds_toArray]); (try simp only [List.set_cons_succ]); (try simp only [List.set_cons_zero])
      refine wpAnyH_ready (rs := [9]) (by kernel_rfl) (by simp) ?_
      refine AllReadyH.cons rfl (fun K hK => ?_) AllReadyH.nil
      go_simp
      go_fit (sIndex_c _ v ca' cb' (rGIndex_lawful.nix rA ((Keep.refl Nix wr).drew)) (rGIndex_lawful.nix rB ((Keep.refl Nix wr).drew)))
      rintro e w2 ⟨rfl, k2⟩
      replace kk := kk.drew.trans k2
      replace hcA := fun j u hu => (k2.cell (p := ⟨b1, o1 + k * 7 + j, none⟩) hb1 id).trans (hcA j u hu)
      replace hcB := fun j u hu => (k2.cell (p := ⟨b2, o2 + k * 7 + j, none⟩) hb2 id).trans (hcB j u hu)
      clear k2 rA rB
      go_wp2_with fail
      refine hK.out _ _ ⟨Whole.at S_Index hlA.out hcA, Whole.at S_Index hlB.out hcB⟩ (fun hHeld => ?_)
      clear hK K
      (try simp only [Act.put]); (try simp only [List.setIfInBounds_toArray]); (try simp only [List.set_cons_succ]); (try simp only [List.set_cons_zero])
      refine wpAnyH_take (i := 10) (v := ?_) rfl (by kernel_rfl) (by kernel_rfl) (by kernel_rfl) (fun _ _ _ h => h) (Or.inl ⟨by rfl, ?_⟩) hHeld ?_
      rotate_left
      · intro w' hSw
        (try dsimp only at hSw)
        go_simp
        try with_reducible rfl
      (try simp only [Act.put]); (try simp only [List.setIfInBounds_toArray]); (try simp only [List.set_cons_succ]); (try simp only [List.set_cons_zero])
      refine wpAnyH_done (by kernel_rfl) ?_ _
      clear hHeld
      go_wp2
      go_roundw
      case rel => exact ⟨k + 1, by omega, by go_num, rfl, kk⟩
      case measure => simp [intOf]; omega
    · obtain rfl : k = l.length := by omega
      go_wp2_with fail
      go_ret
      exact ⟨rfl, kk⟩
end
set_option maxRecDepth 100000 in
set_option maxHeartbeats 8000000 in
theorem sOwner_c {p q : Nat → Prop} (w : World) (x : GOwner) (ca cb : List Value) (ha : rGOwner w p ca x) (hb : rGOwner w q cb x) : Calls Tryz.prog 135 #[.agg ca.toArray, .agg cb.toArray] w fun e w' => e = .returned (.bool true) ∧ Keep Nix w w' := by
  obtain ⟨apFrom, cpFrom, rfl, h0, h1, -⟩ := rGOwner_open ha
  obtain ⟨aqFrom, cqFrom, rfl, g0, g1, -⟩ := rGOwner_open hb
  have hsz : (w.alloc (.cells #[.int .i64 x.fGroup, .slice apFrom x.fFrom.length cpFrom] 196)).heap.size = w.heap.size + 1 := by simp
  have rowA : RowIs ((w.alloc (.cells #[.int .i64 x.fGroup, .slice apFrom x.fFrom.length cpFrom] 196)).alloc (.cells #[.int .i64 x.fGroup, .slice aqFrom x.fFrom.length cqFrom] 196)) w.heap.size 196 [.int .i64 x.fGroup, .slice apFrom x.fFrom.length cpFrom] := (RowIs.alloc w _ _).keep ((Keep.refl Nix _).alloc _) id
  have rowB : RowIs ((w.alloc (.cells #[.int .i64 x.fGroup, .slice apFrom x.fFrom.length cpFrom] 196)).alloc (.cells #[.int .i64 x.fGroup, .slice aqFrom x.fFrom.length cqFrom] 196)) (w.heap.size + 1) 196 [.int .i64 x.fGroup, .slice aqFrom x.fFrom.length cqFrom] := by
    rw [← hsz]
    exact RowIs.alloc (w.alloc (.cells #[.int .i64 x.fGroup, .slice apFrom x.fFrom.length cpFrom] 196)) _ _
  have kk : Keep Nix w ((w.alloc (.cells #[.int .i64 x.fGroup, .slice apFrom x.fFrom.length cpFrom] 196)).alloc (.cells #[.int .i64 x.fGroup, .slice aqFrom x.fFrom.length cqFrom] 196)) := ((Keep.refl Nix w).alloc _).alloc _
  clear hsz ha hb
  clear h0 g0
  replace h1 := h1.1.keep kk (fun _ _ h => h)
  replace g1 := g1.1.keep kk (fun _ _ h => h)
  go_enter Tryz.func135, Tryz.ntmps135
  go_wp2_with fail
  go_fit (bytesT_c _ _ _ _ _ _ x.fFrom _ rfl rfl h1 g1)
  rintro e w1' ⟨rfl, rfl⟩
  clear h1 g1
  go_wp2
  go_ret
  exact ⟨by first | rfl | simp, kk⟩
theorem lds_Owner (a : Act) (dst : Option Tmp) (x : Operand) (ty : TypeId) (pos : String) (after : Array Edge) (guard : Option (Nat × Bool)) : execOp a.eval { dst := dst, op := .load 196 x, type := ty, pos := pos, after := after, guard := guard } = wholeSem 196 (a.eval x) := rfl
section
attribute [local go_sem ↓] lds_Owner
set_option maxRecDepth 100000 in
set_option maxHeartbeats 4000000 in
theorem sm_Owner {p q : Nat → Prop} (w : World) (l : List GOwner) (a b : Option Addr) (n ca m cb : Nat) (ha : rList rGOwner w p [.slice a n ca] l) (hb : rList rGOwner w q [.slice b m cb] l) :
    Calls Tryz.prog 134 #[.slice a n ca, .slice b m cb, .func (.func 135) #[] #[]] w fun e w' => e = .returned (.bool true) ∧ Keep Nix w w' := by
  obtain ⟨hn, -, hf⟩ := rList_len ha
  obtain ⟨hm, -, -⟩ := rList_len hb
  subst hn hm
  have hfar : l.length ≤ 9223372036854775807 := by have := far_len; unfold maxLen at this; omega
  clear hf
  have kk0 : Keep Nix w w := Keep.refl _ _
  go_enter Tryz.func134, Tryz.ntmps134
  go_wp2_with fail
  go_loopw [6, 7] (fun r i wr => ∃ k : Nat, k ≤ l.length ∧ i = .int .i64 k ∧ r = .bool false ∧ Keep Nix w wr) (fun _ i _ => l.length - (intOf i).toNat)
  case atStart => exact ⟨0, by omega, rfl, rfl, kk0⟩
  case round =>
    clear kk0
    obtain ⟨k, hk, rfl, rfl, kk⟩ := hrel
    by_cases hlt : k < l.length
    · have hi0 : (0 : Int) ≤ (k : Int) := by omega
      have hi1 : (k : Int) < (l.length : Int) := by omega
      obtain ⟨b1, o1, c1, ca', e1, -, hb1, rA, hcA⟩ := rList_at rGOwner_lawful (by decide) ((rList_lawful rGOwner_lawful).nix ha kk) k hlt
      obtain ⟨b2, o2, c2, cb', e2, -, hb2, rB, hcB⟩ := rList_at rGOwner_lawful (by decide) ((rList_lawful rGOwner_lawful).nix hb kk) k hlt
      simp only [List.cons.injEq, Value.slice.injEq, and_true] at e1 e2
      obtain ⟨e1, -, -⟩ := e1
      obtain ⟨e2, -, -⟩ := e2
      subst e1 e2
      clear ha hb
      have hlA := Lib.hid (rGOwner_lawful.len rA)
      have hlB := Lib.hid (rGOwner_lawful.len rB)
      generalize hv : l[k] = v at rA rB
      clear hv
      go_wp2_with fail
      refine wp_region_held_drew (S := (fun w' => (wholeSem 196 (.pointer (some ⟨b1, o1 + k * 2, none⟩))).run Tryz.prog w' = .ok (.value (.agg ca'.toArray)) w' ∧ (wholeSem 196 (.pointer (some ⟨b2, o2 + k * 2, none⟩))).run Tryz.prog w' = .ok (.value (.agg cb'.toArray)) w')) (by kernel_rfl) ⟨Whole.at (w := wr.drew) S_Owner hlA.out hcA, Whole.at (w := wr.drew) S_Owner hlB.out hcB⟩ (fun hHeld => ?_)
      refine wpAnyH_take (i := 0) (v := ?_) rfl (by kernel_rfl) (by kernel_rfl) (by kernel_rfl) (fun _ _ _ h => h) (Or.inl ⟨by rfl, ?_⟩) hHeld ?_
      rotate_left
      · intro w' hSw
        (try dsimp only at hSw)
        go_simp
        try with_reducible rfl
      (try simp only [Act.put]); (try simp only [List.setIfInBounds_toArray]); (try simp only [List.set_cons_succ]); (try simp only [List.set_cons_zero])
      refine wpAnyH_take (i := 1) (v := ?_) rfl (by kernel_rfl) (by kernel_rfl) (by kernel_rfl) (fun _ _ _ h => h) (Or.inl ⟨by rfl, ?_⟩) hHeld ?_
      rotate_left
      · intro w' hSw
        (try dsimp only at hSw)
        go_simp
        try with_reducible rfl
      (try simp only [Act.put]); (try simp only [List.setIfInBounds_toArray]); (try simp only [List.set_cons_succ]); (try simp only [List.set_cons_zero])
      refine wpAnyH_take (i := 2) (v := ?_) rfl (by kernel_rfl) (by kernel_rfl) (by kernel_rfl) (fun _ _ _ h => h) (Or.inl ⟨by rfl, ?_⟩) hHeld ?_
      rotate_left
      · intro w' hSw
        (try dsimp only at hSw)
        go_simp
        try with_reducible rfl
      (try simp only [Act.put]); (try simp only [List.setIfInBounds_toArray]); (try simp only [List.set_cons_succ]); (try simp only [List.set_cons_zero])
      refine wpAnyH_take (i := 3) (v := ?_) rfl (by kernel_rfl) (by kernel_rfl) (by kernel_rfl) (fun _ _ _ h => h) (Or.inl ⟨by rfl, ?_⟩) hHeld ?_
      rotate_left
      · intro w' hSw
        (try dsimp only at hSw)
        go_simp
        try with_reducible rfl
      (try simp only [Act.put]); (try simp only [List.setIfInBounds_toArray]); (try simp only [List.set_cons_succ]); (try simp only [List.set_cons_zero])
      refine wpAnyH_take (i := 4) (v := ?_) rfl (by kernel_rfl) (by kernel_rfl) (by kernel_rfl) (fun _ _ _ h => h) (Or.inl ⟨by rfl, ?_⟩) hHeld ?_
      rotate_left
      · intro w' hSw
        (try dsimp only at hSw)
        (try simp only [List.getElem_toArray]); (try simp only [List.getElem_cons_succ]); (try simp only [List.getElem_cons_zero])
        go_simp
        try with_reducible rfl
      (try simp only [Act.put]); (try simp only [List.setIfInBounds_toArray]); (try simp only [List.set_cons_succ]); (try simp only [List.set_cons_zero])
      refine wpAnyH_take (i := 5) (v := ?_) rfl (by kernel_rfl) (by kernel_rfl) (by kernel_rfl) (fun _ _ _ h => h) (Or.inl ⟨by rfl, ?_⟩) hHeld ?_
      rotate_left
      · intro w' hSw
        (try dsimp only at hSw)
        go_simp
        try with_reducible rfl
      (try simp only [Act.put]); (try simp only [List.setIfInBounds_toArray]); (try simp only [List.set_cons_succ]); (try simp only [List.set_cons_zero])
      refine wpAnyH_take (i := 6) (v := ?_) rfl (by kernel_rfl) (by kernel_rfl) (by kernel_rfl) (fun _ _ _ h => h) (Or.inl ⟨by rfl, ?_⟩) hHeld ?_
      rotate_left
      · intro w' hSw
        (try dsimp only at hSw)
        go_simp
        try with_reducible rfl
      (try simp only [Act.put]); (try simp only [List.setIfInBounds_toArray]); (try simp only [List.set_cons_succ]); (try simp only [List.set_cons_zero])
      refine wpAnyH_take (i := 7) (v := ?_) rfl (by kernel_rfl) (by kernel_rfl) (by kernel_rfl) (fun _ _ _ h => h) (Or.inl ⟨by rfl, ?_⟩) hHeld ?_
      rotate_left
      · intro w' hSw
        (try dsimp only at hSw)
        go_simp
        try with_reducible rfl
      (try simp only [Act.put]); (try simp only [List.setIfInBounds_toArray]); (try simp only [List.set_cons_succ]); (try simp only [List.set_cons_zero])
      refine wpAnyH_take (i := 8) (v := ?_) rfl (by kernel_rfl) (by kernel_rfl) (by kernel_rfl) (fun _ _ _ h => h) (Or.inl ⟨by rfl, ?_⟩) hHeld ?_
      rotate_left
      · intro w' hSw
        (try dsimp only at hSw)
        (try simp only [List.getElem_toArray]); (try simp only [List.getElem_cons_succ]); (try simp only [List.getElem_cons_zero])
        go_simp
        try with_reducible rfl
      (try simp only [Act.put]); (try simp only [List.setIfInBounds_toArray]); (try simp only [List.set_cons_succ]); (try simp only [List.set_cons_zero])
      refine wpAnyH_ready (rs := [9]) (by kernel_rfl) (by simp) ?_
      refine AllReadyH.cons rfl (fun K hK => ?_) AllReadyH.nil
      go_simp
      go_fit (sOwner_c _ v ca' cb' (rGOwner_lawful.nix rA ((Keep.refl Nix wr).drew)) (rGOwner_lawful.nix rB ((Keep.refl Nix wr).drew)))
      rintro e w2 ⟨rfl, k2⟩
      replace kk := kk.drew.trans k2
      replace hcA := fun j u hu => (k2.cell (p := ⟨b1, o1 + k * 2 + j, none⟩) hb1 id).trans (hcA j u hu)
      replace hcB := fun j u hu => (k2.cell (p := ⟨b2, o2 + k * 2 + j, none⟩) hb2 id).trans (hcB j u hu)
      clear k2 rA rB
      go_wp2_with fail
      refine hK.out _ _ ⟨Whole.at S_Owner hlA.out hcA, Whole.at S_Owner hlB.out hcB⟩ (fun hHeld => ?_)
      clear hK K
      (try simp only [Act.put]); (try simp only [List.setIfInBounds_toArray]); (try simp only [List.set_cons_succ]); (try simp only [List.set_cons_zero])
      refine wpAnyH_take (i := 10) (v := ?_) rfl (by kernel_rfl) (by kernel_rfl) (by kernel_rfl) (fun _ _ _ h => h) (Or.inl ⟨by rfl, ?_⟩) hHeld ?_
      rotate_left
      · intro w' hSw
        (try dsimp only at hSw)
        go_simp
        try with_reducible rfl
      (try simp only [Act.put]); (try simp only [List.setIfInBounds_toArray]); (try simp only [List.set_cons_succ]); (try simp only [List.set_cons_zero])
      refine wpAnyH_done (by kernel_rfl) ?_ _
      clear hHeld
      go_wp2
      go_roundw
      case rel => exact ⟨k + 1, by omega, by go_num, rfl, kk⟩
      case measure => simp [intOf]; omega
    · obtain rfl : k = l.length := by omega
      go_wp2_with fail
      go_ret
      exact ⟨rfl, kk⟩
end
end Go.Proofs.YtabgbleldbapbaaGreat
