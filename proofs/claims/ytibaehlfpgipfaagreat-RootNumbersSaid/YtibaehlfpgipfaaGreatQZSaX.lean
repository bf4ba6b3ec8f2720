/- COMPARISONS of things that are alike. Printed by gen11.py. -/
import Derived.Test.YtibaehlfpgipfaaGreatQZOpens
import Derived.Test.YtibaehlfpgipfaaGreatQZHelp
import Derived.Deep.RegionHeld3
namespace Go.Proofs.YtibaehlfpgipfaaGreat
open Go.RowKit
set_option linter.unusedSimpArgs false
theorem bytesT_c {p q : Nat → Prop} (a b : Option Addr) (n ca m cb : Nat) (l : List UInt8) (w : World) (hn : l.length = n) (hm : l.length = m) (ha : Lies w p a (l.map bv)) (hb : Lies w q b (l.map bv)) :
  Calls Tryz.prog 11 #[.slice a n ca, .slice b m cb] w fun e w' => e = .returned (.bool true) ∧ w = w' :=
 (bytes_c a b n ca m cb l l w hn hm ha hb).mono fun e w' ⟨he, hw⟩ => ⟨by rw [he]; simp, hw⟩
theorem pc_int (v : Int) (w : World) : Calls Tryz.prog 128 #[.int .i64 v, .int .i64 v] w fun e w' => e = .returned (.bool true) ∧ w = w' := by
 go_enter Tryz.func128, Tryz.ntmps128
 go_wp2
 go_ret
 exact ⟨by simp, rfl⟩
set_option maxRecDepth 100000 in
set_option maxHeartbeats 4000000 in
theorem sm_int {p q : Nat → Prop} (w : World) (l : List Int) (a b : Option Addr) (n ca m cb : Nat) (ha : rList (rInt .i64) w p [.slice a n ca] l) (hb : rList (rInt .i64) w q [.slice b m cb] l) :
  Calls Tryz.prog 127 #[.slice a n ca, .slice b m cb, .func (.func 128) #[] #[]] w fun e w' => e = .returned (.bool true) ∧ Keep Nix w w' := by
 obtain ⟨hn, -, hf⟩ := rList_len ha
 obtain ⟨hm, -, -⟩ := rList_len hb
 subst hn hm
 have hfar : l.length ≤ 9223372036854775807 := by have := far_len; unfold maxLen at this; omega
 clear hf
 have kk0 : Keep Nix w w := Keep.refl _ _
 go_enter Tryz.func127, Tryz.ntmps127
 go_wp2_with fail
 go_loopw [6, 7] (fun r i wr => ∃ k : Nat, k ≤ l.length ∧ i = .int .i64 k ∧ r = .bool false ∧ Keep Nix w wr) (fun _ i _ => l.length - (intOf i).toNat)
 case atStart => exact ⟨0, by omega, rfl, rfl, kk0⟩
 case round =>
  clear kk0
  obtain ⟨k, hk, rfl, rfl, kk⟩ := hrel
  by_cases hlt : k < l.length
  ·have hi0 : (0 : Int) ≤ (k : Int) := by omega
   have hi1 : (k : Int) < (l.length : Int) := by omega
   obtain ⟨b1, o1, c1, ca', e1, -, hb1, rA, hcA⟩ := rList_at (rInt_lawful _) (by decide) ((rList_lawful (rInt_lawful _)).nix ha kk) k hlt
   obtain ⟨b2, o2, c2, cb', e2, -, hb2, rB, hcB⟩ := rList_at (rInt_lawful _) (by decide) ((rList_lawful (rInt_lawful _)).nix hb kk) k hlt
   simp only [List.cons.injEq, Value.slice.injEq, and_true] at e1 e2
   obtain ⟨e1, -, -⟩ := e1
   obtain ⟨e2, -, -⟩ := e2
   subst e1 e2
   clear ha hb
   obtain ⟨rfl, -⟩ := rA
   obtain ⟨rfl, -⟩ := rB
   have xA := hcA 0 _ rfl
   have xB := hcB 0 _ rfl
   rw [Nat.mul_one, Nat.add_zero] at xA xB
   clear hcA hcB
   generalize hv : l[k] = v at xA xB
   clear hv
   go_wp2_with fail
   refine wp_region_held_drew (S := (fun w' => w'.cell? ⟨b1, o1 + k, none⟩ = some (.int .i64 v) ∧ w'.cell? ⟨b2, o2 + k, none⟩ = some (.int .i64 v))) (by kernel_rfl) ⟨xA, xB⟩ (fun hHeld => ?_)
   refine wpAnyH_take (i := 0) (v := ?_) rfl (by kernel_rfl) (by kernel_rfl) (by kernel_rfl) (fun _ _ _ h => h) (Or.inl ⟨by rfl, ?_⟩) hHeld ?_
   rotate_left
   ·intro w' hSw
    (try dsimp only at hSw)
    go_simp
    try with_reducible rfl
   (try simp only [Act.put]); (try simp only [List.setIfInBounds_toArray]); (try simp only [List.set_cons_succ]); (try simp only [List.set_cons_zero])
   refine wpAnyH_take (i := 1) (v := ?_) rfl (by kernel_rfl) (by kernel_rfl) (by kernel_rfl) (fun _ _ _ h => h) (Or.inl ⟨by rfl, ?_⟩) hHeld ?_
   rotate_left
   ·intro w' hSw
    (try dsimp only at hSw)
    go_simp
    try with_reducible rfl
   (try simp only [Act.put]); (try simp only [List.setIfInBounds_toArray]); (try simp only [List.set_cons_succ]); (try simp only [List.set_cons_zero])
   refine wpAnyH_take (i := 2) (v := ?_) rfl (by kernel_rfl) (by kernel_rfl) (by kernel_rfl) (fun _ _ _ h => h) (Or.inl ⟨by rfl, ?_⟩) hHeld ?_
   rotate_left
   ·intro w' hSw
    (try dsimp only at hSw)
    go_simp
    try with_reducible rfl
   (try simp only [Act.put]); (try simp only [List.setIfInBounds_toArray]); (try simp only [List.set_cons_succ]); (try simp only [List.set_cons_zero])
   refine wpAnyH_take (i := 3) (v := ?_) rfl (by kernel_rfl) (by kernel_rfl) (by kernel_rfl) (fun _ _ _ h => h) (Or.inl ⟨by rfl, ?_⟩) hHeld ?_
   rotate_left
   ·intro w' hSw
    (try dsimp only at hSw)
    go_simp
    try with_reducible rfl
   (try simp only [Act.put]); (try simp only [List.setIfInBounds_toArray]); (try simp only [List.set_cons_succ]); (try simp only [List.set_cons_zero])
   refine wpAnyH_take (i := 4) (v := ?_) rfl (by kernel_rfl) (by kernel_rfl) (by kernel_rfl) (fun _ _ _ h => h) (Or.inl ⟨by rfl, ?_⟩) hHeld ?_
   rotate_left
   ·intro w' hSw
    (try dsimp only at hSw)
    try simp only [zz1, zz2, zz3]
    go_simp
    try with_reducible rfl
   (try simp only [Act.put]); (try simp only [List.setIfInBounds_toArray]); (try simp only [List.set_cons_succ]); (try simp only [List.set_cons_zero])
   refine wpAnyH_take (i := 5) (v := ?_) rfl (by kernel_rfl) (by kernel_rfl) (by kernel_rfl) (fun _ _ _ h => h) (Or.inl ⟨by rfl, ?_⟩) hHeld ?_
   rotate_left
   ·intro w' hSw
    (try dsimp only at hSw)
    go_simp
    try with_reducible rfl
   (try simp only [Act.put]); (try simp only [List.setIfInBounds_toArray]); (try simp only [List.set_cons_succ]); (try simp only [List.set_cons_zero])
   refine wpAnyH_take (i := 6) (v := ?_) rfl (by kernel_rfl) (by kernel_rfl) (by kernel_rfl) (fun _ _ _ h => h) (Or.inl ⟨by rfl, ?_⟩) hHeld ?_
   rotate_left
   ·intro w' hSw
    (try dsimp only at hSw)
    go_simp
    try with_reducible rfl
   (try simp only [Act.put]); (try simp only [List.setIfInBounds_toArray]); (try simp only [List.set_cons_succ]); (try simp only [List.set_cons_zero])
   refine wpAnyH_take (i := 7) (v := ?_) rfl (by kernel_rfl) (by kernel_rfl) (by kernel_rfl) (fun _ _ _ h => h) (Or.inl ⟨by rfl, ?_⟩) hHeld ?_
   rotate_left
   ·intro w' hSw
    (try dsimp only at hSw)
    go_simp
    try with_reducible rfl
   (try simp only [Act.put]); (try simp only [List.setIfInBounds_toArray]); (try simp only [List.set_cons_succ]); (try simp only [List.set_cons_zero])
   refine wpAnyH_take (i := 8) (v := ?_) rfl (by kernel_rfl) (by kernel_rfl) (by kernel_rfl) (fun _ _ _ h => h) (Or.inl ⟨by rfl, ?_⟩) hHeld ?_
   rotate_left
   ·intro w' hSw
    (try dsimp only at hSw)
    try simp only [zz1, zz2, zz3]
    go_simp
    try with_reducible rfl
   (try simp only [Act.put]); (try simp only [List.setIfInBounds_toArray]); (try simp only [List.set_cons_succ]); (try simp only [List.set_cons_zero])
   refine wpAnyH_ready (rs := [9]) (by kernel_rfl) (by simp) ?_
   refine AllReadyH.cons rfl (fun K hK => ?_) AllReadyH.nil
   go_simp
   go_fit (pc_int v _)
   rintro e w2 ⟨rfl, rfl⟩
   replace kk := kk.drew
   go_wp2_with fail
   refine hK.out _ _ ⟨xA, xB⟩ (fun hHeld => ?_)
   clear hK K
   (try simp only [Act.put]); (try simp only [List.setIfInBounds_toArray]); (try simp only [List.set_cons_succ]); (try simp only [List.set_cons_zero])
   refine wpAnyH_take (i := 10) (v := ?_) rfl (by kernel_rfl) (by kernel_rfl) (by kernel_rfl) (fun _ _ _ h => h) (Or.inl ⟨by rfl, ?_⟩) hHeld ?_
   rotate_left
   ·intro w' hSw
    (try dsimp only at hSw)
    go_simp
    try with_reducible rfl
   (try simp only [Act.put]); (try simp only [List.setIfInBounds_toArray]); (try simp only [List.set_cons_succ]); (try simp only [List.set_cons_zero])
   refine wpAnyH_done (by kernel_rfl) ?_ _
   clear hHeld
   go_wp2
   go_roundw
   case rel => exact ⟨k + 1, by omega, by go_num, rfl, kk⟩
   case measure => simp [intOf]; omega
  ·obtain rfl : k = l.length := by omega
   go_wp2_with fail
   go_ret
   exact ⟨rfl, kk⟩
theorem pl_int {p q : Nat → Prop} (w : World) (l : List Int) (a b : Option Addr) (n ca m cb : Nat) (ha : rList (rInt .i64) w p [.slice a n ca] l) (hb : rList (rInt .i64) w q [.slice b m cb] l) :
  Calls Tryz.prog 79 #[.slice a n ca, .slice b m cb] w fun e w' => e = .returned (.bool true) ∧ Keep Nix w w' := by
 go_enter Tryz.func79, Tryz.ntmps79
 go_wp2_with fail
 go_fit (sm_int w l a b n ca m cb ha hb)
 rintro e w1 ⟨rfl, k1⟩
 go_wp2
 go_ret
 exact ⟨rfl, k1⟩
theorem pc_Column {p q : Nat → Prop} (w : World) (x : GColumn) (ca cb : List Value) (ha : rGColumn w p ca x) (hb : rGColumn w q cb x) : Calls Tryz.prog 126 #[.agg ca.toArray, .agg cb.toArray] w fun e w' => e = .returned (.bool true) ∧ Keep Nix w w' := by
 obtain ⟨rfl, -⟩ := rGColumn_open ha
 obtain ⟨rfl, -⟩ := rGColumn_open hb
 clear ha hb
 go_enter Tryz.func126, Tryz.ntmps126
 go_wp2
 go_ret
 exact ⟨by simp, ((Keep.refl _ _).alloc _).alloc _⟩
theorem lds_Column (a : Act) (dst : Option Tmp) (x : Operand) (ty : TypeId) (pos : String) (after : Array Edge) (guard : Option (Nat × Bool)) : execOp a.eval { dst := dst, op := .load 148 x, type := ty, pos := pos, after := after, guard := guard } = wholeSem 148 (a.eval x) := rfl
section
attribute [local go_sem ↓] lds_Column
set_option maxRecDepth 100000 in
set_option maxHeartbeats 4000000 in
theorem sm_Column {p q : Nat → Prop} (w : World) (l : List GColumn) (a b : Option Addr) (n ca m cb : Nat) (ha : rList rGColumn w p [.slice a n ca] l) (hb : rList rGColumn w q [.slice b m cb] l) :
  Calls Tryz.prog 125 #[.slice a n ca, .slice b m cb, .func (.func 126) #[] #[]] w fun e w' => e = .returned (.bool true) ∧ Keep Nix w w' := by
 obtain ⟨hn, -, hf⟩ := rList_len ha
 obtain ⟨hm, -, -⟩ := rList_len hb
 subst hn hm
 have hfar : l.length ≤ 9223372036854775807 := by have := far_len; unfold maxLen at this; omega
 clear hf
 have kk0 : Keep Nix w w := Keep.refl _ _
 go_enter Tryz.func125, Tryz.ntmps125
 go_wp2_with fail
 go_loopw [6, 7] (fun r i wr => ∃ k : Nat, k ≤ l.length ∧ i = .int .i64 k ∧ r = .bool false ∧ Keep Nix w wr) (fun _ i _ => l.length - (intOf i).toNat)
 case atStart => exact ⟨0, by omega, rfl, rfl, kk0⟩
 case round =>
  clear kk0
  obtain ⟨k, hk, rfl, rfl, kk⟩ := hrel
  by_cases hlt : k < l.length
  ·have hi0 : (0 : Int) ≤ (k : Int) := by omega
   have hi1 : (k : Int) < (l.length : Int) := by omega
   obtain ⟨b1, o1, c1, ca', e1, -, hb1, rA, hcA⟩ := rList_at rGColumn_lawful (by decide) ((rList_lawful rGColumn_lawful).nix ha kk) k hlt
   obtain ⟨b2, o2, c2, cb', e2, -, hb2, rB, hcB⟩ := rList_at rGColumn_lawful (by decide) ((rList_lawful rGColumn_lawful).nix hb kk) k hlt
   simp only [List.cons.injEq, Value.slice.injEq, and_true] at e1 e2
   obtain ⟨e1, -, -⟩ := e1
   obtain ⟨e2, -, -⟩ := e2
   subst e1 e2
   clear ha hb
   have hlA := Lib.hid (rGColumn_lawful.len rA)
   have hlB := Lib.hid (rGColumn_lawful.len rB)
   generalize hv : l[k] = v at rA rB
   clear hv
   go_wp2_with fail
   refine wp_region_held_drew (S := (fun w' => (wholeSem 148 (.pointer (some ⟨b1, o1 + k * 3, none⟩))).run Tryz.prog w' = .ok (.value (.agg ca'.toArray)) w' ∧ (wholeSem 148 (.pointer (some ⟨b2, o2 + k * 3, none⟩))).run Tryz.prog w' = .ok (.value (.agg cb'.toArray)) w')) (by kernel_rfl) ⟨Whole.at (w := wr.drew) S_Column hlA.out hcA, Whole.at (w := wr.drew) S_Column hlB.out hcB⟩ (fun hHeld => ?_)
   refine wpAnyH_take (i := 0) (v := ?_) rfl (by kernel_rfl) (by kernel_rfl) (by kernel_rfl) (fun _ _ _ h => h) (Or.inl ⟨by rfl, ?_⟩) hHeld ?_
   rotate_left
   ·intro w' hSw
    (try dsimp only at hSw)
    go_simp
    try with_reducible rfl
   (try simp only [Act.put]); (try simp only [List.setIfInBounds_toArray]); (try simp only [List.set_cons_succ]); (try simp only [List.set_cons_zero])
   refine wpAnyH_take (i := 1) (v := ?_) rfl (by kernel_rfl) (by kernel_rfl) (by kernel_rfl) (fun _ _ _ h => h) (Or.inl ⟨by rfl, ?_⟩) hHeld ?_
   rotate_left
   ·intro w' hSw
    (try dsimp only at hSw)
    go_simp
    try with_reducible rfl
   (try simp only [Act.put]); (try simp only [List.setIfInBounds_toArray]); (try simp only [List.set_cons_succ]); (try simp only [List.set_cons_zero])
   refine wpAnyH_take (i := 2) (v := ?_) rfl (by kernel_rfl) (by kernel_rfl) (by kernel_rfl) (fun _ _ _ h => h) (Or.inl ⟨by rfl, ?_⟩) hHeld ?_
   rotate_left
   ·intro w' hSw
    (try dsimp only at hSw)
    go_simp
    try with_reducible rfl
   (try simp only [Act.put]); (try simp only [List.setIfInBounds_toArray]); (try simp only [List.set_cons_succ]); (try simp only [List.set_cons_zero])
   refine wpAnyH_take (i := 3) (v := ?_) rfl (by kernel_rfl) (by kernel_rfl) (by kernel_rfl) (fun _ _ _ h => h) (Or.inl ⟨by rfl, ?_⟩) hHeld ?_
   rotate_left
   ·intro w' hSw
    (try dsimp only at hSw)
    go_simp
    try with_reducible rfl
   (try simp only [Act.put]); (try simp only [List.setIfInBounds_toArray]); (try simp only [List.set_cons_succ]); (try simp only [List.set_cons_zero])
   refine wpAnyH_take (i := 4) (v := ?_) rfl (by kernel_rfl) (by kernel_rfl) (by kernel_rfl) (fun _ _ _ h => h) (Or.inl ⟨by rfl, ?_⟩) hHeld ?_
   rotate_left
   ·intro w' hSw
    (try dsimp only at hSw)
    try simp only [zz1, zz2, zz3]
    go_simp
    try with_reducible rfl
   (try simp only [Act.put]); (try simp only [List.setIfInBounds_toArray]); (try simp only [List.set_cons_succ]); (try simp only [List.set_cons_zero])
   refine wpAnyH_take (i := 5) (v := ?_) rfl (by kernel_rfl) (by kernel_rfl) (by kernel_rfl) (fun _ _ _ h => h) (Or.inl ⟨by rfl, ?_⟩) hHeld ?_
   rotate_left
   ·intro w' hSw
    (try dsimp only at hSw)
    go_simp
    try with_reducible rfl
   (try simp only [Act.put]); (try simp only [List.setIfInBounds_toArray]); (try simp only [List.set_cons_succ]); (try simp only [List.set_cons_zero])
   refine wpAnyH_take (i := 6) (v := ?_) rfl (by kernel_rfl) (by kernel_rfl) (by kernel_rfl) (fun _ _ _ h => h) (Or.inl ⟨by rfl, ?_⟩) hHeld ?_
   rotate_left
   ·intro w' hSw
    (try dsimp only at hSw)
    go_simp
    try with_reducible rfl
   (try simp only [Act.put]); (try simp only [List.setIfInBounds_toArray]); (try simp only [List.set_cons_succ]); (try simp only [List.set_cons_zero])
   refine wpAnyH_take (i := 7) (v := ?_) rfl (by kernel_rfl) (by kernel_rfl) (by kernel_rfl) (fun _ _ _ h => h) (Or.inl ⟨by rfl, ?_⟩) hHeld ?_
   rotate_left
   ·intro w' hSw
    (try dsimp only at hSw)
    go_simp
    try with_reducible rfl
   (try simp only [Act.put]); (try simp only [List.setIfInBounds_toArray]); (try simp only [List.set_cons_succ]); (try simp only [List.set_cons_zero])
   refine wpAnyH_take (i := 8) (v := ?_) rfl (by kernel_rfl) (by kernel_rfl) (by kernel_rfl) (fun _ _ _ h => h) (Or.inl ⟨by rfl, ?_⟩) hHeld ?_
   rotate_left
   ·intro w' hSw
    (try dsimp only at hSw)
    try simp only [zz1, zz2, zz3]
    go_simp
    try with_reducible rfl
   (try simp only [Act.put]); (try simp only [List.setIfInBounds_toArray]); (try simp only [List.set_cons_succ]); (try simp only [List.set_cons_zero])
   refine wpAnyH_ready (rs := [9]) (by kernel_rfl) (by simp) ?_
   refine AllReadyH.cons rfl (fun K hK => ?_) AllReadyH.nil
   go_simp
   go_fit (pc_Column _ v ca' cb' (rGColumn_lawful.nix rA ((Keep.refl Nix wr).drew)) (rGColumn_lawful.nix rB ((Keep.refl Nix wr).drew)))
   rintro e w2 ⟨rfl, k2⟩
   replace kk := kk.drew.trans k2
   replace hcA := fun j u hu => (k2.cell (p := ⟨b1, o1 + k * 3 + j, none⟩) hb1 id).trans (hcA j u hu)
   replace hcB := fun j u hu => (k2.cell (p := ⟨b2, o2 + k * 3 + j, none⟩) hb2 id).trans (hcB j u hu)
   clear k2 rA rB
   go_wp2_with fail
   refine hK.out _ _ ⟨Whole.at S_Column hlA.out hcA, Whole.at S_Column hlB.out hcB⟩ (fun hHeld => ?_)
   clear hK K
   (try simp only [Act.put]); (try simp only [List.setIfInBounds_toArray]); (try simp only [List.set_cons_succ]); (try simp only [List.set_cons_zero])
   refine wpAnyH_take (i := 10) (v := ?_) rfl (by kernel_rfl) (by kernel_rfl) (by kernel_rfl) (fun _ _ _ h => h) (Or.inl ⟨by rfl, ?_⟩) hHeld ?_
   rotate_left
   ·intro w' hSw
    (try dsimp only at hSw)
    go_simp
    try with_reducible rfl
   (try simp only [Act.put]); (try simp only [List.setIfInBounds_toArray]); (try simp only [List.set_cons_succ]); (try simp only [List.set_cons_zero])
   refine wpAnyH_done (by kernel_rfl) ?_ _
   clear hHeld
   go_wp2
   go_roundw
   case rel => exact ⟨k + 1, by omega, by go_num, rfl, kk⟩
   case measure => simp [intOf]; omega
  ·obtain rfl : k = l.length := by omega
   go_wp2_with fail
   go_ret
   exact ⟨rfl, kk⟩
end
theorem pl_Column {p q : Nat → Prop} (w : World) (l : List GColumn) (a b : Option Addr) (n ca m cb : Nat) (ha : rList rGColumn w p [.slice a n ca] l) (hb : rList rGColumn w q [.slice b m cb] l) :
  Calls Tryz.prog 78 #[.slice a n ca, .slice b m cb] w fun e w' => e = .returned (.bool true) ∧ Keep Nix w w' := by
 go_enter Tryz.func78, Tryz.ntmps78
 go_wp2_with fail
 go_fit (sm_Column w l a b n ca m cb ha hb)
 rintro e w1 ⟨rfl, k1⟩
 go_wp2
 go_ret
 exact ⟨rfl, k1⟩
section
end
set_option maxRecDepth 100000 in
set_option maxHeartbeats 8000000 in
theorem cmp_sTable_c {p q : Nat → Prop} (w : World) (x : GTable) (ca cb : List Value) (ha : rGTable w p ca x) (hb : rGTable w q cb x) : Calls Tryz.prog 36 #[.agg ca.toArray, .agg cb.toArray] w fun e w' => e = .returned (.bool true) ∧ Keep Nix w w' := by
 obtain ⟨apColumns, cpColumns, apKey, cpKey, rfl, h0, h1, h2, h3, -⟩ := rGTable_open ha
 obtain ⟨aqColumns, cqColumns, aqKey, cqKey, rfl, g0, g1, g2, g3, -⟩ := rGTable_open hb
 have hsz : (w.alloc (.cells #[.int .i64 x.fID, .string (strB x.fName), .slice apColumns x.fColumns.length cpColumns, .slice apKey x.fKey.length cpKey] 39)).heap.size = w.heap.size + 1 := by simp
 have rowA : RowIs ((w.alloc (.cells #[.int .i64 x.fID, .string (strB x.fName), .slice apColumns x.fColumns.length cpColumns, .slice apKey x.fKey.length cpKey] 39)).alloc (.cells #[.int .i64 x.fID, .string (strB x.fName), .slice aqColumns x.fColumns.length cqColumns, .slice aqKey x.fKey.length cqKey] 39)) w.heap.size 39 [.int .i64 x.fID, .string (strB x.fName), .slice apColumns x.fColumns.length cpColumns, .slice apKey x.fKey.length cpKey] := (RowIs.alloc w _ _).keep ((Keep.refl Nix _).alloc _) id
 have rowB : RowIs ((w.alloc (.cells #[.int .i64 x.fID, .string (strB x.fName), .slice apColumns x.fColumns.length cpColumns, .slice apKey x.fKey.length cpKey] 39)).alloc (.cells #[.int .i64 x.fID, .string (strB x.fName), .slice aqColumns x.fColumns.length cqColumns, .slice aqKey x.fKey.length cqKey] 39)) (w.heap.size + 1) 39 [.int .i64 x.fID, .string (strB x.fName), .slice aqColumns x.fColumns.length cqColumns, .slice aqKey x.fKey.length cqKey] := by
  rw [← hsz]
  exact RowIs.alloc (w.alloc (.cells #[.int .i64 x.fID, .string (strB x.fName), .slice apColumns x.fColumns.length cpColumns, .slice apKey x.fKey.length cpKey] 39)) _ _
 have kk : Keep Nix w ((w.alloc (.cells #[.int .i64 x.fID, .string (strB x.fName), .slice apColumns x.fColumns.length cpColumns, .slice apKey x.fKey.length cpKey] 39)).alloc (.cells #[.int .i64 x.fID, .string (strB x.fName), .slice aqColumns x.fColumns.length cqColumns, .slice aqKey x.fKey.length cqKey] 39)) := ((Keep.refl Nix w).alloc _).alloc _
 clear hsz ha hb
 clear h0 g0
 clear h1 g1
 replace h2 := (rList_lawful rGColumn_lawful).nix h2 kk
 replace g2 := (rList_lawful rGColumn_lawful).nix g2 kk
 replace h3 := (rList_lawful (rInt_lawful _)).nix h3 kk
 replace g3 := (rList_lawful (rInt_lawful _)).nix g3 kk
 go_enter Tryz.func36, Tryz.ntmps36
 go_wp2_with fail
 go_fit (pl_Column _ x.fColumns _ _ _ _ _ _ h2 g2)
 rintro e w1 ⟨rfl, k1⟩
 replace rowA := rowA.keep k1 id
 replace rowB := rowB.keep k1 id
 replace kk := kk.trans k1
 replace h3 := (rList_lawful (rInt_lawful _)).nix h3 k1
 replace g3 := (rList_lawful (rInt_lawful _)).nix g3 k1
 clear k1
 clear h2 g2
 have xa3 : w1.cell? ⟨w.heap.size, 3, none⟩ = some (.slice apKey x.fKey.length cpKey) := rowA.cell 3
 have xb3 : w1.cell? ⟨w.heap.size + 1, 3, none⟩ = some (.slice aqKey x.fKey.length cqKey) := rowB.cell 3
 go_wp2_with fail
 clear xa3 xb3
 go_fit (pl_int _ x.fKey _ _ _ _ _ _ h3 g3)
 rintro e w2 ⟨rfl, k1⟩
 replace rowA := rowA.keep k1 id
 replace rowB := rowB.keep k1 id
 replace kk := kk.trans k1
 clear k1
 clear h3 g3
 go_wp2
 go_ret
 exact ⟨by first | rfl | simp, kk⟩
theorem lds_Table (a : Act) (dst : Option Tmp) (x : Operand) (ty : TypeId) (pos : String) (after : Array Edge) (guard : Option (Nat × Bool)) : execOp a.eval { dst := dst, op := .load 39 x, type := ty, pos := pos, after := after, guard := guard } = wholeSem 39 (a.eval x) := rfl
section
attribute [local go_sem ↓] lds_Table
set_option maxRecDepth 100000 in
set_option maxHeartbeats 4000000 in
theorem sm_Table {p q : Nat → Prop} (w : World) (l : List GTable) (a b : Option Addr) (n ca m cb : Nat) (ha : rList rGTable w p [.slice a n ca] l) (hb : rList rGTable w q [.slice b m cb] l) :
  Calls Tryz.prog 35 #[.slice a n ca, .slice b m cb, .func (.func 36) #[] #[]] w fun e w' => e = .returned (.bool true) ∧ Keep Nix w w' := by
 obtain ⟨hn, -, hf⟩ := rList_len ha
 obtain ⟨hm, -, -⟩ := rList_len hb
 subst hn hm
 have hfar : l.length ≤ 9223372036854775807 := by have := far_len; unfold maxLen at this; omega
 clear hf
 have kk0 : Keep Nix w w := Keep.refl _ _
 go_enter Tryz.func35, Tryz.ntmps35
 go_wp2_with fail
 go_loopw [6, 7] (fun r i wr => ∃ k : Nat, k ≤ l.length ∧ i = .int .i64 k ∧ r = .bool false ∧ Keep Nix w wr) (fun _ i _ => l.length - (intOf i).toNat)
 case atStart => exact ⟨0, by omega, rfl, rfl, kk0⟩
 case round =>
  clear kk0
  obtain ⟨k, hk, rfl, rfl, kk⟩ := hrel
  by_cases hlt : k < l.length
  ·have hi0 : (0 : Int) ≤ (k : Int) := by omega
   have hi1 : (k : Int) < (l.length : Int) := by omega
   obtain ⟨b1, o1, c1, ca', e1, -, hb1, rA, hcA⟩ := rList_at rGTable_lawful (by decide) ((rList_lawful rGTable_lawful).nix ha kk) k hlt
   obtain ⟨b2, o2, c2, cb', e2, -, hb2, rB, hcB⟩ := rList_at rGTable_lawful (by decide) ((rList_lawful rGTable_lawful).nix hb kk) k hlt
   simp only [List.cons.injEq, Value.slice.injEq, and_true] at e1 e2
   obtain ⟨e1, -, -⟩ := e1
   obtain ⟨e2, -, -⟩ := e2
   subst e1 e2
   clear ha hb
   have hlA := Lib.hid (rGTable_lawful.len rA)
   have hlB := Lib.hid (rGTable_lawful.len rB)
   generalize hv : l[k] = v at rA rB
   clear hv
   go_wp2_with fail
   refine wp_region_held_drew (S := (fun w' => (wholeSem 39 (.pointer (some ⟨b1, o1 + k * 4, none⟩))).run Tryz.prog w' = .ok (.value (.agg ca'.toArray)) w' ∧ (wholeSem 39 (.pointer (some ⟨b2, o2 + k * 4, none⟩))).run Tryz.prog w' = .ok (.value (.agg cb'.toArray)) w')) (by kernel_rfl) ⟨Whole.at (w := wr.drew) S_Table hlA.out hcA, Whole.at (w := wr.drew) S_Table hlB.out hcB⟩ (fun hHeld => ?_)
   refine wpAnyH_take (i := 0) (v := ?_) rfl (by kernel_rfl) (by kernel_rfl) (by kernel_rfl) (fun _ _ _ h => h) (Or.inl ⟨by rfl, ?_⟩) hHeld ?_
   rotate_left
   ·intro w' hSw
    (try dsimp only at hSw)
    go_simp
    try with_reducible rfl
   (try simp only [Act.put]); (try simp only [List.setIfInBounds_toArray]); (try simp only [List.set_cons_succ]); (try simp only [List.set_cons_zero])
   refine wpAnyH_take (i := 1) (v := ?_) rfl (by kernel_rfl) (by kernel_rfl) (by kernel_rfl) (fun _ _ _ h => h) (Or.inl ⟨by rfl, ?_⟩) hHeld ?_
   rotate_left
   ·intro w' hSw
    (try dsimp only at hSw)
    go_simp
    try with_reducible rfl
   (try simp only [Act.put]); (try simp only [List.setIfInBounds_toArray]); (try simp only [List.set_cons_succ]); (try simp only [List.set_cons_zero])
   refine wpAnyH_take (i := 2) (v := ?_) rfl (by kernel_rfl) (by kernel_rfl) (by kernel_rfl) (fun _ _ _ h => h) (Or.inl ⟨by rfl, ?_⟩) hHeld ?_
   rotate_left
   ·intro w' hSw
    (try dsimp only at hSw)
    go_simp
    try with_reducible rfl
   (try simp only [Act.put]); (try simp only [List.setIfInBounds_toArray]); (try simp only [List.set_cons_succ]); (try simp only [List.set_cons_zero])
   refine wpAnyH_take (i := 3) (v := ?_) rfl (by kernel_rfl) (by kernel_rfl) (by kernel_rfl) (fun _ _ _ h => h) (Or.inl ⟨by rfl, ?_⟩) hHeld ?_
   rotate_left
   ·intro w' hSw
    (try dsimp only at hSw)
    go_simp
    try with_reducible rfl
   (try simp only [Act.put]); (try simp only [List.setIfInBounds_toArray]); (try simp only [List.set_cons_succ]); (try simp only [List.set_cons_zero])
   refine wpAnyH_take (i := 4) (v := ?_) rfl (by kernel_rfl) (by kernel_rfl) (by kernel_rfl) (fun _ _ _ h => h) (Or.inl ⟨by rfl, ?_⟩) hHeld ?_
   rotate_left
   ·intro w' hSw
    (try dsimp only at hSw)
    try simp only [zz1, zz2, zz3]
    go_simp
    try with_reducible rfl
   (try simp only [Act.put]); (try simp only [List.setIfInBounds_toArray]); (try simp only [List.set_cons_succ]); (try simp only [List.set_cons_zero])
   refine wpAnyH_take (i := 5) (v := ?_) rfl (by kernel_rfl) (by kernel_rfl) (by kernel_rfl) (fun _ _ _ h => h) (Or.inl ⟨by rfl, ?_⟩) hHeld ?_
   rotate_left
   ·intro w' hSw
    (try dsimp only at hSw)
    go_simp
    try with_reducible rfl
   (try simp only [Act.put]); (try simp only [List.setIfInBounds_toArray]); (try simp only [List.set_cons_succ]); (try simp only [List.set_cons_zero])
   refine wpAnyH_take (i := 6) (v := ?_) rfl (by kernel_rfl) (by kernel_rfl) (by kernel_rfl) (fun _ _ _ h => h) (Or.inl ⟨by rfl, ?_⟩) hHeld ?_
   rotate_left
   ·intro w' hSw
    (try dsimp only at hSw)
    go_simp
    try with_reducible rfl
   (try simp only [Act.put]); (try simp only [List.setIfInBounds_toArray]); (try simp only [List.set_cons_succ]); (try simp only [List.set_cons_zero])
   refine wpAnyH_take (i := 7) (v := ?_) rfl (by kernel_rfl) (by kernel_rfl) (by kernel_rfl) (fun _ _ _ h => h) (Or.inl ⟨by rfl, ?_⟩) hHeld ?_
   rotate_left
   ·intro w' hSw
    (try dsimp only at hSw)
    go_simp
    try with_reducible rfl
   (try simp only [Act.put]); (try simp only [List.setIfInBounds_toArray]); (try simp only [List.set_cons_succ]); (try simp only [List.set_cons_zero])
   refine wpAnyH_take (i := 8) (v := ?_) rfl (by kernel_rfl) (by kernel_rfl) (by kernel_rfl) (fun _ _ _ h => h) (Or.inl ⟨by rfl, ?_⟩) hHeld ?_
   rotate_left
   ·intro w' hSw
    (try dsimp only at hSw)
    try simp only [zz1, zz2, zz3]
    go_simp
    try with_reducible rfl
   (try simp only [Act.put]); (try simp only [List.setIfInBounds_toArray]); (try simp only [List.set_cons_succ]); (try simp only [List.set_cons_zero])
   refine wpAnyH_ready (rs := [9]) (by kernel_rfl) (by simp) ?_
   refine AllReadyH.cons rfl (fun K hK => ?_) AllReadyH.nil
   go_simp
   go_fit (cmp_sTable_c _ v ca' cb' (rGTable_lawful.nix rA ((Keep.refl Nix wr).drew)) (rGTable_lawful.nix rB ((Keep.refl Nix wr).drew)))
   rintro e w2 ⟨rfl, k2⟩
   replace kk := kk.drew.trans k2
   replace hcA := fun j u hu => (k2.cell (p := ⟨b1, o1 + k * 4 + j, none⟩) hb1 id).trans (hcA j u hu)
   replace hcB := fun j u hu => (k2.cell (p := ⟨b2, o2 + k * 4 + j, none⟩) hb2 id).trans (hcB j u hu)
   clear k2 rA rB
   go_wp2_with fail
   refine hK.out _ _ ⟨Whole.at S_Table hlA.out hcA, Whole.at S_Table hlB.out hcB⟩ (fun hHeld => ?_)
   clear hK K
   (try simp only [Act.put]); (try simp only [List.setIfInBounds_toArray]); (try simp only [List.set_cons_succ]); (try simp only [List.set_cons_zero])
   refine wpAnyH_take (i := 10) (v := ?_) rfl (by kernel_rfl) (by kernel_rfl) (by kernel_rfl) (fun _ _ _ h => h) (Or.inl ⟨by rfl, ?_⟩) hHeld ?_
   rotate_left
   ·intro w' hSw
    (try dsimp only at hSw)
    go_simp
    try with_reducible rfl
   (try simp only [Act.put]); (try simp only [List.setIfInBounds_toArray]); (try simp only [List.set_cons_succ]); (try simp only [List.set_cons_zero])
   refine wpAnyH_done (by kernel_rfl) ?_ _
   clear hHeld
   go_wp2
   go_roundw
   case rel => exact ⟨k + 1, by omega, by go_num, rfl, kk⟩
   case measure => simp [intOf]; omega
  ·obtain rfl : k = l.length := by omega
   go_wp2_with fail
   go_ret
   exact ⟨rfl, kk⟩
end
set_option maxRecDepth 100000 in
set_option maxHeartbeats 8000000 in
theorem cmp_sIndex_c {p q : Nat → Prop} (w : World) (x : GIndex) (ca cb : List Value) (ha : rGIndex w p ca x) (hb : rGIndex w q cb x) : Calls Tryz.prog 38 #[.agg ca.toArray, .agg cb.toArray] w fun e w' => e = .returned (.bool true) ∧ Keep Nix w w' := by
 obtain ⟨apColumns, cpColumns, rfl, h0, h1, h2, h3, h5, -⟩ := rGIndex_open ha
 obtain ⟨aqColumns, cqColumns, rfl, g0, g1, g2, g3, g5, -⟩ := rGIndex_open hb
 have hsz : (w.alloc (.cells #[.int .i64 x.fID, .int .i64 x.fTable, .string (strB x.fName), .slice apColumns x.fColumns.length cpColumns, .bool x.fUnique, .int .i64 x.fState, .bool x.fBad] 41)).heap.size = w.heap.size + 1 := by simp
 have rowA : RowIs ((w.alloc (.cells #[.int .i64 x.fID, .int .i64 x.fTable, .string (strB x.fName), .slice apColumns x.fColumns.length cpColumns, .bool x.fUnique, .int .i64 x.fState, .bool x.fBad] 41)).alloc (.cells #[.int .i64 x.fID, .int .i64 x.fTable, .string (strB x.fName), .slice aqColumns x.fColumns.length cqColumns, .bool x.fUnique, .int .i64 x.fState, .bool x.fBad] 41)) w.heap.size 41 [.int .i64 x.fID, .int .i64 x.fTable, .string (strB x.fName), .slice apColumns x.fColumns.length cpColumns, .bool x.fUnique, .int .i64 x.fState, .bool x.fBad] := (RowIs.alloc w _ _).keep ((Keep.refl Nix _).alloc _) id
 have rowB : RowIs ((w.alloc (.cells #[.int .i64 x.fID, .int .i64 x.fTable, .string (strB x.fName), .slice apColumns x.fColumns.length cpColumns, .bool x.fUnique, .int .i64 x.fState, .bool x.fBad] 41)).alloc (.cells #[.int .i64 x.fID, .int .i64 x.fTable, .string (strB x.fName), .slice aqColumns x.fColumns.length cqColumns, .bool x.fUnique, .int .i64 x.fState, .bool x.fBad] 41)) (w.heap.size + 1) 41 [.int .i64 x.fID, .int .i64 x.fTable, .string (strB x.fName), .slice aqColumns x.fColumns.length cqColumns, .bool x.fUnique, .int .i64 x.fState, .bool x.fBad] := by
  rw [← hsz]
  exact RowIs.alloc (w.alloc (.cells #[.int .i64 x.fID, .int .i64 x.fTable, .string (strB x.fName), .slice apColumns x.fColumns.length cpColumns, .bool x.fUnique, .int .i64 x.fState, .bool x.fBad] 41)) _ _
 have kk : Keep Nix w ((w.alloc (.cells #[.int .i64 x.fID, .int .i64 x.fTable, .string (strB x.fName), .slice apColumns x.fColumns.length cpColumns, .bool x.fUnique, .int .i64 x.fState, .bool x.fBad] 41)).alloc (.cells #[.int .i64 x.fID, .int .i64 x.fTable, .string (strB x.fName), .slice aqColumns x.fColumns.length cqColumns, .bool x.fUnique, .int .i64 x.fState, .bool x.fBad] 41)) := ((Keep.refl Nix w).alloc _).alloc _
 clear hsz ha hb
 clear h0 g0
 clear h1 g1
 clear h2 g2
 replace h3 := (rList_lawful (rInt_lawful _)).nix h3 kk
 replace g3 := (rList_lawful (rInt_lawful _)).nix g3 kk
 clear h5 g5
 go_enter Tryz.func38, Tryz.ntmps38
 go_wp2_with fail
 go_fit (pl_int _ x.fColumns _ _ _ _ _ _ h3 g3)
 rintro e w1 ⟨rfl, k1⟩
 replace rowA := rowA.keep k1 id
 replace rowB := rowB.keep k1 id
 replace kk := kk.trans k1
 clear k1
 clear h3 g3
 have xa4 : w1.cell? ⟨w.heap.size, 4, none⟩ = some (.bool x.fUnique) := rowA.cell 4
 have xb4 : w1.cell? ⟨w.heap.size + 1, 4, none⟩ = some (.bool x.fUnique) := rowB.cell 4
 have xa5 : w1.cell? ⟨w.heap.size, 5, none⟩ = some (.int .i64 x.fState) := rowA.cell 5
 have xb5 : w1.cell? ⟨w.heap.size + 1, 5, none⟩ = some (.int .i64 x.fState) := rowB.cell 5
 have xa6 : w1.cell? ⟨w.heap.size, 6, none⟩ = some (.bool x.fBad) := rowA.cell 6
 have xb6 : w1.cell? ⟨w.heap.size + 1, 6, none⟩ = some (.bool x.fBad) := rowB.cell 6
 go_wp2
 go_ret
 exact ⟨by first | rfl | simp, kk⟩
theorem lds_Index (a : Act) (dst : Option Tmp) (x : Operand) (ty : TypeId) (pos : String) (after : Array Edge) (guard : Option (Nat × Bool)) : execOp a.eval { dst := dst, op := .load 41 x, type := ty, pos := pos, after := after, guard := guard } = wholeSem 41 (a.eval x) := rfl
section
attribute [local go_sem ↓] lds_Index
set_option maxRecDepth 100000 in
set_option maxHeartbeats 4000000 in
theorem sm_Index {p q : Nat → Prop} (w : World) (l : List GIndex) (a b : Option Addr) (n ca m cb : Nat) (ha : rList rGIndex w p [.slice a n ca] l) (hb : rList rGIndex w q [.slice b m cb] l) :
  Calls Tryz.prog 37 #[.slice a n ca, .slice b m cb, .func (.func 38) #[] #[]] w fun e w' => e = .returned (.bool true) ∧ Keep Nix w w' := by
 obtain ⟨hn, -, hf⟩ := rList_len ha
 obtain ⟨hm, -, -⟩ := rList_len hb
 subst hn hm
 have hfar : l.length ≤ 9223372036854775807 := by have := far_len; unfold maxLen at this; omega
 clear hf
 have kk0 : Keep Nix w w := Keep.refl _ _
 go_enter Tryz.func37, Tryz.ntmps37
 go_wp2_with fail
 go_loopw [6, 7] (fun r i wr => ∃ k : Nat, k ≤ l.length ∧ i = .int .i64 k ∧ r = .bool false ∧ Keep Nix w wr) (fun _ i _ => l.length - (intOf i).toNat)
 case atStart => exact ⟨0, by omega, rfl, rfl, kk0⟩
 case round =>
  clear kk0
  obtain ⟨k, hk, rfl, rfl, kk⟩ := hrel
  by_cases hlt : k < l.length
  ·have hi0 : (0 : Int) ≤ (k : Int) := by omega
   have hi1 : (k : Int) < (l.length : Int) := by omega
   obtain ⟨b1, o1, c1, ca', e1, -, hb1, rA, hcA⟩ := rList_at rGIndex_lawful (by decide) ((rList_lawful rGIndex_lawful).nix ha kk) k hlt
   obtain ⟨b2, o2, c2, cb', e2, -, hb2, rB, hcB⟩ := rList_at rGIndex_lawful (by decide) ((rList_lawful rGIndex_lawful).nix hb kk) k hlt
   simp only [List.cons.injEq, Value.slice.injEq, and_true] at e1 e2
   obtain ⟨e1, -, -⟩ := e1
   obtain ⟨e2, -, -⟩ := e2
   subst e1 e2
   clear ha hb
   have hlA := Lib.hid (rGIndex_lawful.len rA)
   have hlB := Lib.hid (rGIndex_lawful.len rB)
   generalize hv : l[k] = v at rA rB
   clear hv
   go_wp2_with fail
   refine wp_region_held_drew (S := (fun w' => (wholeSem 41 (.pointer (some ⟨b1, o1 + k * 7, none⟩))).run Tryz.prog w' = .ok (.value (.agg ca'.toArray)) w' ∧ (wholeSem 41 (.pointer (some ⟨b2, o2 + k * 7, none⟩))).run Tryz.prog w' = .ok (.value (.agg cb'.toArray)) w')) (by kernel_rfl) ⟨Whole.at (w := wr.drew) S_Index hlA.out hcA, Whole.at (w := wr.drew) S_Index hlB.out hcB⟩ (fun hHeld => ?_)
   refine wpAnyH_take (i := 0) (v := ?_) rfl (by kernel_rfl) (by kernel_rfl) (by kernel_rfl) (fun _ _ _ h => h) (Or.inl ⟨by rfl, ?_⟩) hHeld ?_
   rotate_left
   ·intro w' hSw
    (try dsimp only at hSw)
    go_simp
    try with_reducible rfl
   (try simp only [Act.put]); (try simp only [List.setIfInBounds_toArray]); (try simp only [List.set_cons_succ]); (try simp only [List.set_cons_zero])
   refine wpAnyH_take (i := 1) (v := ?_) rfl (by kernel_rfl) (by kernel_rfl) (by kernel_rfl) (fun _ _ _ h => h) (Or.inl ⟨by rfl, ?_⟩) hHeld ?_
   rotate_left
   ·intro w' hSw
    (try dsimp only at hSw)
    go_simp
    try with_reducible rfl
   (try simp only [Act.put]); (try simp only [List.setIfInBounds_toArray]); (try simp only [List.set_cons_succ]); (try simp only [List.set_cons_zero])
   refine wpAnyH_take (i := 2) (v := ?_) rfl (by kernel_rfl) (by kernel_rfl) (by kernel_rfl) (fun _ _ _ h => h) (Or.inl ⟨by rfl, ?_⟩) hHeld ?_
   rotate_left
   ·intro w' hSw
    (try dsimp only at hSw)
    go_simp
    try with_reducible rfl
   (try simp only [Act.put]); (try simp only [List.setIfInBounds_toArray]); (try simp only [List.set_cons_succ]); (try simp only [List.set_cons_zero])
   refine wpAnyH_take (i := 3) (v := ?_) rfl (by kernel_rfl) (by kernel_rfl) (by kernel_rfl) (fun _ _ _ h => h) (Or.inl ⟨by rfl, ?_⟩) hHeld ?_
   rotate_left
   ·intro w' hSw
    (try dsimp only at hSw)
    go_simp
    try with_reducible rfl
   (try simp only [Act.put]); (try simp only [List.setIfInBounds_toArray]); (try simp only [List.set_cons_succ]); (try simp only [List.set_cons_zero])
   refine wpAnyH_take (i := 4) (v := ?_) rfl (by kernel_rfl) (by kernel_rfl) (by kernel_rfl) (fun _ _ _ h => h) (Or.inl ⟨by rfl, ?_⟩) hHeld ?_
   rotate_left
   ·intro w' hSw
    (try dsimp only at hSw)
    try simp only [zz1, zz2, zz3]
    go_simp
    try with_reducible rfl
   (try simp only [Act.put]); (try simp only [List.setIfInBounds_toArray]); (try simp only [List.set_cons_succ]); (try simp only [List.set_cons_zero])
   refine wpAnyH_take (i := 5) (v := ?_) rfl (by kernel_rfl) (by kernel_rfl) (by kernel_rfl) (fun _ _ _ h => h) (Or.inl ⟨by rfl, ?_⟩) hHeld ?_
   rotate_left
   ·intro w' hSw
    (try dsimp only at hSw)
    go_simp
    try with_reducible rfl
   (try simp only [Act.put]); (try simp only [List.setIfInBounds_toArray]); (try simp only [List.set_cons_succ]); (try simp only [List.set_cons_zero])
   refine wpAnyH_take (i := 6) (v := ?_) rfl (by kernel_rfl) (by kernel_rfl) (by kernel_rfl) (fun _ _ _ h => h) (Or.inl ⟨by rfl, ?_⟩) hHeld ?_
   rotate_left
   ·intro w' hSw
    (try dsimp only at hSw)
    go_simp
    try with_reducible rfl
   (try simp only [Act.put]); (try simp only [List.setIfInBounds_toArray]); (try simp only [List.set_cons_succ]); (try simp only [List.set_cons_zero])
   refine wpAnyH_take (i := 7) (v := ?_) rfl (by kernel_rfl) (by kernel_rfl) (by kernel_rfl) (fun _ _ _ h => h) (Or.inl ⟨by rfl, ?_⟩) hHeld ?_
   rotate_left
   ·intro w' hSw
    (try dsimp only at hSw)
    go_simp
    try with_reducible rfl
   (try simp only [Act.put]); (try simp only [List.setIfInBounds_toArray]); (try simp only [List.set_cons_succ]); (try simp only [List.set_cons_zero])
   refine wpAnyH_take (i := 8) (v := ?_) rfl (by kernel_rfl) (by kernel_rfl) (by kernel_rfl) (fun _ _ _ h => h) (Or.inl ⟨by rfl, ?_⟩) hHeld ?_
   rotate_left
   ·intro w' hSw
    (try dsimp only at hSw)
    try simp only [zz1, zz2, zz3]
    go_simp
    try with_reducible rfl
   (try simp only [Act.put]); (try simp only [List.setIfInBounds_toArray]); (try simp only [List.set_cons_succ]); (try simp only [List.set_cons_zero])
   refine wpAnyH_ready (rs := [9]) (by kernel_rfl) (by simp) ?_
   refine AllReadyH.cons rfl (fun K hK => ?_) AllReadyH.nil
   go_simp
   go_fit (cmp_sIndex_c _ v ca' cb' (rGIndex_lawful.nix rA ((Keep.refl Nix wr).drew)) (rGIndex_lawful.nix rB ((Keep.refl Nix wr).drew)))
   rintro e w2 ⟨rfl, k2⟩
   replace kk := kk.drew.trans k2
   replace hcA := fun j u hu => (k2.cell (p := ⟨b1, o1 + k * 7 + j, none⟩) hb1 id).trans (hcA j u hu)
   replace hcB := fun j u hu => (k2.cell (p := ⟨b2, o2 + k * 7 + j, none⟩) hb2 id).trans (hcB j u hu)
   clear k2 rA rB
   go_wp2_with fail
   refine hK.out _ _ ⟨Whole.at S_Index hlA.out hcA, Whole.at S_Index hlB.out hcB⟩ (fun hHeld => ?_)
   clear hK K
   (try simp only [Act.put]); (try simp only [List.setIfInBounds_toArray]); (try simp only [List.set_cons_succ]); (try simp only [List.set_cons_zero])
   refine wpAnyH_take (i := 10) (v := ?_) rfl (by kernel_rfl) (by kernel_rfl) (by kernel_rfl) (fun _ _ _ h => h) (Or.inl ⟨by rfl, ?_⟩) hHeld ?_
   rotate_left
   ·intro w' hSw
    (try dsimp only at hSw)
    go_simp
    try with_reducible rfl
   (try simp only [Act.put]); (try simp only [List.setIfInBounds_toArray]); (try simp only [List.set_cons_succ]); (try simp only [List.set_cons_zero])
   refine wpAnyH_done (by kernel_rfl) ?_ _
   clear hHeld
   go_wp2
   go_roundw
   case rel => exact ⟨k + 1, by omega, by go_num, rfl, kk⟩
   case measure => simp [intOf]; omega
  ·obtain rfl : k = l.length := by omega
   go_wp2_with fail
   go_ret
   exact ⟨rfl, kk⟩
end
set_option maxRecDepth 100000 in
set_option maxHeartbeats 8000000 in
theorem sOwner_c {p q : Nat → Prop} (w : World) (x : GOwner) (ca cb : List Value) (ha : rGOwner w p ca x) (hb : rGOwner w q cb x) : Calls Tryz.prog 40 #[.agg ca.toArray, .agg cb.toArray] w fun e w' => e = .returned (.bool true) ∧ Keep Nix w w' := by
 obtain ⟨apFrom, cpFrom, rfl, h0, h1, -⟩ := rGOwner_open ha
 obtain ⟨aqFrom, cqFrom, rfl, g0, g1, -⟩ := rGOwner_open hb
 have hsz : (w.alloc (.cells #[.int .i64 x.fGroup, .slice apFrom x.fFrom.length cpFrom] 97)).heap.size = w.heap.size + 1 := by simp
 have rowA : RowIs ((w.alloc (.cells #[.int .i64 x.fGroup, .slice apFrom x.fFrom.length cpFrom] 97)).alloc (.cells #[.int .i64 x.fGroup, .slice aqFrom x.fFrom.length cqFrom] 97)) w.heap.size 97 [.int .i64 x.fGroup, .slice apFrom x.fFrom.length cpFrom] := (RowIs.alloc w _ _).keep ((Keep.refl Nix _).alloc _) id
 have rowB : RowIs ((w.alloc (.cells #[.int .i64 x.fGroup, .slice apFrom x.fFrom.length cpFrom] 97)).alloc (.cells #[.int .i64 x.fGroup, .slice aqFrom x.fFrom.length cqFrom] 97)) (w.heap.size + 1) 97 [.int .i64 x.fGroup, .slice aqFrom x.fFrom.length cqFrom] := by
  rw [← hsz]
  exact RowIs.alloc (w.alloc (.cells #[.int .i64 x.fGroup, .slice apFrom x.fFrom.length cpFrom] 97)) _ _
 have kk : Keep Nix w ((w.alloc (.cells #[.int .i64 x.fGroup, .slice apFrom x.fFrom.length cpFrom] 97)).alloc (.cells #[.int .i64 x.fGroup, .slice aqFrom x.fFrom.length cqFrom] 97)) := ((Keep.refl Nix w).alloc _).alloc _
 clear hsz ha hb
 clear h0 g0
 replace h1 := h1.1.keep kk (fun _ _ h => h)
 replace g1 := g1.1.keep kk (fun _ _ h => h)
 go_enter Tryz.func40, Tryz.ntmps40
 go_wp2_with fail
 go_fit (bytesT_c _ _ _ _ _ _ x.fFrom _ rfl rfl h1 g1)
 rintro e w1' ⟨rfl, rfl⟩
 clear h1 g1
 go_wp2
 go_ret
 exact ⟨by first | rfl | simp, kk⟩
theorem lds_Owner (a : Act) (dst : Option Tmp) (x : Operand) (ty : TypeId) (pos : String) (after : Array Edge) (guard : Option (Nat × Bool)) : execOp a.eval { dst := dst, op := .load 97 x, type := ty, pos := pos, after := after, guard := guard } = wholeSem 97 (a.eval x) := rfl
section
attribute [local go_sem ↓] lds_Owner
set_option maxRecDepth 100000 in
set_option maxHeartbeats 4000000 in
theorem sm_Owner {p q : Nat → Prop} (w : World) (l : List GOwner) (a b : Option Addr) (n ca m cb : Nat) (ha : rList rGOwner w p [.slice a n ca] l) (hb : rList rGOwner w q [.slice b m cb] l) :
  Calls Tryz.prog 39 #[.slice a n ca, .slice b m cb, .func (.func 40) #[] #[]] w fun e w' => e = .returned (.bool true) ∧ Keep Nix w w' := by
 obtain ⟨hn, -, hf⟩ := rList_len ha
 obtain ⟨hm, -, -⟩ := rList_len hb
 subst hn hm
 have hfar : l.length ≤ 9223372036854775807 := by have := far_len; unfold maxLen at this; omega
 clear hf
 have kk0 : Keep Nix w w := Keep.refl _ _
 go_enter Tryz.func39, Tryz.ntmps39
 go_wp2_with fail
 go_loopw [6, 7] (fun r i wr => ∃ k : Nat, k ≤ l.length ∧ i = .int .i64 k ∧ r = .bool false ∧ Keep Nix w wr) (fun _ i _ => l.length - (intOf i).toNat)
 case atStart => exact ⟨0, by omega, rfl, rfl, kk0⟩
 case round =>
  clear kk0
  obtain ⟨k, hk, rfl, rfl, kk⟩ := hrel
  by_cases hlt : k < l.length
  ·have hi0 : (0 : Int) ≤ (k : Int) := by omega
   have hi1 : (k : Int) < (l.length : Int) := by omega
   obtain ⟨b1, o1, c1, ca', e1, -, hb1, rA, hcA⟩ := rList_at rGOwner_lawful (by decide) ((rList_lawful rGOwner_lawful).nix ha kk) k hlt
   obtain ⟨b2, o2, c2, cb', e2, -, hb2, rB, hcB⟩ := rList_at rGOwner_lawful (by decide) ((rList_lawful rGOwner_lawful).nix hb kk) k hlt
   simp only [List.cons.injEq, Value.slice.injEq, and_true] at e1 e2
   obtain ⟨e1, -, -⟩ := e1
   obtain ⟨e2, -, -⟩ := e2
   subst e1 e2
   clear ha hb
   have hlA := Lib.hid (rGOwner_lawful.len rA)
   have hlB := Lib.hid (rGOwner_lawful.len rB)
   generalize hv : l[k] = v at rA rB
   clear hv
   go_wp2_with fail
   refine wp_region_held_drew (S := (fun w' => (wholeSem 97 (.pointer (some ⟨b1, o1 + k * 2, none⟩))).run Tryz.prog w' = .ok (.value (.agg ca'.toArray)) w' ∧ (wholeSem 97 (.pointer (some ⟨b2, o2 + k * 2, none⟩))).run Tryz.prog w' = .ok (.value (.agg cb'.toArray)) w')) (by kernel_rfl) ⟨Whole.at (w := wr.drew) S_Owner hlA.out hcA, Whole.at (w := wr.drew) S_Owner hlB.out hcB⟩ (fun hHeld => ?_)
   refine wpAnyH_take (i := 0) (v := ?_) rfl (by kernel_rfl) (by kernel_rfl) (by kernel_rfl) (fun _ _ _ h => h) (Or.inl ⟨by rfl, ?_⟩) hHeld ?_
   rotate_left
   ·intro w' hSw
    (try dsimp only at hSw)
    go_simp
    try with_reducible rfl
   (try simp only [Act.put]); (try simp only [List.setIfInBounds_toArray]); (try simp only [List.set_cons_succ]); (try simp only [List.set_cons_zero])
   refine wpAnyH_take (i := 1) (v := ?_) rfl (by kernel_rfl) (by kernel_rfl) (by kernel_rfl) (fun _ _ _ h => h) (Or.inl ⟨by rfl, ?_⟩) hHeld ?_
   rotate_left
   ·intro w' hSw
    (try dsimp only at hSw)
    go_simp
    try with_reducible rfl
   (try simp only [Act.put]); (try simp only [List.setIfInBounds_toArray]); (try simp only [List.set_cons_succ]); (try simp only [List.set_cons_zero])
   refine wpAnyH_take (i := 2) (v := ?_) rfl (by kernel_rfl) (by kernel_rfl) (by kernel_rfl) (fun _ _ _ h => h) (Or.inl ⟨by rfl, ?_⟩) hHeld ?_
   rotate_left
   ·intro w' hSw
    (try dsimp only at hSw)
    go_simp
    try with_reducible rfl
   (try simp only [Act.put]); (try simp only [List.setIfInBounds_toArray]); (try simp only [List.set_cons_succ]); (try simp only [List.set_cons_zero])
   refine wpAnyH_take (i := 3) (v := ?_) rfl (by kernel_rfl) (by kernel_rfl) (by kernel_rfl) (fun _ _ _ h => h) (Or.inl ⟨by rfl, ?_⟩) hHeld ?_
   rotate_left
   ·intro w' hSw
    (try dsimp only at hSw)
    go_simp
    try with_reducible rfl
   (try simp only [Act.put]); (try simp only [List.setIfInBounds_toArray]); (try simp only [List.set_cons_succ]); (try simp only [List.set_cons_zero])
   refine wpAnyH_take (i := 4) (v := ?_) rfl (by kernel_rfl) (by kernel_rfl) (by kernel_rfl) (fun _ _ _ h => h) (Or.inl ⟨by rfl, ?_⟩) hHeld ?_
   rotate_left
   ·intro w' hSw
    (try dsimp only at hSw)
    try simp only [zz1, zz2, zz3]
    go_simp
    try with_reducible rfl
   (try simp only [Act.put]); (try simp only [List.setIfInBounds_toArray]); (try simp only [List.set_cons_succ]); (try simp only [List.set_cons_zero])
   refine wpAnyH_take (i := 5) (v := ?_) rfl (by kernel_rfl) (by kernel_rfl) (by kernel_rfl) (fun _ _ _ h => h) (Or.inl ⟨by rfl, ?_⟩) hHeld ?_
   rotate_left
   ·intro w' hSw
    (try dsimp only at hSw)
    go_simp
    try with_reducible rfl
   (try simp only [Act.put]); (try simp only [List.setIfInBounds_toArray]); (try simp only [List.set_cons_succ]); (try simp only [List.set_cons_zero])
   refine wpAnyH_take (i := 6) (v := ?_) rfl (by kernel_rfl) (by kernel_rfl) (by kernel_rfl) (fun _ _ _ h => h) (Or.inl ⟨by rfl, ?_⟩) hHeld ?_
   rotate_left
   ·intro w' hSw
    (try dsimp only at hSw)
    go_simp
    try with_reducible rfl
   (try simp only [Act.put]); (try simp only [List.setIfInBounds_toArray]); (try simp only [List.set_cons_succ]); (try simp only [List.set_cons_zero])
   refine wpAnyH_take (i := 7) (v := ?_) rfl (by kernel_rfl) (by kernel_rfl) (by kernel_rfl) (fun _ _ _ h => h) (Or.inl ⟨by rfl, ?_⟩) hHeld ?_
   rotate_left
   ·intro w' hSw
    (try dsimp only at hSw)
    go_simp
    try with_reducible rfl
   (try simp only [Act.put]); (try simp only [List.setIfInBounds_toArray]); (try simp only [List.set_cons_succ]); (try simp only [List.set_cons_zero])
   refine wpAnyH_take (i := 8) (v := ?_) rfl (by kernel_rfl) (by kernel_rfl) (by kernel_rfl) (fun _ _ _ h => h) (Or.inl ⟨by rfl, ?_⟩) hHeld ?_
   rotate_left
   ·intro w' hSw
    (try dsimp only at hSw)
    try simp only [zz1, zz2, zz3]
    go_simp
    try with_reducible rfl
   (try simp only [Act.put]); (try simp only [List.setIfInBounds_toArray]); (try simp only [List.set_cons_succ]); (try simp only [List.set_cons_zero])
   refine wpAnyH_ready (rs := [9]) (by kernel_rfl) (by simp) ?_
   refine AllReadyH.cons rfl (fun K hK => ?_) AllReadyH.nil
   go_simp
   go_fit (sOwner_c _ v ca' cb' (rGOwner_lawful.nix rA ((Keep.refl Nix wr).drew)) (rGOwner_lawful.nix rB ((Keep.refl Nix wr).drew)))
   rintro e w2 ⟨rfl, k2⟩
   replace kk := kk.drew.trans k2
   replace hcA := fun j u hu => (k2.cell (p := ⟨b1, o1 + k * 2 + j, none⟩) hb1 id).trans (hcA j u hu)
   replace hcB := fun j u hu => (k2.cell (p := ⟨b2, o2 + k * 2 + j, none⟩) hb2 id).trans (hcB j u hu)
   clear k2 rA rB
   go_wp2_with fail
   refine hK.out _ _ ⟨Whole.at S_Owner hlA.out hcA, Whole.at S_Owner hlB.out hcB⟩ (fun hHeld => ?_)
   clear hK K
   (try simp only [Act.put]); (try simp only [List.setIfInBounds_toArray]); (try simp only [List.set_cons_succ]); (try simp only [List.set_cons_zero])
   refine wpAnyH_take (i := 10) (v := ?_) rfl (by kernel_rfl) (by kernel_rfl) (by kernel_rfl) (fun _ _ _ h => h) (Or.inl ⟨by rfl, ?_⟩) hHeld ?_
   rotate_left
   ·intro w' hSw
    (try dsimp only at hSw)
    go_simp
    try with_reducible rfl
   (try simp only [Act.put]); (try simp only [List.setIfInBounds_toArray]); (try simp only [List.set_cons_succ]); (try simp only [List.set_cons_zero])
   refine wpAnyH_done (by kernel_rfl) ?_ _
   clear hHeld
   go_wp2
   go_roundw
   case rel => exact ⟨k + 1, by omega, by go_num, rfl, kk⟩
   case measure => simp [intOf]; omega
  ·obtain rfl : k = l.length := by omega
   go_wp2_with fail
   go_ret
   exact ⟨rfl, kk⟩
end
end Go.Proofs.YtibaehlfpgipfaaGreat
namespace Go.Proofs.YtibaehlfpgipfaaGreat
open Go.RowKit
set_option maxRecDepth 100000 in
set_option maxHeartbeats 8000000 in
theorem cmp_sCatalog_c {p q : Nat → Prop} (w : World) (x : GCatalog) (ca cb : List Value) (ha : rGCatalog w p ca x) (hb : rGCatalog w q cb x) : Calls Tryz.prog 13 #[.agg ca.toArray, .agg cb.toArray] w fun e w' => e = .returned (.bool true) ∧ Keep Nix w w' := by
 obtain ⟨apTables, cpTables, apIndexes, cpIndexes, rfl, h0, h1, h2, h3, -⟩ := rGCatalog_open ha
 obtain ⟨aqTables, cqTables, aqIndexes, cqIndexes, rfl, g0, g1, g2, g3, -⟩ := rGCatalog_open hb
 have hsz : (w.alloc (.cells #[.int .i64 x.fVersion, .int .i64 x.fNext, .slice apTables x.fTables.length cpTables, .slice apIndexes x.fIndexes.length cpIndexes] 50)).heap.size = w.heap.size + 1 := by simp
 have rowA : RowIs ((w.alloc (.cells #[.int .i64 x.fVersion, .int .i64 x.fNext, .slice apTables x.fTables.length cpTables, .slice apIndexes x.fIndexes.length cpIndexes] 50)).alloc (.cells #[.int .i64 x.fVersion, .int .i64 x.fNext, .slice aqTables x.fTables.length cqTables, .slice aqIndexes x.fIndexes.length cqIndexes] 50)) w.heap.size 50 [.int .i64 x.fVersion, .int .i64 x.fNext, .slice apTables x.fTables.length cpTables, .slice apIndexes x.fIndexes.length cpIndexes] := (RowIs.alloc w _ _).keep ((Keep.refl Nix _).alloc _) id
 have rowB : RowIs ((w.alloc (.cells #[.int .i64 x.fVersion, .int .i64 x.fNext, .slice apTables x.fTables.length cpTables, .slice apIndexes x.fIndexes.length cpIndexes] 50)).alloc (.cells #[.int .i64 x.fVersion, .int .i64 x.fNext, .slice aqTables x.fTables.length cqTables, .slice aqIndexes x.fIndexes.length cqIndexes] 50)) (w.heap.size + 1) 50 [.int .i64 x.fVersion, .int .i64 x.fNext, .slice aqTables x.fTables.length cqTables, .slice aqIndexes x.fIndexes.length cqIndexes] := by
  rw [← hsz]
  exact RowIs.alloc (w.alloc (.cells #[.int .i64 x.fVersion, .int .i64 x.fNext, .slice apTables x.fTables.length cpTables, .slice apIndexes x.fIndexes.length cpIndexes] 50)) _ _
 have kk : Keep Nix w ((w.alloc (.cells #[.int .i64 x.fVersion, .int .i64 x.fNext, .slice apTables x.fTables.length cpTables, .slice apIndexes x.fIndexes.length cpIndexes] 50)).alloc (.cells #[.int .i64 x.fVersion, .int .i64 x.fNext, .slice aqTables x.fTables.length cqTables, .slice aqIndexes x.fIndexes.length cqIndexes] 50)) := ((Keep.refl Nix w).alloc _).alloc _
 clear hsz ha hb
 clear h0 g0
 clear h1 g1
 replace h2 := (rList_lawful rGTable_lawful).nix h2 kk
 replace g2 := (rList_lawful rGTable_lawful).nix g2 kk
 replace h3 := (rList_lawful rGIndex_lawful).nix h3 kk
 replace g3 := (rList_lawful rGIndex_lawful).nix g3 kk
 go_enter Tryz.func13, Tryz.ntmps13
 go_wp2_with fail
 go_fit (sm_Table _ x.fTables _ _ _ _ _ _ h2 g2)
 rintro e w1 ⟨rfl, k1⟩
 replace rowA := rowA.keep k1 id
 replace rowB := rowB.keep k1 id
 replace kk := kk.trans k1
 replace h3 := (rList_lawful rGIndex_lawful).nix h3 k1
 replace g3 := (rList_lawful rGIndex_lawful).nix g3 k1
 clear k1
 clear h2 g2
 have xa3 : w1.cell? ⟨w.heap.size, 3, none⟩ = some (.slice apIndexes x.fIndexes.length cpIndexes) := rowA.cell 3
 have xb3 : w1.cell? ⟨w.heap.size + 1, 3, none⟩ = some (.slice aqIndexes x.fIndexes.length cqIndexes) := rowB.cell 3
 go_wp2_with fail
 clear xa3 xb3
 go_fit (sm_Index _ x.fIndexes _ _ _ _ _ _ h3 g3)
 rintro e w2 ⟨rfl, k1⟩
 replace rowA := rowA.keep k1 id
 replace rowB := rowB.keep k1 id
 replace kk := kk.trans k1
 clear k1
 clear h3 g3
 go_wp2
 go_ret
 exact ⟨by first | rfl | simp, kk⟩
set_option maxRecDepth 100000 in
set_option maxHeartbeats 8000000 in
theorem sRoutes_c {p q : Nat → Prop} (w : World) (x : GRoutes) (ca cb : List Value) (ha : rGRoutes w p ca x) (hb : rGRoutes w q cb x) : Calls Tryz.prog 14 #[.agg ca.toArray, .agg cb.toArray] w fun e w' => e = .returned (.bool true) ∧ Keep Nix w w' := by
 obtain ⟨apSpans, cpSpans, apCut, cpCut, rfl, h0, h1, h2, h3, h4, -⟩ := rGRoutes_open ha
 obtain ⟨aqSpans, cqSpans, aqCut, cqCut, rfl, g0, g1, g2, g3, g4, -⟩ := rGRoutes_open hb
 have hsz : (w.alloc (.cells #[.int .i64 x.fEpoch, .int .i64 x.fBase, .slice apSpans x.fSpans.length cpSpans, .int .i64 x.fMoving, .slice apCut x.fCut.length cpCut] 53)).heap.size = w.heap.size + 1 := by simp
 have rowA : RowIs ((w.alloc (.cells #[.int .i64 x.fEpoch, .int .i64 x.fBase, .slice apSpans x.fSpans.length cpSpans, .int .i64 x.fMoving, .slice apCut x.fCut.length cpCut] 53)).alloc (.cells #[.int .i64 x.fEpoch, .int .i64 x.fBase, .slice aqSpans x.fSpans.length cqSpans, .int .i64 x.fMoving, .slice aqCut x.fCut.length cqCut] 53)) w.heap.size 53 [.int .i64 x.fEpoch, .int .i64 x.fBase, .slice apSpans x.fSpans.length cpSpans, .int .i64 x.fMoving, .slice apCut x.fCut.length cpCut] := (RowIs.alloc w _ _).keep ((Keep.refl Nix _).alloc _) id
 have rowB : RowIs ((w.alloc (.cells #[.int .i64 x.fEpoch, .int .i64 x.fBase, .slice apSpans x.fSpans.length cpSpans, .int .i64 x.fMoving, .slice apCut x.fCut.length cpCut] 53)).alloc (.cells #[.int .i64 x.fEpoch, .int .i64 x.fBase, .slice aqSpans x.fSpans.length cqSpans, .int .i64 x.fMoving, .slice aqCut x.fCut.length cqCut] 53)) (w.heap.size + 1) 53 [.int .i64 x.fEpoch, .int .i64 x.fBase, .slice aqSpans x.fSpans.length cqSpans, .int .i64 x.fMoving, .slice aqCut x.fCut.length cqCut] := by
  rw [← hsz]
  exact RowIs.alloc (w.alloc (.cells #[.int .i64 x.fEpoch, .int .i64 x.fBase, .slice apSpans x.fSpans.length cpSpans, .int .i64 x.fMoving, .slice apCut x.fCut.length cpCut] 53)) _ _
 have kk : Keep Nix w ((w.alloc (.cells #[.int .i64 x.fEpoch, .int .i64 x.fBase, .slice apSpans x.fSpans.length cpSpans, .int .i64 x.fMoving, .slice apCut x.fCut.length cpCut] 53)).alloc (.cells #[.int .i64 x.fEpoch, .int .i64 x.fBase, .slice aqSpans x.fSpans.length cqSpans, .int .i64 x.fMoving, .slice aqCut x.fCut.length cqCut] 53)) := ((Keep.refl Nix w).alloc _).alloc _
 clear hsz ha hb
 clear h0 g0
 clear h1 g1
 replace h2 := (rList_lawful rGOwner_lawful).nix h2 kk
 replace g2 := (rList_lawful rGOwner_lawful).nix g2 kk
 clear h3 g3
 replace h4 := h4.1.keep kk (fun _ _ h => h)
 replace g4 := g4.1.keep kk (fun _ _ h => h)
 go_enter Tryz.func14, Tryz.ntmps14
 go_wp2_with fail
 go_fit (sm_Owner _ x.fSpans _ _ _ _ _ _ h2 g2)
 rintro e w1 ⟨rfl, k1⟩
 replace rowA := rowA.keep k1 id
 replace rowB := rowB.keep k1 id
 replace kk := kk.trans k1
 replace h4 := h4.keep k1 (fun _ _ h => h)
 replace g4 := g4.keep k1 (fun _ _ h => h)
 clear k1
 clear h2 g2
 have xa3 : w1.cell? ⟨w.heap.size, 3, none⟩ = some (.int .i64 x.fMoving) := rowA.cell 3
 have xb3 : w1.cell? ⟨w.heap.size + 1, 3, none⟩ = some (.int .i64 x.fMoving) := rowB.cell 3
 have xa4 : w1.cell? ⟨w.heap.size, 4, none⟩ = some (.slice apCut x.fCut.length cpCut) := rowA.cell 4
 have xb4 : w1.cell? ⟨w.heap.size + 1, 4, none⟩ = some (.slice aqCut x.fCut.length cqCut) := rowB.cell 4
 go_wp2_with fail
 clear xa3 xb3 xa4 xb4
 go_fit (bytesT_c _ _ _ _ _ _ x.fCut _ rfl rfl h4 g4)
 rintro e w2' ⟨rfl, rfl⟩
 clear h4 g4
 go_wp2
 go_ret
 exact ⟨by first | rfl | simp, kk⟩
end Go.Proofs.YtibaehlfpgipfaaGreat
