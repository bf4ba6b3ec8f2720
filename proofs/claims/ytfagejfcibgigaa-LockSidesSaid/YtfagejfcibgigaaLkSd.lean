/- LOCK: the law LockSides. Printed by mac.py. -/
import Derived.Test.YtfagejfcibgigaaLkSd0
import Derived.Test.YtfagejfcibgigaaLkNil
import Derived.Deep.DeepCutAuto
import Derived.Deep.CutBlock
namespace Go.Proofs.Ytfagejfcibgigaa
open Go.RowKit Go.Shelf

namespace lockSides
theorem one_R {α : Type} {R : RD α} {w : World} {p : Nat → Prop} {b : Nat} {c : List Value} {x : α} (hl : Lies w p (some ⟨b, 0, none⟩) c) (hr : R w p c x) : rList R w p [.slice (some ⟨b, 0, none⟩) 1 1] [x] :=
  ⟨some ⟨b, 0, none⟩, 1, [c], rfl, rfl, by simpa using hl, Nat.le_refl _, (by show 1 ≤ far; decide), fun i d y hd hy => by
    match i, hd, hy with
    | 0, hd, hy =>
      have hd' : d = c := by simpa using hd.symm
      have hy' : y = x := by simpa using hy.symm
      subst hd' hy'
      exact hr
    | i + 1, hd, hy => simp at hd⟩
set_option maxRecDepth 100000 in
set_option maxHeartbeats 16000000 in
theorem sides_walk (W : World) (a b : GHeld) (csa csb : List Value) (ak : Option Addr) (cp : Nat) (key : List UInt8) (ha : rGHeld W (· < W.heap.size) csa a) (hb : rGHeld W (· < W.heap.size) csb b) (hl : Lies W (· < W.heap.size) ak (key.map bv)) (hlc : key.length ≤ cp) (hlf : key.length ≤ far) :
    Calls Try.prog 4 #[.agg csa.toArray, .agg csb.toArray, .slice ak key.length cp] W fun e w' => e = .returned (.bool true) ∧ Keep Nix W w' := by
  have ha2 := ha
  have hb2 := hb
  obtain ⟨aK, cK, aS, cS, aW, cW, rfl, hta, hKa, hSa, hWa, -⟩ := rGHeld_open ha
  obtain ⟨bK, dK, bS, dS, bW, dW, rfl, htb, hKb, hSb, hWb, -⟩ := rGHeld_open hb
  have HPA := Lib.hid (And.intro hKa hSa)
  have HPB := Lib.hid (And.intro hKb hSb)
  have k0 : Keep Nix W (((W.alloc (.cells #[.int .u64 a.fTxn, .slice aK a.fKeys.length cK, .slice aS a.fSpans.length cS, .slice aW a.fWrites.length cW] 28))).alloc (.cells #[.int .u64 b.fTxn, .slice bK b.fKeys.length dK, .slice bS b.fSpans.length dS, .slice bW b.fWrites.length dW] 28)) := ((Keep.refl Nix W).alloc _).alloc _
  have rowA0 : RowIs (((W.alloc (.cells #[.int .u64 a.fTxn, .slice aK a.fKeys.length cK, .slice aS a.fSpans.length cS, .slice aW a.fWrites.length cW] 28))).alloc (.cells #[.int .u64 b.fTxn, .slice bK b.fKeys.length dK, .slice bS b.fSpans.length dS, .slice bW b.fWrites.length dW] 28)) W.heap.size 28 [.int .u64 a.fTxn, .slice aK a.fKeys.length cK, .slice aS a.fSpans.length cS, .slice aW a.fWrites.length cW] := (RowIs.alloc W _ _).keep ((Keep.refl Nix _).alloc _) id
  have rowB0 : RowIs (((W.alloc (.cells #[.int .u64 a.fTxn, .slice aK a.fKeys.length cK, .slice aS a.fSpans.length cS, .slice aW a.fWrites.length cW] 28))).alloc (.cells #[.int .u64 b.fTxn, .slice bK b.fKeys.length dK, .slice bS b.fSpans.length dS, .slice bW b.fWrites.length dW] 28)) (W.heap.size + 1) 28 [.int .u64 b.fTxn, .slice bK b.fKeys.length dK, .slice bS b.fSpans.length dS, .slice bW b.fWrites.length dW] := by
    have h := RowIs.alloc (W.alloc (.cells #[.int .u64 a.fTxn, .slice aK a.fKeys.length cK, .slice aS a.fSpans.length cS, .slice aW a.fWrites.length cW] 28)) #[.int .u64 b.fTxn, .slice bK b.fKeys.length dK, .slice bS b.fSpans.length dS, .slice bW b.fWrites.length dW] 28
    simpa using h
  have hS0 : Hid (((((W.alloc (.cells #[.int .u64 a.fTxn, .slice aK a.fKeys.length cK, .slice aS a.fSpans.length cS, .slice aW a.fWrites.length cW] 28))).alloc (.cells #[.int .u64 b.fTxn, .slice bK b.fKeys.length dK, .slice bS b.fSpans.length dS, .slice bW b.fWrites.length dW] 28))).heap.size = W.heap.size + 2) := by show _ = _; simp
  have HFF : Hid (∀ w', Keep (fun x => ((((W.alloc (.cells #[.int .u64 a.fTxn, .slice aK a.fKeys.length cK, .slice aS a.fSpans.length cS, .slice aW a.fWrites.length cW] 28))).alloc (.cells #[.int .u64 b.fTxn, .slice bK b.fKeys.length dK, .slice bS b.fSpans.length dS, .slice bW b.fWrites.length dW] 28))).heap.size ≤ x) (((W.alloc (.cells #[.int .u64 a.fTxn, .slice aK a.fKeys.length cK, .slice aS a.fSpans.length cS, .slice aW a.fWrites.length cW] 28))).alloc (.cells #[.int .u64 b.fTxn, .slice bK b.fKeys.length dK, .slice bS b.fSpans.length dS, .slice bW b.fWrites.length dW] 28)) w' → rGHeld w' (· < W.heap.size) [.int .u64 a.fTxn, .slice aK a.fKeys.length cK, .slice aS a.fSpans.length cS, .slice aW a.fWrites.length cW] a ∧ rGHeld w' (· < W.heap.size) [.int .u64 b.fTxn, .slice bK b.fKeys.length dK, .slice bS b.fSpans.length dS, .slice bW b.fWrites.length dW] b ∧ RowIs w' W.heap.size 28 [.int .u64 a.fTxn, .slice aK a.fKeys.length cK, .slice aS a.fSpans.length cS, .slice aW a.fWrites.length cW] ∧ RowIs w' (W.heap.size + 1) 28 [.int .u64 b.fTxn, .slice bK b.fKeys.length dK, .slice bS b.fSpans.length dS, .slice bW b.fWrites.length dW] ∧ Lies w' (· < W.heap.size) ak (key.map bv)) := fun w' k => by
    have hz := hS0.out
    have hd : ∀ x, x < W.heap.size → ¬ ((((W.alloc (.cells #[.int .u64 a.fTxn, .slice aK a.fKeys.length cK, .slice aS a.fSpans.length cS, .slice aW a.fWrites.length cW] 28))).alloc (.cells #[.int .u64 b.fTxn, .slice bK b.fKeys.length dK, .slice bS b.fSpans.length dS, .slice bW b.fWrites.length dW] 28))).heap.size ≤ x := fun x hx => by omega
    exact ⟨rGHeld_lawful.keep (rGHeld_lawful.nix ha2 k0) k hd, rGHeld_lawful.keep (rGHeld_lawful.nix hb2 k0) k hd, rowA0.keep k (by omega), rowB0.keep k (by omega), (hl.keep k0 (fun _ _ h => h)).keep k hd⟩
  have HL := Lib.hid hl
  clear ha hb ha2 hb2 hl rowA0 rowB0 hKa hSa hWa hKb hSb hWb
  go_enter Try.func4, Try.ntmps4
  go_upto_region 1 with fail
  generalize (((W.alloc (.cells #[.int .u64 a.fTxn, .slice aK a.fKeys.length cK, .slice aS a.fSpans.length cS, .slice aW a.fWrites.length cW] 28))).alloc (.cells #[.int .u64 b.fTxn, .slice bK b.fKeys.length dK, .slice bS b.fSpans.length dS, .slice bW b.fWrites.length dW] 28)) = w0 at *
  have kz : Keep (fun x => w0.heap.size ≤ x) w0 w0 := Keep.refl _ _
  go_wp2_with fail
  go_fit (awake_c w0)
  rintro e w1 ⟨rfl, k⟩
  replace kz := kz.trans k.nix
  clear k
  obtain ⟨ra, rb, rowA, rowB, lk⟩ := HFF.out _ kz
  have ya0 := rowA.cell 0
  have yb0 := rowB.cell 0
  (try simp only [List.getElem?_cons_zero] at ya0 yb0)
  have ya1 := rowA.cell 1
  (try simp only [List.getElem?_cons_succ] at ya1); (try simp only [List.getElem?_cons_zero] at ya1)
  have ya2 := rowA.cell 2
  (try simp only [List.getElem?_cons_succ] at ya2); (try simp only [List.getElem?_cons_zero] at ya2)
  have ya3 := rowA.cell 3
  (try simp only [List.getElem?_cons_succ] at ya3); (try simp only [List.getElem?_cons_zero] at ya3)
  have yb1 := rowB.cell 1
  (try simp only [List.getElem?_cons_succ] at yb1); (try simp only [List.getElem?_cons_zero] at yb1)
  have yb2 := rowB.cell 2
  (try simp only [List.getElem?_cons_succ] at yb2); (try simp only [List.getElem?_cons_zero] at yb2)
  have yb3 := rowB.cell 3
  (try simp only [List.getElem?_cons_succ] at yb3); (try simp only [List.getElem?_cons_zero] at yb3)
  have HC := Lib.hid (small_c a [.int .u64 a.fTxn, .slice aK a.fKeys.length cK, .slice aS a.fSpans.length cS, .slice aW a.fWrites.length cW] w1 ra)
  clear ra rb rowA rowB lk
  obtain ⟨sa, HSA⟩ : ∃ x, Hid (smallB a = x) := ⟨_, rfl⟩
  rw [HSA.out] at HC
  go_wp2_with fail
  go_fit HC.out
  rintro e w2 ⟨rfl, k⟩
  replace kz := kz.trans k.nix
  clear k HC
  clear ya0 ya1 ya2 ya3 yb0 yb1 yb2 yb3
  cases sa with
  | false => 
    go_wp2_with fail
    go_fit (awake_c w2)
    rintro e wz ⟨rfl, k⟩
    go_wp2_with fail
    go_ret
    exact ⟨rfl, (k0.then (kz.trans k.nix) (fun i hi h => by have := k0.size; omega))⟩
  | true =>
    obtain ⟨ra, rb, rowA, rowB, lk⟩ := HFF.out _ kz
    have ya0 := rowA.cell 0
    have yb0 := rowB.cell 0
    (try simp only [List.getElem?_cons_zero] at ya0 yb0)
    have ya1 := rowA.cell 1
    (try simp only [List.getElem?_cons_succ] at ya1); (try simp only [List.getElem?_cons_zero] at ya1)
    have ya2 := rowA.cell 2
    (try simp only [List.getElem?_cons_succ] at ya2); (try simp only [List.getElem?_cons_zero] at ya2)
    have ya3 := rowA.cell 3
    (try simp only [List.getElem?_cons_succ] at ya3); (try simp only [List.getElem?_cons_zero] at ya3)
    have yb1 := rowB.cell 1
    (try simp only [List.getElem?_cons_succ] at yb1); (try simp only [List.getElem?_cons_zero] at yb1)
    have yb2 := rowB.cell 2
    (try simp only [List.getElem?_cons_succ] at yb2); (try simp only [List.getElem?_cons_zero] at yb2)
    have yb3 := rowB.cell 3
    (try simp only [List.getElem?_cons_succ] at yb3); (try simp only [List.getElem?_cons_zero] at yb3)
    have HC := Lib.hid (small_c b [.int .u64 b.fTxn, .slice bK b.fKeys.length dK, .slice bS b.fSpans.length dS, .slice bW b.fWrites.length dW] w2 rb)
    clear ra rb rowA rowB lk
    obtain ⟨sb, HSB⟩ : ∃ x, Hid (smallB b = x) := ⟨_, rfl⟩
    rw [HSB.out] at HC
    go_wp2_with fail
    go_fit HC.out
    rintro e w3 ⟨rfl, k⟩
    replace kz := kz.trans k.nix
    clear k HC
    clear ya0 ya1 ya2 ya3 yb0 yb1 yb2 yb3
    cases sb with
    | false =>
      go_wp2_with fail
      go_fit (awake_c w3)
      rintro e wz ⟨rfl, k⟩
      go_wp2_with fail
      go_ret
      exact ⟨rfl, (k0.then (kz.trans k.nix) (fun i hi h => by have := k0.size; omega))⟩
    | true =>
      obtain ⟨ra, rb, rowA, rowB, lk⟩ := HFF.out _ kz
      have ya0 := rowA.cell 0
      have yb0 := rowB.cell 0
      (try simp only [List.getElem?_cons_zero] at ya0 yb0)
      have ya1 := rowA.cell 1
      (try simp only [List.getElem?_cons_succ] at ya1); (try simp only [List.getElem?_cons_zero] at ya1)
      have ya2 := rowA.cell 2
      (try simp only [List.getElem?_cons_succ] at ya2); (try simp only [List.getElem?_cons_zero] at ya2)
      have ya3 := rowA.cell 3
      (try simp only [List.getElem?_cons_succ] at ya3); (try simp only [List.getElem?_cons_zero] at ya3)
      have yb1 := rowB.cell 1
      (try simp only [List.getElem?_cons_succ] at yb1); (try simp only [List.getElem?_cons_zero] at yb1)
      have yb2 := rowB.cell 2
      (try simp only [List.getElem?_cons_succ] at yb2); (try simp only [List.getElem?_cons_zero] at yb2)
      have yb3 := rowB.cell 3
      (try simp only [List.getElem?_cons_succ] at yb3); (try simp only [List.getElem?_cons_zero] at yb3)
      clear ra rb rowA rowB lk
      by_cases za : a.fTxn = 0
      · have qa : (a.fTxn == 0) = true := by simp [za]
        clear za
        go_wp2_with fail
        go_fit (awake_c w3)
        rintro e wz ⟨rfl, k⟩
        go_wp2_with fail
        go_ret
        exact ⟨rfl, (k0.then (kz.trans k.nix) (fun i hi h => by have := k0.size; omega))⟩
      · have qa : (a.fTxn == 0) = false := by simp [za]
        by_cases zb : b.fTxn = 0
        · have qb : (b.fTxn == 0) = true := by simp [zb]
          clear za zb
          go_wp2_with fail
          go_fit (awake_c w3)
          rintro e wz ⟨rfl, k⟩
          go_wp2_with fail
          go_ret
          exact ⟨rfl, (k0.then (kz.trans k.nix) (fun i hi h => by have := k0.size; omega))⟩
        · have qb : (b.fTxn == 0) = false := by simp [zb]
          by_cases zab : a.fTxn = b.fTxn
          · have qab : (a.fTxn == b.fTxn) = true := by simp [zab]
            have za := Lib.hid za
            have zb := Lib.hid zb
            have zab := Lib.hid zab
            go_wp2_with fail
            go_fit (awake_c w3)
            rintro e wz ⟨rfl, k⟩
            go_wp2_with fail
            go_ret
            exact ⟨rfl, (k0.then (kz.trans k.nix) (fun i hi h => by have := k0.size; omega))⟩
          · have qab : (a.fTxn == b.fTxn) = false := by simp [zab]
            have ZA := Lib.hid za
            have ZB := Lib.hid zb
            have ZAB := Lib.hid zab
            clear za zb zab
            go_wp2_with fail
            clear ya0 ya1 ya2 ya3 yb0 yb1 yb2 yb3
            go_fit (new_c w3)
            rintro e w4 ⟨g1, O1, rfl, T1, hO1, k⟩
            have kz0 := kz
            have kz4 := kz.trans k.nix
            replace kz := kz.trans k.nix
            have h1b : ∀ x, O1 x → w0.heap.size ≤ x ∧ x < w4.heap.size := fun x hx => ⟨Nat.le_trans kz0.size (hO1 x hx), T1.lt x hx⟩
            clear k hO1
            go_wp2_with fail
            go_fit (new_c w4)
            rintro e w5 ⟨g2, O2, rfl, T2, hO2, k⟩
            replace kz := kz.trans k.nix
            replace T1 := T1.nix k
            have h2b : ∀ x, O2 x → w0.heap.size ≤ x ∧ w4.heap.size ≤ x ∧ x < w5.heap.size := fun x hx => by
              have h1 := hO2 x hx
              have h2 := T2.lt x hx
              have h3 := kz4.size
              omega
            have h45 := k.size
            have H1B := Lib.hid h1b
            have H2B := Lib.hid h2b
            clear k hO2 h1b h2b
            go_upto_region 4 with fail
            have kd : Keep Nix w5 w5.drew := (Keep.refl Nix w5).drew
            replace kz := kz.trans kd.nix
            replace T1 := T1.nix kd
            replace T2 := T2.nix kd
            have hsd : w5.heap.size ≤ w5.drew.heap.size := kd.size
            have HSS : Hid (∀ w', Keep (fun x => w0.heap.size ≤ x) w0 w' → w'.cell? ⟨W.heap.size, 0, none⟩ = some (.int .u64 a.fTxn) ∧ w'.cell? ⟨W.heap.size, 1, none⟩ = some (.slice aK a.fKeys.length cK) ∧ w'.cell? ⟨W.heap.size, 2, none⟩ = some (.slice aS a.fSpans.length cS) ∧ w'.cell? ⟨W.heap.size, 3, none⟩ = some (.slice aW a.fWrites.length cW) ∧ w'.cell? ⟨W.heap.size + 1, 0, none⟩ = some (.int .u64 b.fTxn) ∧ w'.cell? ⟨W.heap.size + 1, 1, none⟩ = some (.slice bK b.fKeys.length dK) ∧ w'.cell? ⟨W.heap.size + 1, 2, none⟩ = some (.slice bS b.fSpans.length dS) ∧ w'.cell? ⟨W.heap.size + 1, 3, none⟩ = some (.slice bW b.fWrites.length dW)) := fun w' k => by
              obtain ⟨-, -, rA, rB, -⟩ := HFF.out w' k
              exact ⟨by simpa using rA.cell 0, by simpa using rA.cell 1, by simpa using rA.cell 2, by simpa using rA.cell 3, by simpa using rB.cell 0, by simpa using rB.cell 1, by simpa using rB.cell 2, by simpa using rB.cell 3⟩
            refine wp_region_held_drew (S := (fun w' => w'.cell? ⟨W.heap.size, 0, none⟩ = some (.int .u64 a.fTxn) ∧ w'.cell? ⟨W.heap.size, 1, none⟩ = some (.slice aK a.fKeys.length cK) ∧ w'.cell? ⟨W.heap.size, 2, none⟩ = some (.slice aS a.fSpans.length cS) ∧ w'.cell? ⟨W.heap.size, 3, none⟩ = some (.slice aW a.fWrites.length cW) ∧ w'.cell? ⟨W.heap.size + 1, 0, none⟩ = some (.int .u64 b.fTxn) ∧ w'.cell? ⟨W.heap.size + 1, 1, none⟩ = some (.slice bK b.fKeys.length dK) ∧ w'.cell? ⟨W.heap.size + 1, 2, none⟩ = some (.slice bS b.fSpans.length dS) ∧ w'.cell? ⟨W.heap.size + 1, 3, none⟩ = some (.slice bW b.fWrites.length dW))) (by kernel_rfl) (HSS.out _ kz) (fun hHeld => ?_)
            clear kd
            generalize w5.drew = w6 at *
            refine wpAnyH_take (i := 0) (v := ?_) rfl (by kernel_rfl) (by kernel_rfl) (by kernel_rfl) (fun _ _ _ h => h) (Or.inl ⟨by kernel_rfl, ?_⟩) hHeld ?_
            rotate_left
            · intro w' hSw
              (try dsimp only at hSw)
              (try simp only [List.getElem_toArray]); (try simp only [List.getElem_cons_succ]); (try simp only [List.getElem_cons_zero])
              go_simp
              try with_reducible rfl
            (try simp only [Act.put]); (try simp only [List.getElem_toArray]); (try simp only [List.getElem_cons_succ]); (try simp only [List.getElem_cons_zero]); (try simp only [List.setIfInBounds_toArray]); (try simp only [List.set_cons_succ]); (try simp only [List.set_cons_zero])
            refine wpAnyH_take (i := 1) (v := ?_) rfl (by kernel_rfl) (by kernel_rfl) (by kernel_rfl) (fun _ _ _ h => h) (Or.inl ⟨by kernel_rfl, ?_⟩) hHeld ?_
            rotate_left
            · intro w' hSw
              (try dsimp only at hSw)
              (try simp only [List.getElem_toArray]); (try simp only [List.getElem_cons_succ]); (try simp only [List.getElem_cons_zero])
              go_simp
              try with_reducible rfl
            (try simp only [Act.put]); (try simp only [List.getElem_toArray]); (try simp only [List.getElem_cons_succ]); (try simp only [List.getElem_cons_zero]); (try simp only [List.setIfInBounds_toArray]); (try simp only [List.set_cons_succ]); (try simp only [List.set_cons_zero])
            refine wpAnyH_take (i := 2) (v := ?_) rfl (by kernel_rfl) (by kernel_rfl) (by kernel_rfl) (fun _ _ _ h => h) (Or.inl ⟨by kernel_rfl, ?_⟩) hHeld ?_
            rotate_left
            · intro w' hSw
              (try dsimp only at hSw)
              (try simp only [List.getElem_toArray]); (try simp only [List.getElem_cons_succ]); (try simp only [List.getElem_cons_zero])
              go_simp
              try with_reducible rfl
            (try simp only [Act.put]); (try simp only [List.getElem_toArray]); (try simp only [List.getElem_cons_succ]); (try simp only [List.getElem_cons_zero]); (try simp only [List.setIfInBounds_toArray]); (try simp only [List.set_cons_succ]); (try simp only [List.set_cons_zero])
            refine wpAnyH_take (i := 3) (v := ?_) rfl (by kernel_rfl) (by kernel_rfl) (by kernel_rfl) (fun _ _ _ h => h) (Or.inl ⟨by kernel_rfl, ?_⟩) hHeld ?_
            rotate_left
            · intro w' hSw
              (try dsimp only at hSw)
              (try simp only [List.getElem_toArray]); (try simp only [List.getElem_cons_succ]); (try simp only [List.getElem_cons_zero])
              go_simp
              try with_reducible rfl
            (try simp only [Act.put]); (try simp only [List.getElem_toArray]); (try simp only [List.getElem_cons_succ]); (try simp only [List.getElem_cons_zero]); (try simp only [List.setIfInBounds_toArray]); (try simp only [List.set_cons_succ]); (try simp only [List.set_cons_zero])
            refine wpAnyH_take (i := 4) (v := ?_) rfl (by kernel_rfl) (by kernel_rfl) (by kernel_rfl) (fun _ _ _ h => h) (Or.inl ⟨by kernel_rfl, ?_⟩) hHeld ?_
            rotate_left
            · intro w' hSw
              (try dsimp only at hSw)
              (try simp only [List.getElem_toArray]); (try simp only [List.getElem_cons_succ]); (try simp only [List.getElem_cons_zero])
              go_simp
              try with_reducible rfl
            (try simp only [Act.put]); (try simp only [List.getElem_toArray]); (try simp only [List.getElem_cons_succ]); (try simp only [List.getElem_cons_zero]); (try simp only [List.setIfInBounds_toArray]); (try simp only [List.set_cons_succ]); (try simp only [List.set_cons_zero])
            refine wpAnyH_take (i := 5) (v := ?_) rfl (by kernel_rfl) (by kernel_rfl) (by kernel_rfl) (fun _ _ _ h => h) (Or.inl ⟨by kernel_rfl, ?_⟩) hHeld ?_
            rotate_left
            · intro w' hSw
              (try dsimp only at hSw)
              (try simp only [List.getElem_toArray]); (try simp only [List.getElem_cons_succ]); (try simp only [List.getElem_cons_zero])
              go_simp
              try with_reducible rfl
            (try simp only [Act.put]); (try simp only [List.getElem_toArray]); (try simp only [List.getElem_cons_succ]); (try simp only [List.getElem_cons_zero]); (try simp only [List.setIfInBounds_toArray]); (try simp only [List.set_cons_succ]); (try simp only [List.set_cons_zero])
            refine wpAnyH_take (i := 6) (v := ?_) rfl (by kernel_rfl) (by kernel_rfl) (by kernel_rfl) (fun _ _ _ h => h) (Or.inl ⟨by kernel_rfl, ?_⟩) hHeld ?_
            rotate_left
            · intro w' hSw
              (try dsimp only at hSw)
              (try simp only [List.getElem_toArray]); (try simp only [List.getElem_cons_succ]); (try simp only [List.getElem_cons_zero])
              go_simp
              try with_reducible rfl
            (try simp only [Act.put]); (try simp only [List.getElem_toArray]); (try simp only [List.getElem_cons_succ]); (try simp only [List.getElem_cons_zero]); (try simp only [List.setIfInBounds_toArray]); (try simp only [List.set_cons_succ]); (try simp only [List.set_cons_zero])
            refine wpAnyH_take (i := 7) (v := ?_) rfl (by kernel_rfl) (by kernel_rfl) (by kernel_rfl) (fun _ _ _ h => h) (Or.inl ⟨by kernel_rfl, ?_⟩) hHeld ?_
            rotate_left
            · intro w' hSw
              (try dsimp only at hSw)
              (try simp only [List.getElem_toArray]); (try simp only [List.getElem_cons_succ]); (try simp only [List.getElem_cons_zero])
              go_simp
              try with_reducible rfl
            (try simp only [Act.put]); (try simp only [List.getElem_toArray]); (try simp only [List.getElem_cons_succ]); (try simp only [List.getElem_cons_zero]); (try simp only [List.setIfInBounds_toArray]); (try simp only [List.set_cons_succ]); (try simp only [List.set_cons_zero])
            refine wpAnyH_take (i := 8) (v := ?_) rfl (by kernel_rfl) (by kernel_rfl) (by kernel_rfl) (fun _ _ _ h => h) (Or.inl ⟨by kernel_rfl, ?_⟩) hHeld ?_
            rotate_left
            · intro w' hSw
              (try dsimp only at hSw)
              (try simp only [List.getElem_toArray]); (try simp only [List.getElem_cons_succ]); (try simp only [List.getElem_cons_zero])
              go_simp
              try with_reducible rfl
            (try simp only [Act.put]); (try simp only [List.getElem_toArray]); (try simp only [List.getElem_cons_succ]); (try simp only [List.getElem_cons_zero]); (try simp only [List.setIfInBounds_toArray]); (try simp only [List.set_cons_succ]); (try simp only [List.set_cons_zero])
            obtain ⟨ra, rb, -, -, -⟩ := HFF.out _ kz
            have HC := put_c O1 g1 0 [] a [.int .u64 a.fTxn, .slice aK a.fKeys.length cK, .slice aS a.fSpans.length cS, .slice aW a.fWrites.length cW] w6 T1 (by decide) ra (smallB_F HSA.out) (fun x hx => by have := kz.size; have := hS0.out; have hx : x < W.heap.size := hx; omega)
            unfold PutPost at HC
            rw [may0 a ZA.out, put0 a ZA.out] at HC
            replace HC := Lib.hid HC
            clear T1 ra rb
            refine wpAnyH_ready (rs := [9]) (by kernel_rfl) (by simp) ?_
            refine AllReadyH.cons rfl (fun K hK => ?_) AllReadyH.nil
            rw [if_pos (by kernel_rfl)]
            (try simp only [List.getElem_toArray]); (try simp only [List.getElem_cons_succ]); (try simp only [List.getElem_cons_zero])
            go_simp
            go_fit HC.out
            rintro e w7 ⟨rfl, P1, T1, hP1, -, k⟩
            clear HC
            go_wp2_with fail
            have h67 := k.size
            replace T2 := T2.keep k (fun x hx h => by have := H1B.out x h; have := H2B.out x hx; omega)
            replace kz := kz.trans (k.mono (fun x hx => (H1B.out x hx).1))
            clear k
            refine hK.out _ _ ((HSS.out _ kz)) (fun hHeld => ?_)
            clear hK K
            (try simp only [Act.put]); (try simp only [List.getElem_toArray]); (try simp only [List.getElem_cons_succ]); (try simp only [List.getElem_cons_zero]); (try simp only [List.setIfInBounds_toArray]); (try simp only [List.set_cons_succ]); (try simp only [List.set_cons_zero])
            refine wpAnyH_take (i := 10) (v := ?_) rfl (by kernel_rfl) (by kernel_rfl) (by kernel_rfl) (fun _ _ _ h => h) (Or.inl ⟨by kernel_rfl, ?_⟩) hHeld ?_
            rotate_left
            · intro w' hSw
              (try dsimp only at hSw)
              (try simp only [List.getElem_toArray]); (try simp only [List.getElem_cons_succ]); (try simp only [List.getElem_cons_zero])
              go_simp
              try with_reducible rfl
            (try simp only [Act.put]); (try simp only [List.getElem_toArray]); (try simp only [List.getElem_cons_succ]); (try simp only [List.getElem_cons_zero]); (try simp only [List.setIfInBounds_toArray]); (try simp only [List.set_cons_succ]); (try simp only [List.set_cons_zero])
            refine wpAnyH_take (i := 11) (v := ?_) rfl (by kernel_rfl) (by kernel_rfl) (by kernel_rfl) (fun _ _ _ h => h) (Or.inl ⟨by kernel_rfl, ?_⟩) hHeld ?_
            rotate_left
            · intro w' hSw
              (try dsimp only at hSw)
              (try simp only [List.getElem_toArray]); (try simp only [List.getElem_cons_succ]); (try simp only [List.getElem_cons_zero])
              go_simp
              try with_reducible rfl
            (try simp only [Act.put]); (try simp only [List.getElem_toArray]); (try simp only [List.getElem_cons_succ]); (try simp only [List.getElem_cons_zero]); (try simp only [List.setIfInBounds_toArray]); (try simp only [List.set_cons_succ]); (try simp only [List.set_cons_zero])
            refine wpAnyH_take (i := 12) (v := ?_) rfl (by kernel_rfl) (by kernel_rfl) (by kernel_rfl) (fun _ _ _ h => h) (Or.inl ⟨by kernel_rfl, ?_⟩) hHeld ?_
            rotate_left
            · intro w' hSw
              (try dsimp only at hSw)
              (try simp only [List.getElem_toArray]); (try simp only [List.getElem_cons_succ]); (try simp only [List.getElem_cons_zero])
              go_simp
              try with_reducible rfl
            (try simp only [Act.put]); (try simp only [List.getElem_toArray]); (try simp only [List.getElem_cons_succ]); (try simp only [List.getElem_cons_zero]); (try simp only [List.setIfInBounds_toArray]); (try simp only [List.set_cons_succ]); (try simp only [List.set_cons_zero])
            refine wpAnyH_take (i := 13) (v := ?_) rfl (by kernel_rfl) (by kernel_rfl) (by kernel_rfl) (fun _ _ _ h => h) (Or.inl ⟨by kernel_rfl, ?_⟩) hHeld ?_
            rotate_left
            · intro w' hSw
              (try dsimp only at hSw)
              (try simp only [List.getElem_toArray]); (try simp only [List.getElem_cons_succ]); (try simp only [List.getElem_cons_zero])
              go_simp
              try with_reducible rfl
            (try simp only [Act.put]); (try simp only [List.getElem_toArray]); (try simp only [List.getElem_cons_succ]); (try simp only [List.getElem_cons_zero]); (try simp only [List.setIfInBounds_toArray]); (try simp only [List.set_cons_succ]); (try simp only [List.set_cons_zero])
            refine wpAnyH_take (i := 14) (v := ?_) rfl (by kernel_rfl) (by kernel_rfl) (by kernel_rfl) (fun _ _ _ h => h) (Or.inl ⟨by kernel_rfl, ?_⟩) hHeld ?_
            rotate_left
            · intro w' hSw
              (try dsimp only at hSw)
              (try simp only [List.getElem_toArray]); (try simp only [List.getElem_cons_succ]); (try simp only [List.getElem_cons_zero])
              go_simp
              try with_reducible rfl
            (try simp only [Act.put]); (try simp only [List.getElem_toArray]); (try simp only [List.getElem_cons_succ]); (try simp only [List.getElem_cons_zero]); (try simp only [List.setIfInBounds_toArray]); (try simp only [List.set_cons_succ]); (try simp only [List.set_cons_zero])
            obtain ⟨ra, rb, -, -, -⟩ := HFF.out _ kz
            have HC := put_c O2 g2 0 [] b [.int .u64 b.fTxn, .slice bK b.fKeys.length dK, .slice bS b.fSpans.length dS, .slice bW b.fWrites.length dW] w7 T2 (by decide) rb (smallB_F HSB.out) (fun x hx => by have := kz.size; have := hS0.out; have hx : x < W.heap.size := hx; omega)
            unfold PutPost at HC
            rw [may0 b ZB.out, put0 b ZB.out] at HC
            replace HC := Lib.hid HC
            clear T2 ra rb
            refine wpAnyH_ready (rs := [15]) (by kernel_rfl) (by simp) ?_
            refine AllReadyH.cons rfl (fun K hK => ?_) AllReadyH.nil
            rw [if_pos (by kernel_rfl)]
            (try simp only [List.getElem_toArray]); (try simp only [List.getElem_cons_succ]); (try simp only [List.getElem_cons_zero])
            go_simp
            go_fit HC.out
            rintro e w8 ⟨rfl, P2, T2, hP2, -, k⟩
            clear HC
            go_wp2_with fail
            have h78 := k.size
            replace T1 := T1.keep k (fun x hx h => by
              have h2 := H2B.out x h
              rcases hP1 x hx with h3 | h3
              · have := H1B.out x h3; omega
              · omega)
            replace kz := kz.trans (k.mono (fun x hx => (H2B.out x hx).1))
            clear k hP1 hP2
            refine hK.out _ _ ((HSS.out _ kz)) (fun hHeld => ?_)
            clear hK K
            (try simp only [Act.put]); (try simp only [List.getElem_toArray]); (try simp only [List.getElem_cons_succ]); (try simp only [List.getElem_cons_zero]); (try simp only [List.setIfInBounds_toArray]); (try simp only [List.set_cons_succ]); (try simp only [List.set_cons_zero])
            refine wpAnyH_take (i := 16) (v := ?_) rfl (by kernel_rfl) (by kernel_rfl) (by kernel_rfl) (fun _ _ _ h => h) (Or.inl ⟨by kernel_rfl, ?_⟩) hHeld ?_
            rotate_left
            · intro w' hSw
              (try dsimp only at hSw)
              (try simp only [List.getElem_toArray]); (try simp only [List.getElem_cons_succ]); (try simp only [List.getElem_cons_zero])
              go_simp
              try with_reducible rfl
            (try simp only [Act.put]); (try simp only [List.getElem_toArray]); (try simp only [List.getElem_cons_succ]); (try simp only [List.getElem_cons_zero]); (try simp only [List.setIfInBounds_toArray]); (try simp only [List.set_cons_succ]); (try simp only [List.set_cons_zero])
            refine wpAnyH_take (i := 17) (v := ?_) rfl (by kernel_rfl) (by kernel_rfl) (by kernel_rfl) (fun _ _ _ h => h) (Or.inl ⟨by kernel_rfl, ?_⟩) hHeld ?_
            rotate_left
            · intro w' hSw
              (try dsimp only at hSw)
              (try simp only [List.getElem_toArray]); (try simp only [List.getElem_cons_succ]); (try simp only [List.getElem_cons_zero])
              go_simp
              try with_reducible rfl
            (try simp only [Act.put]); (try simp only [List.getElem_toArray]); (try simp only [List.getElem_cons_succ]); (try simp only [List.getElem_cons_zero]); (try simp only [List.setIfInBounds_toArray]); (try simp only [List.set_cons_succ]); (try simp only [List.set_cons_zero])
            refine wpAnyH_take (i := 18) (v := ?_) rfl (by kernel_rfl) (by kernel_rfl) (by kernel_rfl) (fun _ _ _ h => h) (Or.inl ⟨by kernel_rfl, ?_⟩) hHeld ?_
            rotate_left
            · intro w' hSw
              (try dsimp only at hSw)
              (try simp only [List.getElem_toArray]); (try simp only [List.getElem_cons_succ]); (try simp only [List.getElem_cons_zero])
              go_simp
              try with_reducible rfl
            (try simp only [Act.put]); (try simp only [List.getElem_toArray]); (try simp only [List.getElem_cons_succ]); (try simp only [List.getElem_cons_zero]); (try simp only [List.setIfInBounds_toArray]); (try simp only [List.set_cons_succ]); (try simp only [List.set_cons_zero])
            refine wpAnyH_take (i := 19) (v := ?_) rfl (by kernel_rfl) (by kernel_rfl) (by kernel_rfl) (fun _ _ _ h => h) (Or.inl ⟨by kernel_rfl, ?_⟩) hHeld ?_
            rotate_left
            · intro w' hSw
              (try dsimp only at hSw)
              (try simp only [List.getElem_toArray]); (try simp only [List.getElem_cons_succ]); (try simp only [List.getElem_cons_zero])
              go_simp
              try with_reducible rfl
            (try simp only [Act.put]); (try simp only [List.getElem_toArray]); (try simp only [List.getElem_cons_succ]); (try simp only [List.getElem_cons_zero]); (try simp only [List.setIfInBounds_toArray]); (try simp only [List.set_cons_succ]); (try simp only [List.set_cons_zero])
            refine wpAnyH_take (i := 20) (v := ?_) rfl (by kernel_rfl) (by kernel_rfl) (by kernel_rfl) (fun _ _ _ h => h) (Or.inl ⟨by kernel_rfl, ?_⟩) hHeld ?_
            rotate_left
            · intro w' hSw
              (try dsimp only at hSw)
              (try simp only [List.getElem_toArray]); (try simp only [List.getElem_cons_succ]); (try simp only [List.getElem_cons_zero])
              go_simp
              try with_reducible rfl
            (try simp only [Act.put]); (try simp only [List.getElem_toArray]); (try simp only [List.getElem_cons_succ]); (try simp only [List.getElem_cons_zero]); (try simp only [List.setIfInBounds_toArray]); (try simp only [List.set_cons_succ]); (try simp only [List.set_cons_zero])
            refine wpAnyH_take (i := 22) (v := ?_) rfl (by kernel_rfl) (by kernel_rfl) (by kernel_rfl) (fun _ _ _ h => h) (Or.inl ⟨by kernel_rfl, ?_⟩) hHeld ?_
            rotate_left
            · intro w' hSw
              (try dsimp only at hSw)
              (try simp only [List.getElem_toArray]); (try simp only [List.getElem_cons_succ]); (try simp only [List.getElem_cons_zero])
              go_simp
              try with_reducible rfl
            (try simp only [Act.put]); (try simp only [List.getElem_toArray]); (try simp only [List.getElem_cons_succ]); (try simp only [List.getElem_cons_zero]); (try simp only [List.setIfInBounds_toArray]); (try simp only [List.set_cons_succ]); (try simp only [List.set_cons_zero])
            refine wpAnyH_take (i := 23) (v := ?_) rfl (by kernel_rfl) (by kernel_rfl) (by kernel_rfl) (fun _ _ _ h => h) (Or.inl ⟨by kernel_rfl, ?_⟩) hHeld ?_
            rotate_left
            · intro w' hSw
              (try dsimp only at hSw)
              (try simp only [List.getElem_toArray]); (try simp only [List.getElem_cons_succ]); (try simp only [List.getElem_cons_zero])
              go_simp
              try with_reducible rfl
            (try simp only [Act.put]); (try simp only [List.getElem_toArray]); (try simp only [List.getElem_cons_succ]); (try simp only [List.getElem_cons_zero]); (try simp only [List.setIfInBounds_toArray]); (try simp only [List.set_cons_succ]); (try simp only [List.set_cons_zero])
            obtain ⟨ra, rb, -, -, -⟩ := HFF.out _ kz
            obtain ⟨mm, HMM⟩ : ∃ x, Hid (mayF [a] b = x) := ⟨_, rfl⟩
            have HC := may_c P1 g1 (0 + 1) [a] b [.int .u64 b.fTxn, .slice bK b.fKeys.length dK, .slice bS b.fSpans.length dS, .slice bW b.fWrites.length dW] w8 T1 rb (fun x hx => by have := kz.size; have := hS0.out; have hx : x < W.heap.size := hx; omega)
            rw [HMM.out] at HC
            replace HC := Lib.hid HC
            clear ra rb
            refine wpAnyH_ready (rs := [21]) (by kernel_rfl) (by simp) ?_
            refine AllReadyH.cons rfl (fun K hK => ?_) AllReadyH.nil
            rw [if_pos (by kernel_rfl)]
            (try simp only [List.getElem_toArray]); (try simp only [List.getElem_cons_succ]); (try simp only [List.getElem_cons_zero])
            go_simp
            go_fit HC.out
            rintro e w9 ⟨rfl, k⟩
            clear HC
            go_wp2_with fail
            replace T2 := T2.nix k
            replace kz := kz.trans k.nix
            clear k T1
            refine hK.out _ _ ((HSS.out _ kz)) (fun hHeld => ?_)
            clear hK K
            (try simp only [Act.put]); (try simp only [List.getElem_toArray]); (try simp only [List.getElem_cons_succ]); (try simp only [List.getElem_cons_zero]); (try simp only [List.setIfInBounds_toArray]); (try simp only [List.set_cons_succ]); (try simp only [List.set_cons_zero])
            obtain ⟨ra, rb, -, -, -⟩ := HFF.out _ kz
            have HC := may_c P2 g2 (0 + 1) [b] a [.int .u64 a.fTxn, .slice aK a.fKeys.length cK, .slice aS a.fSpans.length cS, .slice aW a.fWrites.length cW] w9 T2 ra (fun x hx => by have := kz.size; have := hS0.out; have hx : x < W.heap.size := hx; omega)
            rw [← may_sym ZA.out ZB.out ZAB.out, HMM.out] at HC
            replace HC := Lib.hid HC
            clear ra rb
            refine wpAnyH_ready (rs := [24]) (by kernel_rfl) (by simp) ?_
            refine AllReadyH.cons rfl (fun K hK => ?_) AllReadyH.nil
            rw [if_pos (by kernel_rfl)]
            (try simp only [List.getElem_toArray]); (try simp only [List.getElem_cons_succ]); (try simp only [List.getElem_cons_zero])
            go_simp
            go_fit HC.out
            rintro e w10 ⟨rfl, k⟩
            clear HC
            go_wp2_with fail
            replace kz := kz.trans k.nix
            clear k T2
            refine hK.out _ _ ((HSS.out _ kz)) (fun hHeld => ?_)
            clear hK K
            (try simp only [Act.put]); (try simp only [List.getElem_toArray]); (try simp only [List.getElem_cons_succ]); (try simp only [List.getElem_cons_zero]); (try simp only [List.setIfInBounds_toArray]); (try simp only [List.set_cons_succ]); (try simp only [List.set_cons_zero])
            refine wpAnyH_take (i := 25) (v := ?_) rfl (by kernel_rfl) (by kernel_rfl) (by kernel_rfl) (fun _ _ _ h => h) (Or.inl ⟨by kernel_rfl, ?_⟩) hHeld ?_
            rotate_left
            · intro w' hSw
              (try dsimp only at hSw)
              (try simp only [List.getElem_toArray]); (try simp only [List.getElem_cons_succ]); (try simp only [List.getElem_cons_zero])
              go_simp
              try with_reducible rfl
            (try simp only [Act.put]); (try simp only [List.getElem_toArray]); (try simp only [List.getElem_cons_succ]); (try simp only [List.getElem_cons_zero]); (try simp only [List.setIfInBounds_toArray]); (try simp only [List.set_cons_succ]); (try simp only [List.set_cons_zero])
            refine wpAnyH_take (i := 26) (v := ?_) rfl (by kernel_rfl) (by kernel_rfl) (by kernel_rfl) (fun _ _ _ h => h) (Or.inl ⟨by kernel_rfl, ?_⟩) hHeld ?_
            rotate_left
            · intro w' hSw
              (try dsimp only at hSw)
              (try simp only [List.getElem_toArray]); (try simp only [List.getElem_cons_succ]); (try simp only [List.getElem_cons_zero])
              go_simp
              try with_reducible rfl
            (try simp only [Act.put]); (try simp only [List.getElem_toArray]); (try simp only [List.getElem_cons_succ]); (try simp only [List.getElem_cons_zero]); (try simp only [List.setIfInBounds_toArray]); (try simp only [List.set_cons_succ]); (try simp only [List.set_cons_zero])
            refine wpAnyH_done (by kernel_rfl) ?_ _
            clear hHeld HSS
            obtain ⟨-, -, rowA, rowB, -⟩ := HFF.out _ kz
            have kq : Keep Nix W w10 := k0.then kz (fun i hi h => by have := k0.size; omega)
            have ya3 := rowA.cell 3
            (try simp only [List.getElem?_cons_succ] at ya3); (try simp only [List.getElem?_cons_zero] at ya3)
            have yb3 := rowB.cell 3
            (try simp only [List.getElem?_cons_succ] at yb3); (try simp only [List.getElem?_cons_zero] at yb3)
            have fa3 := rowA.frozen 3
            have fb3 := rowB.frozen 3
            have k1 : Keep (· = W.heap.size) w10 (w10.setCell ⟨W.heap.size, 3, none⟩ (.slice none 0 0)) := (Keep.refl (· = W.heap.size) w10).setCell (p := ⟨W.heap.size, 3, none⟩) (fun _ => rfl) _
            have k2 : Keep (· = W.heap.size + 1) (w10.setCell ⟨W.heap.size, 3, none⟩ (.slice none 0 0)) ((w10.setCell ⟨W.heap.size, 3, none⟩ (.slice none 0 0)).setCell ⟨W.heap.size + 1, 3, none⟩ (.slice none 0 0)) := (Keep.refl (· = W.heap.size + 1) _).setCell (p := ⟨W.heap.size + 1, 3, none⟩) (fun _ => rfl) _
            have rowA1 : RowIs ((w10.setCell ⟨W.heap.size, 3, none⟩ (.slice none 0 0)).setCell ⟨W.heap.size + 1, 3, none⟩ (.slice none 0 0)) W.heap.size 28 [.int .u64 a.fTxn, .slice aK a.fKeys.length cK, .slice aS a.fSpans.length cS, .slice none 0 0] := RowIs.keep (rowA.set 3 (.slice none 0 0)) k2 (by omega)
            have rowB1 : RowIs ((w10.setCell ⟨W.heap.size, 3, none⟩ (.slice none 0 0)).setCell ⟨W.heap.size + 1, 3, none⟩ (.slice none 0 0)) (W.heap.size + 1) 28 [.int .u64 b.fTxn, .slice bK b.fKeys.length dK, .slice bS b.fSpans.length dS, .slice none 0 0] := (rowB.keep k1 (by omega)).set 3 (.slice none 0 0)
            have kW : Keep Nix W ((w10.setCell ⟨W.heap.size, 3, none⟩ (.slice none 0 0)).setCell ⟨W.heap.size + 1, 3, none⟩ (.slice none 0 0)) := (kq.then k1 (fun i hi e => by omega)).then k2 (fun i hi e => by omega)
            have ROWA := Lib.hid rowA1
            have ROWB := Lib.hid rowB1
            have HKW := Lib.hid kW
            clear rowA rowB rowA1 rowB1 kW k1 k2 kq kz
            go_upto_region 7 with fail
            clear ya3 yb3 fa3 fb3
            generalize ((w10.setCell ⟨W.heap.size, 3, none⟩ (.slice none 0 0)).setCell ⟨W.heap.size + 1, 3, none⟩ (.slice none 0 0)) = w11 at *
            have hs11 : W.heap.size + 2 ≤ w11.heap.size := by have := ROWB.out.lt; omega
            have HFG : Hid (∀ w', Keep (fun x => w11.heap.size ≤ x) w11 w' → rGHeld w' (· < W.heap.size) [.int .u64 a.fTxn, .slice aK a.fKeys.length cK, .slice aS a.fSpans.length cS, .slice none 0 0] (noW a) ∧ rGHeld w' (· < W.heap.size) [.int .u64 b.fTxn, .slice bK b.fKeys.length dK, .slice bS b.fSpans.length dS, .slice none 0 0] (noW b) ∧ RowIs w' W.heap.size 28 [.int .u64 a.fTxn, .slice aK a.fKeys.length cK, .slice aS a.fSpans.length cS, .slice none 0 0] ∧ RowIs w' (W.heap.size + 1) 28 [.int .u64 b.fTxn, .slice bK b.fKeys.length dK, .slice bS b.fSpans.length dS, .slice none 0 0] ∧ Lies w' (· < W.heap.size) ak (key.map bv) ∧ rList rBytes w' (· < W.heap.size) [.slice aK a.fKeys.length cK] a.fKeys ∧ rList rGSpan w' (· < W.heap.size) [.slice bS b.fSpans.length dS] b.fSpans) := fun w' k => by
              have hd : ∀ x, x < W.heap.size → ¬ w11.heap.size ≤ x := fun x hx => by omega
              have kk := HKW.out
              have hKa := (rList_lawful rBytes_lawful).keep ((rList_lawful rBytes_lawful).nix HPA.out.1 kk) k hd
              have hSa := (rList_lawful rGSpan_lawful).keep ((rList_lawful rGSpan_lawful).nix HPA.out.2 kk) k hd
              have hKb := (rList_lawful rBytes_lawful).keep ((rList_lawful rBytes_lawful).nix HPB.out.1 kk) k hd
              have hSb := (rList_lawful rGSpan_lawful).keep ((rList_lawful rGSpan_lawful).nix HPB.out.2 kk) k hd
              exact ⟨rGHeld_mk _ _ (x := noW a) hta hKa hSa (nil_R _ _), rGHeld_mk _ _ (x := noW b) htb hKb hSb (nil_R _ _), ROWA.out.keep k (by omega), ROWB.out.keep k (by omega), (HL.out.keep kk (fun _ _ h => h)).keep k hd, hKa, hSb⟩
            clear HFF HPA HPB ROWA ROWB HL
            go_wp2_with fail
            go_fit (new_c w11)
            rintro e w12 ⟨g3, O3, rfl, T3, hO3, k⟩
            have ky : Keep (fun x => w11.heap.size ≤ x) w11 w12 := k.nix
            clear k
            obtain ⟨ra, rb, rowA, rowB, lk, ka, sb⟩ := HFG.out _ ky
            have ya0 := rowA.cell 0
            have yb0 := rowB.cell 0
            (try simp only [List.getElem?_cons_zero] at ya0 yb0)
            have ya1 := rowA.cell 1
            (try simp only [List.getElem?_cons_succ] at ya1); (try simp only [List.getElem?_cons_zero] at ya1)
            have ya2 := rowA.cell 2
            (try simp only [List.getElem?_cons_succ] at ya2); (try simp only [List.getElem?_cons_zero] at ya2)
            have ya3 := rowA.cell 3
            (try simp only [List.getElem?_cons_succ] at ya3); (try simp only [List.getElem?_cons_zero] at ya3)
            have yb1 := rowB.cell 1
            (try simp only [List.getElem?_cons_succ] at yb1); (try simp only [List.getElem?_cons_zero] at yb1)
            have yb2 := rowB.cell 2
            (try simp only [List.getElem?_cons_succ] at yb2); (try simp only [List.getElem?_cons_zero] at yb2)
            have yb3 := rowB.cell 3
            (try simp only [List.getElem?_cons_succ] at yb3); (try simp only [List.getElem?_cons_zero] at yb3)
            have HC := put_c O3 g3 0 [] (noW a) [.int .u64 a.fTxn, .slice aK a.fKeys.length cK, .slice aS a.fSpans.length cS, .slice none 0 0] w12 T3 (by decide) ra ⟨(smallB_F HSA.out).1, (smallB_F HSA.out).2.1, Nat.zero_le _⟩ (fun x hx => by have := ky.size; have hx : x < W.heap.size := hx; omega)
            unfold PutPost at HC
            rw [may0 (noW a) ZA.out, put0 (noW a) ZA.out] at HC
            replace HC := Lib.hid HC
            clear T3 ra rb rowA rowB lk ka sb
            go_wp2_with fail
            go_fit HC.out
            rintro e w13 ⟨rfl, P3, T4, hP3, -, k⟩
            clear HC
            clear ya0 ya1 ya2 ya3 yb0 yb1 yb2 yb3
            have hP3b : ∀ x, P3 x → w11.heap.size ≤ x := fun x hx => by
              rcases hP3 x hx with h | h
              · exact hO3 x h
              · have := ky.size; omega
            replace ky := ky.trans (k.mono (fun x hx => hO3 x hx))
            clear k hP3 hO3
            obtain ⟨ra, rb, rowA, rowB, lk, ka, sb⟩ := HFG.out _ ky
            have ya0 := rowA.cell 0
            have yb0 := rowB.cell 0
            (try simp only [List.getElem?_cons_zero] at ya0 yb0)
            have ya1 := rowA.cell 1
            (try simp only [List.getElem?_cons_succ] at ya1); (try simp only [List.getElem?_cons_zero] at ya1)
            have ya2 := rowA.cell 2
            (try simp only [List.getElem?_cons_succ] at ya2); (try simp only [List.getElem?_cons_zero] at ya2)
            have ya3 := rowA.cell 3
            (try simp only [List.getElem?_cons_succ] at ya3); (try simp only [List.getElem?_cons_zero] at ya3)
            have yb1 := rowB.cell 1
            (try simp only [List.getElem?_cons_succ] at yb1); (try simp only [List.getElem?_cons_zero] at yb1)
            have yb2 := rowB.cell 2
            (try simp only [List.getElem?_cons_succ] at yb2); (try simp only [List.getElem?_cons_zero] at yb2)
            have yb3 := rowB.cell 3
            (try simp only [List.getElem?_cons_succ] at yb3); (try simp only [List.getElem?_cons_zero] at yb3)
            have HC := may_c P3 g3 (0 + 1) [noW a] (noW b) [.int .u64 b.fTxn, .slice bK b.fKeys.length dK, .slice bS b.fSpans.length dS, .slice none 0 0] w13 T4 rb (fun x hx => by have := ky.size; have hx : x < W.heap.size := hx; omega)
            rw [may_no ZB.out ZAB.out] at HC
            replace HC := Lib.hid HC
            clear ra rb rowA rowB lk ka sb
            go_wp2_with fail
            go_fit HC.out
            rintro e w14 ⟨rfl, k⟩
            clear HC
            clear ya0 ya1 ya2 ya3 yb0 yb1 yb2 yb3
            replace T4 := T4.nix k
            replace ky := ky.trans k.nix
            clear k
            obtain ⟨ra, rb, rowA, rowB, lk, ka, sb⟩ := HFG.out _ ky
            have ya0 := rowA.cell 0
            have yb0 := rowB.cell 0
            (try simp only [List.getElem?_cons_zero] at ya0 yb0)
            have ya1 := rowA.cell 1
            (try simp only [List.getElem?_cons_succ] at ya1); (try simp only [List.getElem?_cons_zero] at ya1)
            have ya2 := rowA.cell 2
            (try simp only [List.getElem?_cons_succ] at ya2); (try simp only [List.getElem?_cons_zero] at ya2)
            have ya3 := rowA.cell 3
            (try simp only [List.getElem?_cons_succ] at ya3); (try simp only [List.getElem?_cons_zero] at ya3)
            have yb1 := rowB.cell 1
            (try simp only [List.getElem?_cons_succ] at yb1); (try simp only [List.getElem?_cons_zero] at yb1)
            have yb2 := rowB.cell 2
            (try simp only [List.getElem?_cons_succ] at yb2); (try simp only [List.getElem?_cons_zero] at yb2)
            have yb3 := rowB.cell 3
            (try simp only [List.getElem?_cons_succ] at yb3); (try simp only [List.getElem?_cons_zero] at yb3)
            have HC := put_c P3 g3 (0 + 1) [noW a] (noW b) [.int .u64 b.fTxn, .slice bK b.fKeys.length dK, .slice bS b.fSpans.length dS, .slice none 0 0] w14 T4 (by decide) rb ⟨(smallB_F HSB.out).1, (smallB_F HSB.out).2.1, Nat.zero_le _⟩ (fun x hx => by have := ky.size; have hx : x < W.heap.size := hx; omega)
            unfold PutPost at HC
            rw [may_no ZB.out ZAB.out, put_no ZB.out ZAB.out] at HC
            replace HC := Lib.hid HC
            clear T4 ra rb rowA rowB lk ka sb
            go_wp2_with fail
            go_fit HC.out
            rintro e w15 ⟨rfl, P4, T5, -, -, k⟩
            clear HC
            clear ya0 ya1 ya2 ya3 yb0 yb1 yb2 yb3
            replace ky := ky.trans (k.mono (fun x hx => hP3b x hx))
            clear k hP3b
            go_wp2_with fail
            have hbA : a.fKeys.length ≤ 1000 := (smallB_F HSA.out).1
            have hbB : b.fSpans.length ≤ 1000 := (smallB_F HSB.out).2.1
            go_loopw [10, 11] (fun r i wr => ∃ k : Nat, k ≤ a.fKeys.length ∧ i = .int .i64 k ∧ r = .bool ((a.fKeys.take k).any (fun x => decide (x = key))) ∧ Keep Nix w15 wr) (fun _ i _ => a.fKeys.length - (intOf i).toNat)
            case atStart => exact ⟨0, by omega, rfl, rfl, Keep.refl _ _⟩
            case round =>
              obtain ⟨k, hk, rfl, rfl, kx⟩ := hrel
              have kyx := ky.trans kx.nix
              obtain ⟨-, -, rowA, -, lk, ka, -⟩ := HFG.out _ kyx
              have ya1 := rowA.cell 1
              (try simp only [List.getElem?_cons_succ] at ya1); (try simp only [List.getElem?_cons_zero] at ya1)
              obtain ⟨r0, HR0⟩ : ∃ r0, Hid ((a.fKeys.take k).any (fun x => decide (x = key)) = r0) := ⟨_, rfl⟩
              rw [HR0.out]
              by_cases hlt : k < a.fKeys.length
              · have hi0 : (0 : Int) ≤ (k : Int) := by omega
                have hi1 : (k : Int) < (a.fKeys.length : Int) := by omega
                have HSN := Lib.hid (any_snoc a.fKeys k hlt (fun x => decide (x = key)))
                cases r0 with
                | true =>
                  clear rowA lk ka
                  go_wp2_with fail
                  go_roundw
                  case rel => exact ⟨k + 1, by omega, by go_num, by rw [HSN.out, HR0.out]; rfl, kx⟩
                  case measure => simp [intOf]; omega
                | false =>
                  obtain ⟨bb, o, _, cs, e1, -, hbb, rB, hcl⟩ := rList_at rBytes_lawful (by decide) ka k hlt
                  simp only [List.cons.injEq, Value.slice.injEq, and_true] at e1
                  obtain ⟨rfl, -, -⟩ := e1
                  obtain ⟨x, hx⟩ : ∃ x, a.fKeys[k] = x := ⟨_, rfl⟩
                  rw [hx] at HSN rB
                  clear hx
                  obtain ⟨aX, cX, rfl, lX, -, -⟩ := rB
                  have x0 := hcl 0 _ rfl
                  (try simp only [Nat.add_zero, Nat.mul_one] at x0)
                  have HC := bytes_c aX ak x.length cX key.length cp x key wr rfl rfl lX lk
                  obtain ⟨d, HD⟩ : ∃ d, Hid (decide (x = key) = d) := ⟨_, rfl⟩
                  rw [HD.out] at HC
                  replace HC := Lib.hid HC
                  clear hcl lX lk ka rowA
                  go_wp2_with fail
                  go_fit HC.out
                  rintro e wy ⟨rfl, rfl⟩
                  clear HC
                  go_wp2_with fail
                  go_roundw
                  case rel => exact ⟨k + 1, by omega, by go_num, by rw [HSN.out, HR0.out, HD.out]; rfl, kx⟩
                  case measure => simp [intOf]; omega
              · obtain rfl : k = a.fKeys.length := by omega
                rw [List.take_length] at HR0
                clear rowA lk ka
                have T6 := Lib.hid (T5.nix kx)
                have HRA := HR0
                clear HR0 hk hlt ky kx T5
                obtain ⟨yb2, -⟩ : True ∧ True := ⟨trivial, trivial⟩
                clear yb2
                go_wp2_with fail
                go_loopw [10, 12] (fun r i wx => ∃ k : Nat, k ≤ b.fSpans.length ∧ i = .int .i64 k ∧ r = .bool (r0 || (b.fSpans.take k).any (fun x => withinF x key)) ∧ Keep Nix wr wx) (fun _ i _ => b.fSpans.length - (intOf i).toNat)
                case atStart => exact ⟨0, by omega, rfl, by simp, Keep.refl _ _⟩
                case round =>
                  obtain ⟨k, hk, rfl, rfl, kx⟩ := hrel
                  have kyy := kyx.trans kx.nix
                  obtain ⟨ra, rb, rowA, rowB, lk, -, sb⟩ := HFG.out _ kyy
                  have yb2 := rowB.cell 2
                  (try simp only [List.getElem?_cons_succ] at yb2); (try simp only [List.getElem?_cons_zero] at yb2)
                  obtain ⟨r1, HR1⟩ : ∃ r1, Hid ((r0 || (b.fSpans.take k).any (fun x => withinF x key)) = r1) := ⟨_, rfl⟩
                  rw [HR1.out]
                  by_cases hlt : k < b.fSpans.length
                  · have hi0 : (0 : Int) ≤ (k : Int) := by omega
                    have hi1 : (k : Int) < (b.fSpans.length : Int) := by omega
                    have HSN := Lib.hid (any_snoc b.fSpans k hlt (fun x => withinF x key))
                    cases r1 with
                    | true =>
                      clear ra rb rowA rowB lk sb
                      go_wp2_with fail
                      go_roundw
                      case rel => exact ⟨k + 1, by omega, by go_num, by rw [HSN.out, ← Bool.or_assoc, HR1.out]; rfl, kx⟩
                      case measure => simp [intOf]; omega
                    | false =>
                      obtain ⟨bb, o, _, cs, e1, -, hbb, rB, hcl⟩ := rList_at rGSpan_lawful (by decide) sb k hlt
                      simp only [List.cons.injEq, Value.slice.injEq, and_true] at e1
                      obtain ⟨rfl, -, -⟩ := e1
                      obtain ⟨x, hx⟩ : ∃ x, b.fSpans[k] = x := ⟨_, rfl⟩
                      rw [hx] at HSN rB
                      clear hx
                      have HC := within_c x cs ak cp key _ rB lk
                      obtain ⟨aX, cX, aY, cY, rfl, -⟩ := rGSpan_open rB
                      have x0 := hcl 0 _ rfl
                      have x1 := hcl 1 _ rfl
                      (try simp only [Nat.add_zero] at x0)
                      obtain ⟨d, HD⟩ : ∃ d, Hid (withinF x key = d) := ⟨_, rfl⟩
                      rw [HD.out] at HC
                      replace HC := Lib.hid HC
                      clear hcl lk sb ra rb rowA rowB rB
                      go_wp2_with fail
                      go_fit HC.out
                      rintro e wy ⟨rfl, k2⟩
                      clear HC
                      go_wp2_with fail
                      go_roundw
                      case rel => exact ⟨k + 1, by omega, by go_num, by rw [HSN.out, ← Bool.or_assoc, HR1.out, HD.out]; rfl, kx.trans k2⟩
                      case measure => simp [intOf]; omega
                  · obtain rfl : k = b.fSpans.length := by omega
                    rw [List.take_length] at HR1
                    have HRR : Hid (readsB a b key = r1) := by show _ = _; rw [← HR1.out, ← HRA.out]; rfl
                    have T7 := T6.out.nix kx
                    obtain ⟨ws, hws⟩ : ∃ ws, ws = wr := ⟨_, rfl⟩
                    rw [← hws] at T7 lk kyy rowA rowB yb2 ⊢
                    have kF : Keep Nix W ws := HKW.out.then kyy (fun i hi h => by omega)
                    clear ra rb sb HR1 HRA hk hlt T6 ya1 hws kx kyx
                    obtain ⟨tx, hT⟩ : ∃ tx, IntKind.u64.wrap (a.fTxn + b.fTxn) = tx := ⟨_, rfl⟩
                    have htx : isU64 tx := by
                      rw [← hT]
                      unfold isU64
                      simp only [IntKind.wrap, IntKind.signed, IntKind.bits]
                      constructor
                      · simp; omega
                      · simp; omega
                    have ya0 := rowA.cell 0
                    have yb0 := rowB.cell 0
                    (try simp only [List.getElem?_cons_zero] at ya0 yb0)
                    have k3 : Keep Nix ws (((ws.alloc (.cells #[.slice ak key.length cp, .slice none 0 0, .bool false] 48))).alloc (.cells #[.int .u64 tx, .slice none 0 0, .slice none 0 0, .slice (some ⟨ws.heap.size, 0, none⟩) 1 1] 28)) := ((Keep.refl Nix ws).alloc _).alloc _
                    have hS7 : Hid (((((ws.alloc (.cells #[.slice ak key.length cp, .slice none 0 0, .bool false] 48))).alloc (.cells #[.int .u64 tx, .slice none 0 0, .slice none 0 0, .slice (some ⟨ws.heap.size, 0, none⟩) 1 1] 28))).heap.size = ws.heap.size + 2) := by show _ = _; simp
                    have row13 : RowIs (((ws.alloc (.cells #[.slice ak key.length cp, .slice none 0 0, .bool false] 48))).alloc (.cells #[.int .u64 tx, .slice none 0 0, .slice none 0 0, .slice (some ⟨ws.heap.size, 0, none⟩) 1 1] 28)) (ws.heap.size + 1) 28 [.int .u64 tx, .slice none 0 0, .slice none 0 0, .slice (some ⟨ws.heap.size, 0, none⟩) 1 1] := by
                      have h := RowIs.alloc (ws.alloc (.cells #[.slice ak key.length cp, .slice none 0 0, .bool false] 48)) #[.int .u64 tx, .slice none 0 0, .slice none 0 0, .slice (some ⟨ws.heap.size, 0, none⟩) 1 1] 28
                      simpa using h
                    have lX : Lies (((ws.alloc (.cells #[.slice ak key.length cp, .slice none 0 0, .bool false] 48))).alloc (.cells #[.int .u64 tx, .slice none 0 0, .slice none 0 0, .slice (some ⟨ws.heap.size, 0, none⟩) 1 1] 28)) (fun x => x < ((((ws.alloc (.cells #[.slice ak key.length cp, .slice none 0 0, .bool false] 48))).alloc (.cells #[.int .u64 tx, .slice none 0 0, .slice none 0 0, .slice (some ⟨ws.heap.size, 0, none⟩) 1 1] 28))).heap.size) (some ⟨ws.heap.size, 0, none⟩) [.slice ak key.length cp, .slice none 0 0, .bool false] := (Lies.block ws #[.slice ak key.length cp, .slice none 0 0, .bool false] 48 (fun x => x < ((((ws.alloc (.cells #[.slice ak key.length cp, .slice none 0 0, .bool false] 48))).alloc (.cells #[.int .u64 tx, .slice none 0 0, .slice none 0 0, .slice (some ⟨ws.heap.size, 0, none⟩) 1 1] 28))).heap.size) (by have := hS7.out; omega)).keep ((Keep.refl Nix _).alloc _) (fun _ _ h => h)
                    have hWws : W.heap.size ≤ ((((ws.alloc (.cells #[.slice ak key.length cp, .slice none 0 0, .bool false] 48))).alloc (.cells #[.int .u64 tx, .slice none 0 0, .slice none 0 0, .slice (some ⟨ws.heap.size, 0, none⟩) 1 1] 28))).heap.size := (kF.trans k3).size
                    have hwr : rGWrite (((ws.alloc (.cells #[.slice ak key.length cp, .slice none 0 0, .bool false] 48))).alloc (.cells #[.int .u64 tx, .slice none 0 0, .slice none 0 0, .slice (some ⟨ws.heap.size, 0, none⟩) 1 1] 28)) (fun x => x < ((((ws.alloc (.cells #[.slice ak key.length cp, .slice none 0 0, .bool false] 48))).alloc (.cells #[.int .u64 tx, .slice none 0 0, .slice none 0 0, .slice (some ⟨ws.heap.size, 0, none⟩) 1 1] 28))).heap.size) [.slice ak key.length cp, .slice none 0 0, .bool false] ⟨key, [], false⟩ := rGWrite_mk _ _ (x := ⟨key, [], false⟩) ⟨(lk.keep k3 (fun _ _ h => h)).mono (fun x hx => Nat.lt_of_lt_of_le hx hWws), hlc, hlf⟩ (nil_B _ _)
                    have RWH := Lib.hid (rGHeld_mk (((ws.alloc (.cells #[.slice ak key.length cp, .slice none 0 0, .bool false] 48))).alloc (.cells #[.int .u64 tx, .slice none 0 0, .slice none 0 0, .slice (some ⟨ws.heap.size, 0, none⟩) 1 1] 28)) (fun x => x < ((((ws.alloc (.cells #[.slice ak key.length cp, .slice none 0 0, .bool false] 48))).alloc (.cells #[.int .u64 tx, .slice none 0 0, .slice none 0 0, .slice (some ⟨ws.heap.size, 0, none⟩) 1 1] 28))).heap.size) (x := wF tx key) htx (nil_R _ _) (nil_R _ _) (one_R lX hwr))
                    have HR13 := Lib.hid row13
                    have HT7 := Lib.hid (T7.nix k3)
                    have HLK := Lib.hid (lk.keep k3 (fun _ _ h => h))
                    have HKF := Lib.hid (kF.trans k3)
                    have HYY := Lib.hid (kyy.trans k3.nix)
                    clear row13 lX hwr T7 lk kF kyy k3 hWws hS7 rowA rowB
                    go_upto_region 20 with fail
                    clear ya0 yb0 hT yb2
                    generalize (((ws.alloc (.cells #[.slice ak key.length cp, .slice none 0 0, .bool false] 48))).alloc (.cells #[.int .u64 tx, .slice none 0 0, .slice none 0 0, .slice (some ⟨ws.heap.size, 0, none⟩) 1 1] 28)) = w17 at *
                    have row13 := HR13.out
                    obtain ⟨-, -, rowA, rowB, -, -, -⟩ := HFG.out _ HYY.out
                    have ya0 := rowA.cell 0
                    have yb0 := rowB.cell 0
                    have x0 := row13.cell 0
                    (try simp only [List.getElem?_cons_zero] at ya0 yb0 x0)
                    have x1 := row13.cell 1
                    (try simp only [List.getElem?_cons_succ] at x1); (try simp only [List.getElem?_cons_zero] at x1)
                    have x2 := row13.cell 2
                    (try simp only [List.getElem?_cons_succ] at x2); (try simp only [List.getElem?_cons_zero] at x2)
                    have x3 := row13.cell 3
                    (try simp only [List.getElem?_cons_succ] at x3); (try simp only [List.getElem?_cons_zero] at x3)
                    clear rowA rowB row13 HFG HYY
                    by_cases e0 : tx = 0
                    · have q0 : (tx == 0) = true := by simp [e0]
                      clear e0
                      go_wp2_with fail
                      go_ret
                      exact ⟨rfl, HKF.out⟩
                    · have q0 : (tx == 0) = false := by simp [e0]
                      by_cases e1 : tx = a.fTxn
                      · have q1 : (tx == a.fTxn) = true := by simp [e1]
                        have e0 := Lib.hid e0
                        have e1 := Lib.hid e1
                        go_wp2_with fail
                        go_ret
                        exact ⟨rfl, HKF.out⟩
                      · have q1 : (tx == a.fTxn) = false := by simp [e1]
                        by_cases e2 : tx = b.fTxn
                        · have q2 : (tx == b.fTxn) = true := by simp [e2]
                          have e0 := Lib.hid e0
                          have e1 := Lib.hid e1
                          have e2 := Lib.hid e2
                          go_wp2_with fail
                          go_ret
                          exact ⟨rfl, HKF.out⟩
                        · have q2 : (tx == b.fTxn) = false := by simp [e2]
                          have E0 := Lib.hid e0
                          have E1 := Lib.hid e1
                          have E2 := Lib.hid e2
                          clear e0 e1 e2
                          cases r1 with
                          | false =>
                            go_wp2_with fail
                            go_ret
                            exact ⟨rfl, HKF.out⟩
                          | true =>
                            have HC := may_c P4 g3 (0 + 1 + 1) (putT [noW a] (noW b)) (wF tx key) [.int .u64 tx, .slice none 0 0, .slice none 0 0, .slice (some ⟨ws.heap.size, 0, none⟩) 1 1] w17 HT7.out RWH.out (fun x hx => hx)
                            rw [may_w ZAB.out E0.out E1.out E2.out HRR.out] at HC
                            replace HC := Lib.hid HC
                            go_wp2_with fail
                            go_fit HC.out
                            rintro e w18 ⟨rfl, k⟩
                            clear HC
                            have rsp : rGSpan w18 (· < W.heap.size) [.slice ak key.length cp, .slice none 0 0] ⟨key, []⟩ := rGSpan_mk _ _ (x := ⟨key, []⟩) ⟨HLK.out.keep k (fun _ _ h => h), hlc, hlf⟩ (nil_B _ _)
                            have HC := touches_c P4 g3 (0 + 1 + 1) (putT [noW a] (noW b)) ⟨key, []⟩ [.slice ak key.length cp, .slice none 0 0] w18 (HT7.out.nix k) (by decide) (len_L a b) rsp
                            rw [touch_L ZAB.out HRR.out] at HC
                            replace HC := Lib.hid HC
                            clear rsp
                            go_wp2_with fail
                            go_fit HC.out
                            rintro e w19 ⟨rfl, k2⟩
                            clear HC
                            go_wp2_with fail
                            go_ret
                            exact ⟨rfl, (HKF.out.trans k).trans k2⟩
end lockSides
end Go.Proofs.Ytfagejfcibgigaa
