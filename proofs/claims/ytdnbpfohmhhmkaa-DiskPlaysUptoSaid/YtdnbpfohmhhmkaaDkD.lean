/- DISK: the law DiskApart. Printed by mac.py. -/
import Derived.Test.YtdnbpfohmhhmkaaDkC
namespace Go.Proofs.Ytdnbpfohmhhmkaa
open Go.RowKit

theorem put_seen {S : List (List UInt8)} {n : Nat} (hn : n < S.length) (q : Int × List UInt8) (hq : 0 ≤ q.1) : (putS S q).getD n [] = seen n (S.getD n []) q := by
  unfold putS seen
  rw [List.getD_eq_getElem?_getD, List.getElem?_set]
  by_cases h : q.1 = n
  · rw [if_pos (by omega), if_pos h, if_pos (by omega)]; rfl
  · rw [if_neg (by omega), if_neg h, ← List.getD_eq_getElem?_getD]
theorem show_put {n : Nat} : ∀ (Q : List (Int × List UInt8)) {S : List (List UInt8)}, n < S.length → (∀ q ∈ Q, 0 ≤ q.1) → (Q.foldl putS S).getD n [] = Q.foldl (seen n) (S.getD n [])
  | [], _, _, _ => rfl
  | q :: Q, S, hn, hq => by
    rw [List.foldl_cons, List.foldl_cons, show_put Q (by unfold putS; rw [List.length_set]; exact hn) (fun r hr => hq r (List.mem_cons_of_mem _ hr)), put_seen hn q (hq q (by simp))]
theorem show_flush {S : List (List UInt8)} {Q : List (Int × List UInt8)} {ar : Int} (ok : DiskOk S Q ar) {n : Nat} (hn : n < S.length) : showF (Q.foldl putS S) [] n = showF S Q n := by
  unfold showF
  rw [List.foldl_nil, Int.toNat_natCast, show_put Q hn (fun q hq => (ok.q64 q hq).2.1)]
theorem ok_snoc {S : List (List UInt8)} {Q : List (Int × List UInt8)} {ar : Int} (ok : DiskOk S Q ar) {m : Nat} (hm : m < S.length) {l : List UInt8} (hl : l.length = 64) : DiskOk S (Q ++ [((m : Int), l)]) ar :=
  ⟨ok.s64, fun q hq => (by
    rcases List.mem_append.1 hq with h | h
    · exact ok.q64 q h
    · rw [List.mem_singleton] at h; subst h; exact ⟨hl, by show (0 : Int) ≤ (m : Int); omega, by show (m : Int) < _; omega⟩), ok.n, ok.a0, ok.a1⟩
theorem ok_flush {S : List (List UInt8)} {Q : List (Int × List UInt8)} {ar : Int} (ok : DiskOk S Q ar) : DiskOk (Q.foldl putS S) [] ar :=
  ⟨puts_64 ok.s64 (fun q hq => (ok.q64 q hq).1), fun q hq => (List.not_mem_nil hq).elim, by rw [puts_len]; exact ok.n, ok.a0, ok.a1⟩
theorem made64 (w : World) : ∃ w1, (Instr.makeSlice 22 (.int .i64 64) (.int .i64 64)).run Try.prog w = .ok (.slice (some ⟨w.heap.size, 0, none⟩) 64 64) w1 ∧ RowIs w1 w.heap.size 5 (zero64.map bv) ∧ Keep Nix w w1 := by
  obtain ⟨i, hi, hz, hsz, hby⟩ := info_parts (by kernel_rfl : (Try.prog.info? 5).map (fun i => (i.zero, i.size, i.bytes)) = some (some (.int .u8 0), 1, 1))
  obtain ⟨w1, hmk, hown, hgrow⟩ := run_make_full (P := Try.prog) w 0 22 5 i _ 1 Try.underlying22 hi hz hsz .i64 .i64 64 (by rw [hby]; decide) (by decide) (by omega)
  have kk : Keep Nix w w1 := (Keep.refl Nix w).grown hgrow (fun k hk => nomatch hk)
  refine ⟨w1, hmk, ?_, kk⟩
  obtain ⟨b, rest, e, -, h1, h2⟩ := RowIs.of_owned hown
  cases e
  have hr : rest = [] := by
    simp [size_madeCells] at h2
    exact h2
  subst hr
  rw [List.append_nil] at h1
  have e2 : (madeCells (Value.int .u8 0).cells (64 * 1)).toList = zero64.map bv := by
    show (madeCells #[Value.int .u8 0] 64).toList = _
    rw [toList_madeCells_one]; rfl
  rw [e2] at h1; exact h1
/-- What sector i shows. -/
def wantF (x y : Nat) (b c : List UInt8) (i : Nat) : List UInt8 := if i = y then secF b else if i = x then secF c else zero64
theorem want_len (x y : Nat) (b c : List UInt8) (i : Nat) : (wantF x y b c i).length = 64 := by
  unfold wantF; split
  · exact secF_len _
  · split
    · exact secF_len _
    · rfl
theorem want0 {x y : Nat} (hxy : x ≠ y) (a b c : List UInt8) {i : Nat} (hi : i < 8) : showF (List.replicate 8 zero64) (([] ++ [((x : Int), secF a)] ++ [((y : Int), secF b)]) ++ [((x : Int), secF c)]) i = wantF x y b c i := by
  unfold showF wantF
  simp only [List.nil_append, List.cons_append, List.foldl_cons, List.foldl_nil, Int.toNat_natCast, seen]
  have e : (List.replicate 8 zero64).getD i [] = zero64 := by rw [List.getD_eq_getElem?_getD, List.getElem?_replicate_of_lt hi]; rfl
  rw [e]
  by_cases h1 : i = x
  · subst h1
    rw [if_pos rfl, if_neg (by omega), if_pos rfl]
  · by_cases h2 : i = y
    · subst h2
      rw [if_neg (by omega), if_pos rfl, if_pos rfl]
    · rw [if_neg (by omega), if_neg (by omega), if_neg (by omega), if_neg (by omega), if_neg (by omega)]
theorem IsDisk.fwd {w w' : World} {n0 g : Nat} {S : List (List UInt8)} {Q : List (Int × List UInt8)} {dn : Bool} {ar : Int} (h : IsDisk w (fun b => n0 ≤ b ∧ b < w.heap.size) g S Q dn ar) (k : Keep Nix w w') : IsDisk w' (fun b => n0 ≤ b ∧ b < w'.heap.size) g S Q dn ar :=
  (h.keep k (fun _ _ h => h)).mono fun _ hb => ⟨hb.1, Nat.lt_of_lt_of_le hb.2 k.size⟩
namespace diskApart
section
attribute [local go_sem ↓] cv_up cv_down rm_uint
set_option maxRecDepth 100000 in
set_option maxHeartbeats 4000000 in
theorem walk {m0 m1 m2 m3 m4 : Nat} (W : World) (v0 v1 v2 v3 v4 : Value) (h0 : Arg Try.prog W m0 22 v0) (h1 : Arg Try.prog W m1 22 v1) (h2 : Arg Try.prog W m2 22 v2) (h3 : Arg Try.prog W m3 3 v3) (h4 : Arg Try.prog W m4 3 v4) :
    Calls Try.prog 4 #[v0, v1, v2, v3, v4] W fun e w' => e = .returned (.bool true) ∧ Keep Nix W w' := by
  obtain ⟨aA, nA, cA, rfl, rA⟩ := h0.slice Try.underlying22
  obtain ⟨lA, rfl, LA, hcA, hnA, -⟩ := bytes_in Try.underlying22 Try.underlying5 (by kernel_rfl) (by kernel_rfl) rA
  obtain ⟨aB, nB, cB, rfl, rB⟩ := h1.slice Try.underlying22
  obtain ⟨lB, rfl, LB, hcB, hnB, -⟩ := bytes_in Try.underlying22 Try.underlying5 (by kernel_rfl) (by kernel_rfl) rB
  obtain ⟨aC, nC, cC, rfl, rC⟩ := h2.slice Try.underlying22
  obtain ⟨lC, rfl, LC, hcC, hnC, -⟩ := bytes_in Try.underlying22 Try.underlying5 (by kernel_rfl) (by kernel_rfl) rC
  obtain ⟨xi, rfl, -⟩ := h3.int Try.underlying3
  obtain ⟨yi, rfl, -⟩ := h4.int Try.underlying3
  have mA : lA.length ≤ 140737488351232 := Nat.le_trans hnA hcA
  have mB : lB.length ≤ 140737488351232 := Nat.le_trans hnB hcB
  have mC : lC.length ≤ 140737488351232 := Nat.le_trans hnC hcC
  clear rA rB rC hcA hnA hcB hnB hcC hnC h0 h1 h2 h3 h4
  obtain ⟨c, x, hx, f1, -, f3, f4⟩ := round_facts xi 8 (by decide) (by decide)
  replace f3 : ∀ x' y w, (rmSem 27 x' y (.int .u64 (c : Int)) (.int .u64 8)).run Try.prog w = .ok (.value (.int .u64 (x : Int))) w := f3
  obtain ⟨c2, y, hy, g1, -, g3, g4⟩ := round_facts yi 8 (by decide) (by decide)
  replace g3 : ∀ x' y' w, (rmSem 27 x' y' (.int .u64 (c2 : Int)) (.int .u64 8)).run Try.prog w = .ok (.value (.int .u64 (y : Int))) w := g3
  obtain ⟨S0, hS0⟩ : ∃ S0, S0 = List.replicate 8 zero64 := ⟨_, rfl⟩
  have l8 : S0.length = 8 := by rw [hS0]; rfl
  have hxS : x < S0.length := by omega
  have hyS : y < S0.length := by omega
  have ok0 : DiskOk S0 [] 0 := ok_nil (by rw [hS0]; exact zero_64 8) (by omega)
  have ok1 := ok_snoc ok0 hxS (secF_len lA)
  have ok2 := ok_snoc ok1 hyS (secF_len lB)
  have ok3 := ok_snoc ok2 hxS (secF_len lC)
  go_enter Try.func4, Try.ntmps4
  go_wp2_with fail
  go_fit (new_c 8 (by decide) (by decide) _)
  rintro e w1 ⟨g, rfl, hd, kk⟩
  rw [← hS0] at hd
  replace hd := hd.tight
  go_wp2_with fail
  go_fit (dkawake_c _)
  rintro e w2 ⟨rfl, k2⟩
  have hzz := k2.size
  replace hd := (hd.keep k2 (fun _ _ h => h)).mono (q := fun b => W.heap.size ≤ b ∧ b < w2.heap.size) (fun b hb => by omega)
  replace kk := kk.trans k2
  clear k2 hzz
  rcases test_eq (x : Int) (y : Int) with ⟨t1, t2⟩ | ⟨t1, t2⟩
  · clear hd
    go_wp2_with fail
    go_fit (dkawake_c _)
    rintro e w3 ⟨rfl, k3⟩
    go_wp2_with fail
    go_ret
    exact ⟨rfl, kk.trans k3⟩
  · have hxy : x ≠ y := fun e => t2 (by rw [e])
    clear t2
    go_wp2_with fail
    go_fit (sector_c (p := (· < W.heap.size)) aA cA lA w2 (LA.keep kk (fun _ _ h => h)) mA)
    rintro e wS ⟨rfl, rowB, kS⟩
    replace hd := hd.keep kS (fun _ _ h => h)
    replace kk := kk.trans kS
    clear kS
    generalize hB2 : w2.heap.size = B2 at *
    have HC := write_c (q := fun b => b = B2) g S0 [] false 0 (x : Int) (some ⟨B2, 0, none⟩) 64 (secF lA) wS hd ok0 (Nat.le_of_ble_eq_true rfl) (rowB.lies (fun b => b = B2) rfl (xs := (secF lA).map bv) (off := 0) (fun j u hu => by rw [Nat.zero_add]; exact hu)) (fun b hb h => by have := h.2; omega) (by rw [secF_len]; decide) (by decide)
    rw [secF_len, write_ok hxS (secF_len lA)] at HC
    have HCC := Lib.hid HC
    clear HC
    go_wp2_with fail
    go_fit HCC.out
    rintro e w3 ⟨rfl, hd', k3⟩
    have hlt := rowB.lt
    have hzz := kk.size
    replace hd' : IsDisk w3 _ g S0 ([] ++ [((x : Int), secF lA)]) false 0 := hd'
    replace hd := (hd'.mono (q := fun b => (W.heap.size ≤ b ∧ b < wS.heap.size) ∨ wS.heap.size ≤ b) (fun b hb => by rcases hb with h | h <;> omega)).up hzz
    replace kk := kk.then k3 (fun i hi h => by have := h.1; omega)
    clear k3 hd' HCC rowB hlt hzz hB2
    clear w2 w1
    go_wp2_with fail
    go_fit (sector_c (p := (· < W.heap.size)) aB cB lB w3 (LB.keep kk (fun _ _ h => h)) mB)
    rintro e wS ⟨rfl, rowB, kS⟩
    replace hd := hd.keep kS (fun _ _ h => h)
    replace kk := kk.trans kS
    clear kS
    generalize hB2 : w3.heap.size = B2 at *
    have HC := write_c (q := fun b => b = B2) g S0 ([] ++ [((x : Int), secF lA)]) false 0 (y : Int) (some ⟨B2, 0, none⟩) 64 (secF lB) wS hd ok1 (Nat.le_of_ble_eq_true rfl) (rowB.lies (fun b => b = B2) rfl (xs := (secF lB).map bv) (off := 0) (fun j u hu => by rw [Nat.zero_add]; exact hu)) (fun b hb h => by have := h.2; omega) (by rw [secF_len]; decide) (by decide)
    rw [secF_len, write_ok hyS (secF_len lB)] at HC
    have HCC := Lib.hid HC
    clear HC
    go_wp2_with fail
    go_fit HCC.out
    rintro e w4 ⟨rfl, hd', k3⟩
    have hlt := rowB.lt
    have hzz := kk.size
    replace hd' : IsDisk w4 _ g S0 (([] ++ [((x : Int), secF lA)]) ++ [((y : Int), secF lB)]) false 0 := hd'
    replace hd := (hd'.mono (q := fun b => (W.heap.size ≤ b ∧ b < wS.heap.size) ∨ wS.heap.size ≤ b) (fun b hb => by rcases hb with h | h <;> omega)).up hzz
    replace kk := kk.then k3 (fun i hi h => by have := h.1; omega)
    clear k3 hd' HCC rowB hlt hzz hB2
    clear w3
    go_wp2_with fail
    go_fit (sector_c (p := (· < W.heap.size)) aC cC lC w4 (LC.keep kk (fun _ _ h => h)) mC)
    rintro e wS ⟨rfl, rowB, kS⟩
    replace hd := hd.keep kS (fun _ _ h => h)
    replace kk := kk.trans kS
    clear kS
    generalize hB2 : w4.heap.size = B2 at *
    have HC := write_c (q := fun b => b = B2) g S0 (([] ++ [((x : Int), secF lA)]) ++ [((y : Int), secF lB)]) false 0 (x : Int) (some ⟨B2, 0, none⟩) 64 (secF lC) wS hd ok2 (Nat.le_of_ble_eq_true rfl) (rowB.lies (fun b => b = B2) rfl (xs := (secF lC).map bv) (off := 0) (fun j u hu => by rw [Nat.zero_add]; exact hu)) (fun b hb h => by have := h.2; omega) (by rw [secF_len]; decide) (by decide)
    rw [secF_len, write_ok hxS (secF_len lC)] at HC
    have HCC := Lib.hid HC
    clear HC
    go_wp2_with fail
    go_fit HCC.out
    rintro e w5 ⟨rfl, hd', k3⟩
    have hlt := rowB.lt
    have hzz := kk.size
    replace hd' : IsDisk w5 _ g S0 ((([] ++ [((x : Int), secF lA)]) ++ [((y : Int), secF lB)]) ++ [((x : Int), secF lC)]) false 0 := hd'
    replace hd := (hd'.mono (q := fun b => (W.heap.size ≤ b ∧ b < wS.heap.size) ∨ wS.heap.size ≤ b) (fun b hb => by rcases hb with h | h <;> omega)).up hzz
    replace kk := kk.then k3 (fun i hi h => by have := h.1; omega)
    clear k3 hd' HCC rowB hlt hzz hB2
    clear w4
    have hsh : Hid (∀ i : Nat, i < 8 → showF S0 (([] ++ [((x : Int), secF lA)] ++ [((y : Int), secF lB)]) ++ [((x : Int), secF lC)]) i = wantF x y lB lC i) := fun i hi => by rw [hS0]; exact want0 hxy lA lB lC hi
    have hQ3 : (([] ++ [((x : Int), secF lA)] ++ [((y : Int), secF lB)]) ++ [((x : Int), secF lC)]).length ≤ 3 := Nat.le_of_ble_eq_true rfl
    generalize (([] ++ [((x : Int), secF lA)] ++ [((y : Int), secF lB)]) ++ [((x : Int), secF lC)]) = Q0 at *
    clear hS0 ok0 ok1 ok2 hxS hyS
    replace hd := Lib.hid hd
    replace kk := Lib.hid kk
    go_wp2_with fail
    go_loopw [13] (fun v wr => ∃ (k : Nat) (S : List (List UInt8)) (Q : List (Int × List UInt8)), k ≤ 2 ∧ v = .int .i64 k ∧ S.length = 8 ∧ Q.length ≤ 3 ∧ DiskOk S Q 0 ∧ Hid (∀ i : Nat, i < 8 → showF S Q i = wantF x y lB lC i) ∧ IsDisk wr (fun b => W.heap.size ≤ b ∧ b < wr.heap.size) g S Q false 0 ∧ Keep Nix W wr) (fun v _ => 2 - (intOf v).toNat)
    case atStart => exact ⟨0, S0, Q0, by omega, rfl, l8, hQ3, ok3, hsh, hd.out, kk.out⟩
    case round =>
      clear hd kk hsh hQ3 ok3 l8 S0 Q0
      obtain ⟨k, S, Q, hk, rfl, l8, hQ3, ok, hsh, hd, kk⟩ := hrel
      rcases Nat.lt_or_ge k 2 with hlt | hge
      · have hk2 : (k : Int) < 2 := by omega
        replace hd := Lib.hid hd
        replace kk := Lib.hid kk
        go_wp2_with fail
        go_loopw [14] (fun v wr => ∃ i : Nat, i ≤ 8 ∧ v = .int .i64 i ∧ IsDisk wr (fun b => W.heap.size ≤ b ∧ b < wr.heap.size) g S Q false 0 ∧ Keep Nix W wr) (fun v _ => 8 - (intOf v).toNat)
        case atStart => exact ⟨0, by omega, rfl, hd.out, kk.out⟩
        case round =>
          clear hd kk
          obtain ⟨i, hi, rfl, hd, kk⟩ := hrel
          rcases Nat.lt_or_ge i 8 with hi8 | hi8
          · have hiI : (i : Int) < 8 := by omega
            have HR := read_c g S Q 0 (i : Int) _ hd ok (by omega) (by omega) (by omega)
            rw [hsh.out i hi8] at HR
            have HRR := Lib.hid HR
            clear HR
            go_wp2_with fail
            go_fit HRR.out
            rintro e w8 ⟨g6, rfl, -, row6, k6⟩
            replace hd := hd.fwd k6
            replace kk := kk.trans k6
            clear k6 HRR
            obtain ⟨w9, hmk, rowZ, k9⟩ := made64 w8
            replace hd := hd.fwd k9
            replace kk := kk.trans k9
            replace row6 := row6.keep k9 id
            clear k9
            rcases test_eq (i : Int) (x : Int) with ⟨t3, t4⟩ | ⟨t3, t4⟩
            · have t5 := t4.out
              rcases test_eq (i : Int) (y : Int) with ⟨t6, t7⟩ | ⟨t6, t7⟩
              · exact absurd t7.out (by omega)
              · clear t4 t7
                go_wp2_with fail
                clear hmk
                go_fit (sector_c (p := (· < W.heap.size)) aC cC lC w9 (LC.keep kk (fun _ _ h => h)) mC)
                rintro e w10 ⟨rfl, rowM, k10⟩
                rw [← show wantF x y lB lC i = secF lC from by unfold wantF; rw [if_neg (by omega), if_pos (by omega)]] at rowM
                replace hd := hd.fwd k10
                replace kk := kk.trans k10
                replace row6 := row6.keep k10 id
                clear k10 rowZ
                go_wp2_with fail
                go_fit (bytes_c (some ⟨g6, 0, none⟩) (some ⟨w9.heap.size, 0, none⟩) _ 64 _ 64 (wantF x y lB lC i) (wantF x y lB lC i) _ (want_len x y lB lC i) (want_len x y lB lC i) (row6.lies (fun _ => True) trivial (off := 0) (fun j u hu => by rw [Nat.zero_add]; exact hu)) (rowM.lies (fun _ => True) trivial (off := 0) (fun j u hu => by rw [Nat.zero_add]; exact hu)))
                rintro e w13 ⟨rfl, rfl⟩
                rw [show decide (wantF x y lB lC i = wantF x y lB lC i) = true from decide_eq_true rfl]
                replace hd := Lib.hid hd
                replace kk := Lib.hid kk
                clear rowM row6
                go_wp2_with fail
                go_roundw
                case rel => exact ⟨i + 1, by omega, by go_num, hd.out, kk.out⟩
                case measure => simp [intOf]; omega
            · rcases test_eq (i : Int) (y : Int) with ⟨t6, t7⟩ | ⟨t6, t7⟩
              · have t8 := t7.out
                clear t4 t7
                go_wp2_with fail
                clear hmk
                go_fit (sector_c (p := (· < W.heap.size)) aB cB lB w9 (LB.keep kk (fun _ _ h => h)) mB)
                rintro e w10 ⟨rfl, rowM, k10⟩
                rw [← show wantF x y lB lC i = secF lB from by unfold wantF; rw [if_pos (by omega)]] at rowM
                replace hd := hd.fwd k10
                replace kk := kk.trans k10
                replace row6 := row6.keep k10 id
                clear k10 rowZ
                go_wp2_with fail
                go_fit (bytes_c (some ⟨g6, 0, none⟩) (some ⟨w9.heap.size, 0, none⟩) _ 64 _ 64 (wantF x y lB lC i) (wantF x y lB lC i) _ (want_len x y lB lC i) (want_len x y lB lC i) (row6.lies (fun _ => True) trivial (off := 0) (fun j u hu => by rw [Nat.zero_add]; exact hu)) (rowM.lies (fun _ => True) trivial (off := 0) (fun j u hu => by rw [Nat.zero_add]; exact hu)))
                rintro e w13 ⟨rfl, rfl⟩
                rw [show decide (wantF x y lB lC i = wantF x y lB lC i) = true from decide_eq_true rfl]
                replace hd := Lib.hid hd
                replace kk := Lib.hid kk
                clear rowM row6
                go_wp2_with fail
                go_roundw
                case rel => exact ⟨i + 1, by omega, by go_num, hd.out, kk.out⟩
                case measure => simp [intOf]; omega
              · have t9 : i ≠ x := fun e => t4 (by rw [e])
                have t10 : i ≠ y := fun e => t7 (by rw [e])
                clear t4 t7
                go_wp2_with fail
                clear hmk
                rw [← show wantF x y lB lC i = zero64 from by unfold wantF; rw [if_neg t10, if_neg t9]] at rowZ
                have rowM := rowZ
                clear rowZ
                go_fit (bytes_c (some ⟨g6, 0, none⟩) (some ⟨w8.heap.size, 0, none⟩) _ 64 _ 64 (wantF x y lB lC i) (wantF x y lB lC i) _ (want_len x y lB lC i) (want_len x y lB lC i) (row6.lies (fun _ => True) trivial (off := 0) (fun j u hu => by rw [Nat.zero_add]; exact hu)) (rowM.lies (fun _ => True) trivial (off := 0) (fun j u hu => by rw [Nat.zero_add]; exact hu)))
                rintro e w13 ⟨rfl, rfl⟩
                rw [show decide (wantF x y lB lC i = wantF x y lB lC i) = true from decide_eq_true rfl]
                replace hd := Lib.hid hd
                replace kk := Lib.hid kk
                clear rowM row6
                go_wp2_with fail
                go_roundw
                case rel => exact ⟨i + 1, by omega, by go_num, hd.out, kk.out⟩
                case measure => simp [intOf]; omega
          · obtain rfl : i = 8 := by omega
            clear hi8 hi
            have HC := flush_c g S Q false 0 _ hd ok (by omega)
            rw [show flushF S Q false 0 = (0, Q.foldl putS S, [], false, 0) from rfl] at HC
            have HCC := Lib.hid HC
            clear HC
            go_wp2_with fail
            go_fit HCC.out
            rintro e w14 ⟨rfl, hd', k3⟩
            have hzz := kk.size
            replace hd := (show IsDisk w14 _ g (Q.foldl putS S) [] false 0 from hd').up hzz
            replace kk := kk.then k3 (fun i hi h => by have := h.1; omega)
            clear k3 hd' HCC hzz
            obtain ⟨aS, cS, aQ, cQ, row, -⟩ := id hd
            go_wp2_with fail
            go_fit (waiting_c g aQ 0 cQ _ _ _ w14 row)
            rintro e w' ⟨rfl, rfl⟩
            clear row
            have hsh' : Hid (∀ i : Nat, i < 8 → showF (Q.foldl putS S) [] i = wantF x y lB lC i) := fun i hi => (show_flush ok (by omega)).trans (hsh.out i hi)
            have l8' : (Q.foldl putS S).length = 8 := by rw [puts_len]; exact l8
            have ok' := ok_flush ok
            replace hd := Lib.hid hd
            replace kk := Lib.hid kk
            go_wp2_with fail
            go_roundw
            case rel => exact ⟨k + 1, _, [], by omega, by go_num, l8', by decide, ok', hsh', hd.out, kk.out⟩
            case measure => simp [intOf]; omega
      · obtain rfl : k = 2 := by omega
        replace hd := Lib.hid hd
        replace kk := Lib.hid kk
        go_wp2_with fail
        go_ret
        exact ⟨rfl, kk.out⟩
end
end diskApart
end Go.Proofs.Ytdnbpfohmhhmkaa
