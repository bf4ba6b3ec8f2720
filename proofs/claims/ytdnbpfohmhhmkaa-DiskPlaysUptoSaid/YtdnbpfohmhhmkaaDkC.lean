/- DISK: the law DiskSafe. Printed by mac.py. -/
import Derived.Test.YtdnbpfohmhhmkaaDkA
import Derived.Test.YtdnbpfohmhhmkaaMod
import Derived.Test.YtdnbpfohmhhmkaaHelp
import Derived.Deep.AppendSrc
namespace Go.Proofs.Ytdnbpfohmhhmkaa
open Go.RowKit

/-- 'append' at a step, by its run. -/
theorem step_app {P : Program} {ops : Array Oper} {o : Oper} {a : Act} {K : Act → World → Prop} {Q : Exit → Act → World → Prop} {E : Prop} {w w' : World} {t : TypeId} {v y r : Value} (hw : Region.wanted o (yielded ops a.tmps) = true) (s x : Operand)
    (ho : o.op = .call { callee := .builtin .append, args := #[s, x], argTypes := #[t, t] }) (hs : a.eval s = v) (hx : a.eval x = y) (hrun : (Builtin.append_ #[t, t] o.type #[v, y]).run P w = .ok r w') (h : K (a.put o.dst r) w') :
    if Region.wanted o (yielded ops a.tmps) = true then Oper.wp P o a w K Q else E := by
  rw [if_pos hw]
  unfold Oper.wp
  simp only [execOp, ho, resolve, invoke, builtin, List.map_toArray, List.map_cons, List.map_nil, hs, hx, hrun, Sem.run_bind, Sem.run_pure, Result.andThen_ok]
  exact h
/-- 'append(new[:n:n], old[n:]...)'. -/
theorem app_cut {w : World} {b c T1 T2 : Nat} {new old : List UInt8} (ty : TypeId) (n : Nat) (hn : n ≤ 64) (hB : RowIs w b T1 (new.map bv)) (hA : RowIs w c T2 (old.map bv)) (lB : new.length = 64) (lA : old.length = 64) :
    ∃ g cap w', (Builtin.append_ #[22, 22] ty #[.slice (some ⟨b, 0, none⟩) n n, .slice (if 64 = n then some ⟨c, 0, none⟩ else some ⟨c, n, none⟩) (64 - n) (64 - n)]).run Try.prog w = .ok (.slice (some ⟨g, 0, none⟩) 64 cap) w' ∧ Lies w' (fun _ => True) (some ⟨g, 0, none⟩) ((mixF n old new).map bv) ∧ Keep Nix w w' := by
  obtain ⟨i, hi, hz, hsz, hby⟩ := info_parts (by kernel_rfl : (Try.prog.info? 5).map (fun i => (i.zero, i.size, i.bytes)) = some (some (.int .u8 0), 1, 1))
  by_cases h : n < 64
  · have hsrc : Src Try.prog i.size 22 (.slice (some ⟨c, n, none⟩) (64 - n) (64 - n)) (64 - n) ((old.drop n).map bv) w := Src.ofSlice w Try.underlying22 ⟨c, n, none⟩ (64 - n) (64 - n) _ (by rw [hsz]; simp [lA]) (fun j u hu => by
      rw [Addr.add_lit, hA.cell]; simpa using hu) (fun u hu => bv_one _ u hu)
    rw [if_neg (by omega)]
    have hold : (Builtin.firstCells i.size n (.slice (some ⟨b, 0, none⟩) n n)).run Try.prog w.drew = .ok ((new.take n).map bv).toArray w.drew := by
      refine run_firstCells_some (P := Try.prog) w.drew i.size n ⟨b, 0, none⟩ n n _ (by rw [hsz]; simp [lB]; omega) (fun j u hu => ?_)
      rw [Addr.add_lit, (hB.same (w' := w.drew)).cell]
      rw [List.getElem?_map] at hu ⊢
      by_cases hj : j < n
      · rw [List.getElem?_take_of_lt hj] at hu; simpa using hu
      · rw [List.getElem?_eq_none (by simp; omega)] at hu; cases hu
    have hrun := run_append_grow_src (P := Try.prog) w 22 22 ty 5 i (.int .u8 0) Try.underlying22 hi hz (some ⟨b, 0, none⟩) n n _ hold _ (64 - n) _ hsrc (by omega) (by omega) (growslice_fits (by omega) (by rw [hby]; omega))
    have e64 : n + (64 - n) = 64 := by omega
    rw [e64] at hrun
    refine ⟨_, _, _, hrun, ?_, ((Keep.refl Nix w).drew).alloc _⟩
    have hr := RowIs.alloc w.drew (((new.take n).map bv ++ (old.drop n).map bv).toArray ++ Builtin.zeroCells (Value.int .u8 0).cells (grownCap w 64 n 5 - 64)) 5
    refine hr.lies (fun _ => True) trivial (off := 0) (fun j u hu => ?_)
    rw [Nat.zero_add]
    unfold mixF at hu
    rw [List.map_append] at hu
    simp only [Array.toList_append]
    rw [List.getElem?_append_left (List.getElem?_eq_some_iff.1 hu).1]
    exact hu
  · obtain rfl : n = 64 := by omega
    have hsrc : Src Try.prog i.size 22 (.slice (some ⟨c, 0, none⟩) (64 - 64) (64 - 64)) (64 - 64) ((old.drop 64).map bv) w := Src.ofSlice w Try.underlying22 ⟨c, 0, none⟩ (64 - 64) (64 - 64) _ (by rw [hsz]; simp [lA]) (fun j u hu => by
      rw [List.drop_eq_nil_of_le (by omega)] at hu; simp at hu) (fun u hu => bv_one _ u hu)
    rw [if_pos rfl]
    have hrun := run_append_room_src (P := Try.prog) w 22 22 ty 5 i Try.underlying22 hi b 0 64 64 _ (64 - 64) _ hsrc (by omega) (fun j hj => by simp [lA] at hj) (fun j hj => by simp [lA] at hj)
    refine ⟨b, 64, w, ?_, ?_, Keep.refl _ _⟩
    · rw [hrun]
      have : ((old.drop 64).map bv) = [] := by rw [List.drop_eq_nil_of_le (by omega)]; rfl
      rw [this]; rfl
    · refine hB.lies (fun _ => True) trivial (off := 0) (fun j u hu => ?_)
      rw [Nat.zero_add]
      unfold mixF at hu
      rw [List.take_of_length_le (by omega), List.drop_eq_nil_of_le (by omega), List.append_nil] at hu
      exact hu
theorem IsDisk.up {w w' : World} {n0 g : Nat} {S : List (List UInt8)} {Q : List (Int × List UInt8)} {dn : Bool} {ar : Int} (h : IsDisk w' (fun b => (n0 ≤ b ∧ b < w.heap.size) ∨ w.heap.size ≤ b) g S Q dn ar) (hn : n0 ≤ w.heap.size) : IsDisk w' (fun b => n0 ≤ b ∧ b < w'.heap.size) g S Q dn ar :=
  h.tight.mono fun b hb => ⟨by rcases hb.1 with h | h <;> omega, hb.2⟩
theorem ok_nil {S : List (List UInt8)} (h : ∀ b ∈ S, b.length = 64) (hn : S.length ≤ 65536) : DiskOk S [] 0 := ⟨h, fun q hq => (List.not_mem_nil hq).elim, hn, by decide, by decide⟩
theorem ok_one {S : List (List UInt8)} (ok : DiskOk S [] 0) {m : Nat} (hm : m < S.length) {l : List UInt8} (hl : l.length = 64) : DiskOk S [((m : Int), l)] 0 :=
  ⟨ok.s64, fun q hq => (by rw [List.mem_singleton] at hq; subst hq; exact ⟨hl, by show (0 : Int) ≤ (m : Int); omega, by show (m : Int) < _; omega⟩), ok.n, by decide, by decide⟩
theorem write_ok {S : List (List UInt8)} {Q : List (Int × List UInt8)} {m : Nat} (hm : m < S.length) {l : List UInt8} (hl : l.length = 64) : writeF S Q false 0 (m : Int) l = (0, Q ++ [((m : Int), l)], false, 0) := by
  unfold writeF
  rw [if_neg (by decide), if_neg (by rw [hl]; omega)]; rfl
theorem set_64 {S : List (List UInt8)} (h : ∀ b ∈ S, b.length = 64) {m : Nat} {l : List UInt8} (hl : l.length = 64) : ∀ b ∈ S.set m l, b.length = 64 := fun b hb => by
  rcases List.mem_or_eq_of_mem_set hb with h' | h'
  · exact h b h'
  · rw [h']; exact hl
theorem flush_one {S : List (List UInt8)} {m : Nat} {l : List UInt8} : flushF S [((m : Int), l)] false 0 = (0, S.set m l, [], false, 0) := by
  unfold flushF
  rw [if_neg (by decide), if_neg (by decide)]
  show (0, putS S ((m : Int), l), [], _, _) = _
  unfold putS; rw [Int.toNat_natCast]; rfl
theorem fall_one {S : List (List UInt8)} {m : Nat} (hm : m < S.length) {l a : List UInt8} (k : Int) : fallF (S.set m a) [((m : Int), l)] [k] 1 = S.set m (mixF (keepN [k] 0) a l) := by
  unfold fallF
  show ((S.set m a).set ((m : Int).toNat) _) = _
  rw [Int.toNat_natCast, List.set_set]
  unfold fallF
  show S.set m (mixF _ ((S.set m a).getD ((m : Int).toNat) []) l) = _
  rw [Int.toNat_natCast, List.getD_eq_getElem?_getD, List.getElem?_set_self hm]; rfl
theorem zero_64 (n : Nat) : ∀ b ∈ List.replicate n zero64, b.length = 64 := fun b hb => by rw [List.eq_of_mem_replicate hb]; rfl
namespace diskSafe
section
attribute [local go_sem ↓] cv_up cv_down rm_uint
set_option maxRecDepth 100000 in
set_option maxHeartbeats 4000000 in
theorem walk {m0 m1 m2 m3 : Nat} (W : World) (v0 v1 v2 v3 : Value) (h0 : Arg Try.prog W m0 22 v0) (h1 : Arg Try.prog W m1 22 v1) (h2 : Arg Try.prog W m2 3 v2) (h3 : Arg Try.prog W m3 3 v3) :
    Calls Try.prog 3 #[v0, v1, v2, v3] W fun e w' => e = .returned (.bool true) ∧ Keep Nix W w' := by
  obtain ⟨aA, nA, cA, rfl, rA⟩ := h0.slice Try.underlying22
  obtain ⟨lA, rfl, LA, hcA, hnA, -⟩ := bytes_in Try.underlying22 Try.underlying5 (by kernel_rfl) (by kernel_rfl) rA
  obtain ⟨aB, nB, cB, rfl, rB⟩ := h1.slice Try.underlying22
  obtain ⟨lB, rfl, LB, hcB, hnB, -⟩ := bytes_in Try.underlying22 Try.underlying5 (by kernel_rfl) (by kernel_rfl) rB
  obtain ⟨at', rfl, -⟩ := h2.int Try.underlying3
  obtain ⟨k, rfl, -⟩ := h3.int Try.underlying3
  have mA : lA.length ≤ 140737488351232 := Nat.le_trans hnA hcA
  have mB : lB.length ≤ 140737488351232 := Nat.le_trans hnB hcB
  clear rA rB hcA hnA hcB hnB
  obtain ⟨c, m, hm, f1, -, f3, f4⟩ := round_facts at' 4 (by decide) (by decide)
  replace f3 : ∀ x y w, (rmSem 27 x y (.int .u64 (c : Int)) (.int .u64 4)).run Try.prog w = .ok (.value (.int .u64 (m : Int))) w := f3
  obtain ⟨S0, hS0⟩ : ∃ S0, S0 = List.replicate 4 zero64 := ⟨_, rfl⟩
  have l4 : S0.length = 4 := by rw [hS0]; rfl
  have hmS : m < S0.length := by omega
  have ok0 : DiskOk S0 [] 0 := ok_nil (by rw [hS0]; exact zero_64 4) (by omega)
  have ok1 := ok_one ok0 hmS (secF_len lA)
  have hmS1 : m < (S0.set m (secF lA)).length := by rw [List.length_set]; exact hmS
  have ok2 : DiskOk (S0.set m (secF lA)) [] 0 := ok_nil (set_64 ok0.s64 (secF_len lA)) (by rw [List.length_set]; omega)
  have ok3 := ok_one ok2 hmS1 (secF_len lB)
  have hk64 : keepN [k] 0 ≤ 64 := keepN_le _ _
  have lM : (mixF (keepN [k] 0) (secF lA) (secF lB)).length = 64 := mix_len (secF_len _) (secF_len _) hk64
  have ok4 : DiskOk (S0.set m (mixF (keepN [k] 0) (secF lA) (secF lB))) [] 0 := ok_nil (set_64 ok0.s64 lM) (by rw [List.length_set]; omega)
  go_enter Try.func3, Try.ntmps3
  go_wp2_with fail
  go_fit (new_c 4 (by decide) (by decide) _)
  rintro e w1 ⟨g, rfl, hd, kk⟩
  rw [← hS0] at hd
  clear hS0
  replace hd := hd.tight
  go_wp2_with fail
  go_fit (dkawake_c _)
  rintro e w2 ⟨rfl, k2⟩
  have hzz := k2.size
  replace hd := (hd.keep k2 (fun _ _ h => h)).mono (q := fun b => W.heap.size ≤ b ∧ b < w2.heap.size) (fun b hb => by omega)
  replace kk := kk.trans k2
  clear k2 hzz
  go_wp2_with fail
  go_fit (sector_c (p := (· < W.heap.size)) aA cA lA w2 (LA.keep kk (fun _ _ h => h)) mA)
  rintro e wS ⟨rfl, rowB, kS⟩
  replace hd := hd.keep kS (fun _ _ h => h)
  replace kk := kk.trans kS
  clear kS
  generalize hB2 : w2.heap.size = B2 at *
  have HC := write_c (q := fun b => b = B2) g S0 [] false 0 (m : Int) (some ⟨B2, 0, none⟩) 64 (secF lA) wS hd ok0 (by decide) (rowB.lies (fun b => b = B2) rfl (xs := (secF lA).map bv) (off := 0) (fun j u hu => by rw [Nat.zero_add]; exact hu)) (fun b hb h => by have := h.2; omega) (by rw [secF_len]; decide) (by decide)
  rw [secF_len, write_ok hmS (secF_len lA)] at HC
  have HCC := Lib.hid HC
  clear HC
  go_wp2_with fail
  go_fit HCC.out
  rintro e w3 ⟨rfl, hd', k3⟩
  have hlt := rowB.lt
  have hzz := kk.size
  replace hd' : IsDisk w3 _ g S0 ([] ++ [((m : Int), secF lA)]) false 0 := hd'
  replace hd := (hd'.mono (q := fun b => (W.heap.size ≤ b ∧ b < wS.heap.size) ∨ wS.heap.size ≤ b) (fun b hb => by rcases hb with h | h <;> omega)).up hzz
  replace kk := kk.then k3 (fun i hi h => by have := h.1; omega)
  clear k3 hd' HCC rowB hlt hzz hB2
  rw [List.nil_append] at hd
  clear w2 w1
  have HC := flush_c g S0 [((m : Int), secF lA)] false 0 w3 hd ok1 (by show 1 ≤ 1000; decide)
  rw [flush_one] at HC
  have HCC := Lib.hid HC
  clear HC
  go_wp2_with fail
  go_fit HCC.out
  rintro e w4 ⟨rfl, hd', k3⟩
  have hzz := kk.size
  replace hd := (show IsDisk w4 _ g (S0.set m (secF lA)) [] false 0 from hd').up hzz
  replace kk := kk.then k3 (fun i hi h => by have := h.1; omega)
  clear k3 hd' HCC hzz
  go_wp2_with fail
  go_fit (sector_c (p := (· < W.heap.size)) aB cB lB w4 (LB.keep kk (fun _ _ h => h)) mB)
  rintro e wS ⟨rfl, rowB, kS⟩
  replace hd := hd.keep kS (fun _ _ h => h)
  replace kk := kk.trans kS
  clear kS
  generalize hB2 : w4.heap.size = B2 at *
  have HC := write_c (q := fun b => b = B2) g (S0.set m (secF lA)) [] false 0 (m : Int) (some ⟨B2, 0, none⟩) 64 (secF lB) wS hd ok2 (by decide) (rowB.lies (fun b => b = B2) rfl (xs := (secF lB).map bv) (off := 0) (fun j u hu => by rw [Nat.zero_add]; exact hu)) (fun b hb h => by have := h.2; omega) (by rw [secF_len]; decide) (by decide)
  rw [secF_len, write_ok hmS1 (secF_len lB)] at HC
  have HCC := Lib.hid HC
  clear HC
  go_wp2_with fail
  go_fit HCC.out
  rintro e w5 ⟨rfl, hd', k3⟩
  have hlt := rowB.lt
  have hzz := kk.size
  replace hd' : IsDisk w5 _ g (S0.set m (secF lA)) ([] ++ [((m : Int), secF lB)]) false 0 := hd'
  replace hd := (hd'.mono (q := fun b => (W.heap.size ≤ b ∧ b < wS.heap.size) ∨ wS.heap.size ≤ b) (fun b hb => by rcases hb with h | h <;> omega)).up hzz
  replace kk := kk.then k3 (fun i hi h => by have := h.1; omega)
  clear k3 hd' HCC rowB hlt hzz hB2
  rw [List.nil_append] at hd
  clear w3 w4
  obtain ⟨aS, cS, aQ, cQ, row, -⟩ := id hd
  go_wp2_with fail
  go_fit (waiting_c g aQ _ cQ _ _ _ w5 row)
  rintro e w' ⟨rfl, rfl⟩
  clear row
  go_wp2_with fail
  have row7 := RowIs.alloc w5 #[.int .i64 k] 3
  have kA : Keep Nix w5 (w5.alloc (.cells #[.int .i64 k] 3)) := (Keep.refl Nix w5).alloc _
  have HC := crash_c (q := fun b => b = w5.heap.size) g (S0.set m (secF lA)) [((m : Int), secF lB)] false 0 (some ⟨w5.heap.size, 0, none⟩) 1 [k] _ (hd.keep kA (fun _ _ h => h)) ok3 (by show 1 ≤ 1000; decide) (row7.lies (fun b => b = w5.heap.size) rfl (xs := [k].map (Value.int .i64)) (off := 0) (fun j u hu => by rw [Nat.zero_add]; exact hu)) (fun b hb h => by have := h.2; omega) (by show 1 ≤ _; decide)
  rw [show ([((m : Int), secF lB)] : List (Int × List UInt8)).length = 1 from rfl, fall_one hmS] at HC
  have HCC := Lib.hid HC
  clear HC
  go_fit HCC.out
  rintro e w6 ⟨rfl, hd', k4⟩
  have hzz := kk.size
  have hzA := kA.size
  replace hd := (show IsDisk w6 _ g (S0.set m (mixF (keepN [k] 0) (secF lA) (secF lB))) [] true 0 from hd').mono (q := fun b => W.heap.size ≤ b) (fun b hb => by rcases hb with h | h <;> omega)
  replace kk := (kk.trans kA).then k4 (fun i hi h => by have := h.1; omega)
  clear k4 kA row7 hd' HCC hzz hzA
  obtain ⟨aS, cS, aQ, cQ, row, hown, howq, hp, hap, haq⟩ := hd
  go_wp2_with fail
  go_fit (start_c g _ _ _ true _ row)
  rintro e w7 ⟨rfl, row5, k5⟩
  have hown5 := owned_keep hown k5 (fun b hb e => (hap b hb).2 e)
  have hd : IsDisk w7 (fun b => W.heap.size ≤ b) g (S0.set m (mixF (keepN [k] 0) (secF lA) (secF lB))) [] false 0 := ⟨aS, cS, none, 0, row5, hown5, ⟨rfl, .inl ⟨rfl, rfl⟩⟩, hp, hap, fun b hb => by cases hb⟩
  replace kk := kk.then k5 (fun i hi e => by omega)
  clear k5 hown row howq hap haq row5 hown5 aS cS aQ cQ
  have HR := read_c g _ [] 0 (m : Int) _ hd ok4 (by decide) (by omega) (by rw [List.length_set]; omega)
  rw [show showF (S0.set m (mixF (keepN [k] 0) (secF lA) (secF lB))) [] (m : Int) = mixF (keepN [k] 0) (secF lA) (secF lB) from by
    unfold showF; rw [List.foldl_nil, Int.toNat_natCast, List.getD_eq_getElem?_getD, List.getElem?_set_self hmS]; rfl] at HR
  have HRR := Lib.hid HR
  clear HR
  go_wp2_with fail
  go_fit HRR.out
  rintro e w8 ⟨g6, rfl, hg6, row6, k6⟩
  replace hd := hd.keep k6 (fun _ _ h => h)
  replace kk := kk.trans k6
  clear k6 HRR hg6
  obtain ⟨n, hn, hnk⟩ : ∃ n : Nat, n = keepN [k] 0 ∧ (if 0 < (if 64 < k then 64 else k) then (if 64 < k then 64 else k) else 0) = (n : Int) := ⟨_, rfl, by show _ = (((min (max k 0) 64).toNat : Nat) : Int); split <;> split <;> omega⟩
  rw [← hn] at row6 lM hk64
  clear hn ok4
  go_upto_region 7 with fail
  have hn0 : (0 : Int) ≤ (n : Int) := by omega
  have hn64 : (n : Int) ≤ 64 := by omega
  clear hnk
  generalize (if 64 < k then (64 : Int) else k) = y64
  have kd : Keep Nix w8 w8.drew := (Keep.refl Nix w8).drew
  replace hd := hd.keep kd (fun _ _ h => h)
  replace kk := kk.trans kd
  replace row6 := row6.keep kd id
  clear kd
  refine wp_region_held_drew (S := (fun _ => True)) (by kernel_rfl) (trivial) (fun hHeld => ?_)
  generalize w8.drew = wd at *
  refine wpAnyH_take (i := 0) (v := ?_) rfl (by kernel_rfl) (by kernel_rfl) (by kernel_rfl) (fun _ _ _ h => h) (Or.inl ⟨by kernel_rfl, ?_⟩) hHeld ?_
  rotate_left
  · intro w' hSw
    (try dsimp only at hSw)
    (try simp only [List.getElem_toArray]); (try simp only [List.getElem_cons_succ]); (try simp only [List.getElem_cons_zero])
    go_simp
    try with_reducible rfl
  (try simp only [Act.put]); (try simp only [List.getElem_toArray]); (try simp only [List.getElem_cons_succ]); (try simp only [List.getElem_cons_zero]); (try simp only [List.setIfInBounds_toArray]); (try simp only [List.set_cons_succ]); (try simp only [List.set_cons_zero])
  refine wpAnyH_take (i := 1) (v := ?_) rfl (by kernel_rfl) (by kernel_rfl) (by kernel_rfl) (fun _ _ _ h => h) (Or.inl ⟨by kernel_rfl, ?_⟩) hHeld ?_
  rotate_left
  · intro w' hSw
    (try dsimp only at hSw)
    (try simp only [List.getElem_toArray]); (try simp only [List.getElem_cons_succ]); (try simp only [List.getElem_cons_zero])
    go_simp
    try with_reducible rfl
  (try simp only [Act.put]); (try simp only [List.getElem_toArray]); (try simp only [List.getElem_cons_succ]); (try simp only [List.getElem_cons_zero]); (try simp only [List.setIfInBounds_toArray]); (try simp only [List.set_cons_succ]); (try simp only [List.set_cons_zero])
  refine wpAnyH_take (i := 2) (v := ?_) rfl (by kernel_rfl) (by kernel_rfl) (by kernel_rfl) (fun _ _ _ h => h) (Or.inl ⟨by kernel_rfl, ?_⟩) hHeld ?_
  rotate_left
  · intro w' hSw
    (try dsimp only at hSw)
    (try simp only [List.getElem_toArray]); (try simp only [List.getElem_cons_succ]); (try simp only [List.getElem_cons_zero])
    go_simp
    try with_reducible rfl
  (try simp only [Act.put]); (try simp only [List.getElem_toArray]); (try simp only [List.getElem_cons_succ]); (try simp only [List.getElem_cons_zero]); (try simp only [List.setIfInBounds_toArray]); (try simp only [List.set_cons_succ]); (try simp only [List.set_cons_zero])
  refine wpAnyH_take (i := 3) (v := ?_) rfl (by kernel_rfl) (by kernel_rfl) (by kernel_rfl) (fun _ _ _ h => h) (Or.inl ⟨by kernel_rfl, ?_⟩) hHeld ?_
  rotate_left
  · intro w' hSw
    (try dsimp only at hSw)
    (try simp only [List.getElem_toArray]); (try simp only [List.getElem_cons_succ]); (try simp only [List.getElem_cons_zero])
    go_simp
    try with_reducible rfl
  (try simp only [Act.put]); (try simp only [List.getElem_toArray]); (try simp only [List.getElem_cons_succ]); (try simp only [List.getElem_cons_zero]); (try simp only [List.setIfInBounds_toArray]); (try simp only [List.set_cons_succ]); (try simp only [List.set_cons_zero])
  obtain ⟨aS, cS, aQ, cQ, row, -⟩ := hd
  refine wpAnyH_ready (rs := [4]) (by kernel_rfl) (by simp) ?_
  refine AllReadyH.cons rfl (fun K hK => ?_) AllReadyH.nil
  rw [if_pos (by kernel_rfl)]
  go_simp
  go_fit (waiting_c g aQ 0 cQ _ _ _ wd row)
  rintro e w' ⟨rfl, rfl⟩
  go_wp2_with fail
  refine hK.out _ _ (trivial) (fun hHeld => ?_)
  clear hK K
  (try simp only [Act.put]); (try simp only [List.getElem_toArray]); (try simp only [List.getElem_cons_succ]); (try simp only [List.getElem_cons_zero]); (try simp only [List.setIfInBounds_toArray]); (try simp only [List.set_cons_succ]); (try simp only [List.set_cons_zero])
  clear row
  refine wpAnyH_take (i := 5) (v := ?_) rfl (by kernel_rfl) (by kernel_rfl) (by kernel_rfl) (fun _ _ _ h => h) (Or.inl ⟨by kernel_rfl, ?_⟩) hHeld ?_
  rotate_left
  · intro w' hSw
    (try dsimp only at hSw)
    (try simp only [List.getElem_toArray]); (try simp only [List.getElem_cons_succ]); (try simp only [List.getElem_cons_zero])
    go_simp
    try with_reducible rfl
  (try simp only [Act.put]); (try simp only [List.getElem_toArray]); (try simp only [List.getElem_cons_succ]); (try simp only [List.getElem_cons_zero]); (try simp only [List.setIfInBounds_toArray]); (try simp only [List.set_cons_succ]); (try simp only [List.set_cons_zero])
  refine wpAnyH_take (i := 6) (v := ?_) rfl (by kernel_rfl) (by kernel_rfl) (by kernel_rfl) (fun _ _ _ h => h) (Or.inl ⟨by kernel_rfl, ?_⟩) hHeld ?_
  rotate_left
  · intro w' hSw
    (try dsimp only at hSw)
    (try simp only [List.getElem_toArray]); (try simp only [List.getElem_cons_succ]); (try simp only [List.getElem_cons_zero])
    go_simp
    try with_reducible rfl
  (try simp only [Act.put]); (try simp only [List.getElem_toArray]); (try simp only [List.getElem_cons_succ]); (try simp only [List.getElem_cons_zero]); (try simp only [List.setIfInBounds_toArray]); (try simp only [List.set_cons_succ]); (try simp only [List.set_cons_zero])
  refine wpAnyH_take (i := 7) (v := ?_) rfl (by kernel_rfl) (by kernel_rfl) (by kernel_rfl) (fun _ _ _ h => h) (Or.inl ⟨by kernel_rfl, ?_⟩) hHeld ?_
  rotate_left
  · intro w' hSw
    (try dsimp only at hSw)
    (try simp only [List.getElem_toArray]); (try simp only [List.getElem_cons_succ]); (try simp only [List.getElem_cons_zero])
    go_simp
    try with_reducible rfl
  (try simp only [Act.put]); (try simp only [List.getElem_toArray]); (try simp only [List.getElem_cons_succ]); (try simp only [List.getElem_cons_zero]); (try simp only [List.setIfInBounds_toArray]); (try simp only [List.set_cons_succ]); (try simp only [List.set_cons_zero])
  refine wpAnyH_take (i := 8) (v := ?_) rfl (by kernel_rfl) (by kernel_rfl) (by kernel_rfl) (fun _ _ _ h => h) (Or.inl ⟨by kernel_rfl, ?_⟩) hHeld ?_
  rotate_left
  · intro w' hSw
    (try dsimp only at hSw)
    (try simp only [List.getElem_toArray]); (try simp only [List.getElem_cons_succ]); (try simp only [List.getElem_cons_zero])
    go_simp
    try with_reducible rfl
  (try simp only [Act.put]); (try simp only [List.getElem_toArray]); (try simp only [List.getElem_cons_succ]); (try simp only [List.getElem_cons_zero]); (try simp only [List.setIfInBounds_toArray]); (try simp only [List.set_cons_succ]); (try simp only [List.set_cons_zero])
  refine wpAnyH_take (i := 9) (v := ?_) rfl (by kernel_rfl) (by kernel_rfl) (by kernel_rfl) (fun _ _ _ h => h) (Or.inl ⟨by kernel_rfl, ?_⟩) hHeld ?_
  rotate_left
  · intro w' hSw
    (try dsimp only at hSw)
    (try simp only [List.getElem_toArray]); (try simp only [List.getElem_cons_succ]); (try simp only [List.getElem_cons_zero])
    go_simp
    try with_reducible rfl
  (try simp only [Act.put]); (try simp only [List.getElem_toArray]); (try simp only [List.getElem_cons_succ]); (try simp only [List.getElem_cons_zero]); (try simp only [List.setIfInBounds_toArray]); (try simp only [List.set_cons_succ]); (try simp only [List.set_cons_zero])
  refine wpAnyH_take (i := 11) (v := ?_) rfl (by kernel_rfl) (by kernel_rfl) (by kernel_rfl) (fun _ _ _ h => h) (Or.inl ⟨by kernel_rfl, ?_⟩) hHeld ?_
  rotate_left
  · intro w' hSw
    (try dsimp only at hSw)
    (try simp only [List.getElem_toArray]); (try simp only [List.getElem_cons_succ]); (try simp only [List.getElem_cons_zero])
    go_simp
    try with_reducible rfl
  (try simp only [Act.put]); (try simp only [List.getElem_toArray]); (try simp only [List.getElem_cons_succ]); (try simp only [List.getElem_cons_zero]); (try simp only [List.setIfInBounds_toArray]); (try simp only [List.set_cons_succ]); (try simp only [List.set_cons_zero])
  refine wpAnyH_take (i := 12) (v := ?_) rfl (by kernel_rfl) (by kernel_rfl) (by kernel_rfl) (fun _ _ _ h => h) (Or.inl ⟨by kernel_rfl, ?_⟩) hHeld ?_
  rotate_left
  · intro w' hSw
    (try dsimp only at hSw)
    (try simp only [List.getElem_toArray]); (try simp only [List.getElem_cons_succ]); (try simp only [List.getElem_cons_zero])
    go_simp
    try with_reducible rfl
  (try simp only [Act.put]); (try simp only [List.getElem_toArray]); (try simp only [List.getElem_cons_succ]); (try simp only [List.getElem_cons_zero]); (try simp only [List.setIfInBounds_toArray]); (try simp only [List.set_cons_succ]); (try simp only [List.set_cons_zero])
  refine wpAnyH_take (i := 14) (v := ?_) rfl (by kernel_rfl) (by kernel_rfl) (by kernel_rfl) (fun _ _ _ h => h) (Or.inl ⟨by kernel_rfl, ?_⟩) hHeld ?_
  rotate_left
  · intro w' hSw
    (try dsimp only at hSw)
    (try simp only [List.getElem_toArray]); (try simp only [List.getElem_cons_succ]); (try simp only [List.getElem_cons_zero])
    go_simp
    try with_reducible rfl
  (try simp only [Act.put]); (try simp only [List.getElem_toArray]); (try simp only [List.getElem_cons_succ]); (try simp only [List.getElem_cons_zero]); (try simp only [List.setIfInBounds_toArray]); (try simp only [List.set_cons_succ]); (try simp only [List.set_cons_zero])
  refine wpAnyH_take (i := 16) (v := ?_) rfl (by kernel_rfl) (by kernel_rfl) (by kernel_rfl) (fun _ _ _ h => h) (Or.inl ⟨by kernel_rfl, ?_⟩) hHeld ?_
  rotate_left
  · intro w' hSw
    (try dsimp only at hSw)
    (try simp only [List.getElem_toArray]); (try simp only [List.getElem_cons_succ]); (try simp only [List.getElem_cons_zero])
    go_simp
    try with_reducible rfl
  (try simp only [Act.put]); (try simp only [List.getElem_toArray]); (try simp only [List.getElem_cons_succ]); (try simp only [List.getElem_cons_zero]); (try simp only [List.setIfInBounds_toArray]); (try simp only [List.set_cons_succ]); (try simp only [List.set_cons_zero])
  refine wpAnyH_ready (rs := [10]) (by kernel_rfl) (by simp) ?_
  refine AllReadyH.cons rfl (fun K hK => ?_) AllReadyH.nil
  rw [if_pos (by kernel_rfl)]
  go_simp
  go_fit (sector_c (p := (· < W.heap.size)) aB cB lB wd (LB.keep kk (fun _ _ h => h)) mB)
  rintro e w10 ⟨rfl, rowB, k10⟩
  replace kk := kk.trans k10
  replace row6 := row6.keep k10 id
  clear k10
  go_wp2_with fail
  refine hK.out _ _ (trivial) (fun hHeld => ?_)
  clear hK K
  (try simp only [Act.put]); (try simp only [List.getElem_toArray]); (try simp only [List.getElem_cons_succ]); (try simp only [List.getElem_cons_zero]); (try simp only [List.setIfInBounds_toArray]); (try simp only [List.set_cons_succ]); (try simp only [List.set_cons_zero])
  refine wpAnyH_take (i := 13) (v := ?_) rfl (by kernel_rfl) (by kernel_rfl) (by kernel_rfl) (fun _ _ _ h => h) (Or.inl ⟨by kernel_rfl, ?_⟩) hHeld ?_
  rotate_left
  · intro w' hSw
    (try dsimp only at hSw)
    (try simp only [List.getElem_toArray]); (try simp only [List.getElem_cons_succ]); (try simp only [List.getElem_cons_zero])
    go_simp
    try with_reducible rfl
  (try simp only [Act.put]); (try simp only [List.getElem_toArray]); (try simp only [List.getElem_cons_succ]); (try simp only [List.getElem_cons_zero]); (try simp only [List.setIfInBounds_toArray]); (try simp only [List.set_cons_succ]); (try simp only [List.set_cons_zero])
  refine wpAnyH_ready (rs := [15]) (by kernel_rfl) (by simp) ?_
  refine AllReadyH.cons rfl (fun K hK => ?_) AllReadyH.nil
  rw [if_pos (by kernel_rfl)]
  go_simp
  go_fit (sector_c (p := (· < W.heap.size)) aA cA lA w10 (LA.keep kk (fun _ _ h => h)) mA)
  rintro e w11 ⟨rfl, rowA, k11⟩
  replace kk := kk.trans k11
  replace row6 := row6.keep k11 id
  replace rowB := rowB.keep k11 id
  clear k11
  go_wp2_with fail
  refine hK.out _ _ (trivial) (fun hHeld => ?_)
  clear hK K
  (try simp only [Act.put]); (try simp only [List.getElem_toArray]); (try simp only [List.getElem_cons_succ]); (try simp only [List.getElem_cons_zero]); (try simp only [List.setIfInBounds_toArray]); (try simp only [List.set_cons_succ]); (try simp only [List.set_cons_zero])
  refine wpAnyH_take (i := 17) (v := ?_) rfl (by kernel_rfl) (by kernel_rfl) (by kernel_rfl) (fun _ _ _ h => h) (Or.inl ⟨by kernel_rfl, ?_⟩) hHeld ?_
  rotate_left
  · intro w' hSw
    (try dsimp only at hSw)
    (try simp only [List.getElem_toArray]); (try simp only [List.getElem_cons_succ]); (try simp only [List.getElem_cons_zero])
    go_simp
    try with_reducible rfl
  (try simp only [Act.put]); (try simp only [List.getElem_toArray]); (try simp only [List.getElem_cons_succ]); (try simp only [List.getElem_cons_zero]); (try simp only [List.setIfInBounds_toArray]); (try simp only [List.set_cons_succ]); (try simp only [List.set_cons_zero])
  obtain ⟨g9, cap, w12, hrun, lie9, k12⟩ := app_cut (w := w11) 22 n hk64 (rowB.keep (Keep.refl Nix _) id) rowA (secF_len lB) (secF_len lA)
  refine wpAnyH_ready (rs := [18]) (by kernel_rfl) (by simp) ?_
  refine AllReadyH.cons rfl (fun K hK => ?_) AllReadyH.nil
  refine step_app (by kernel_rfl) _ _ rfl rfl rfl hrun ?_
  (try simp only [List.getElem_toArray]); (try simp only [List.getElem_cons_succ]); (try simp only [List.getElem_cons_zero])
  generalize (if 64 = n then some (⟨w10.heap.size, 0, none⟩ : Addr) else some ⟨w10.heap.size, n, none⟩) = ad9
  replace kk := kk.trans k12
  replace row6 := row6.keep k12 id
  clear k12 hrun rowA rowB
  refine hK.out _ _ (trivial) (fun hHeld => ?_)
  clear hK K
  (try simp only [Act.put]); (try simp only [List.getElem_toArray]); (try simp only [List.getElem_cons_succ]); (try simp only [List.getElem_cons_zero]); (try simp only [List.setIfInBounds_toArray]); (try simp only [List.set_cons_succ]); (try simp only [List.set_cons_zero])
  refine wpAnyH_ready (rs := [19]) (by kernel_rfl) (by simp) ?_
  refine AllReadyH.cons rfl (fun K hK => ?_) AllReadyH.nil
  rw [if_pos (by kernel_rfl)]
  go_simp
  go_fit (bytes_c (some ⟨g6, 0, none⟩) (some ⟨g9, 0, none⟩) _ 64 _ cap _ _ w12 lM lM (row6.lies (fun _ => True) trivial (off := 0) (fun j u hu => by rw [Nat.zero_add]; exact hu)) lie9)
  rintro e w13 ⟨rfl, rfl⟩
  rw [show decide (mixF n (secF lA) (secF lB) = mixF n (secF lA) (secF lB)) = true from decide_eq_true rfl]
  go_wp2_with fail
  refine hK.out _ _ (trivial) (fun hHeld => ?_)
  clear hK K
  (try simp only [Act.put]); (try simp only [List.getElem_toArray]); (try simp only [List.getElem_cons_succ]); (try simp only [List.getElem_cons_zero]); (try simp only [List.setIfInBounds_toArray]); (try simp only [List.set_cons_succ]); (try simp only [List.set_cons_zero])
  refine wpAnyH_take (i := 20) (v := ?_) rfl (by kernel_rfl) (by kernel_rfl) (by kernel_rfl) (fun _ _ _ h => h) (Or.inl ⟨by kernel_rfl, ?_⟩) hHeld ?_
  rotate_left
  · intro w' hSw
    (try dsimp only at hSw)
    (try simp only [List.getElem_toArray]); (try simp only [List.getElem_cons_succ]); (try simp only [List.getElem_cons_zero])
    go_simp
    try with_reducible rfl
  (try simp only [Act.put]); (try simp only [List.getElem_toArray]); (try simp only [List.getElem_cons_succ]); (try simp only [List.getElem_cons_zero]); (try simp only [List.setIfInBounds_toArray]); (try simp only [List.set_cons_succ]); (try simp only [List.set_cons_zero])
  refine wpAnyH_take (i := 21) (v := ?_) rfl (by kernel_rfl) (by kernel_rfl) (by kernel_rfl) (fun _ _ _ h => h) (Or.inl ⟨by kernel_rfl, ?_⟩) hHeld ?_
  rotate_left
  · intro w' hSw
    (try dsimp only at hSw)
    (try simp only [List.getElem_toArray]); (try simp only [List.getElem_cons_succ]); (try simp only [List.getElem_cons_zero])
    go_simp
    try with_reducible rfl
  (try simp only [Act.put]); (try simp only [List.getElem_toArray]); (try simp only [List.getElem_cons_succ]); (try simp only [List.getElem_cons_zero]); (try simp only [List.setIfInBounds_toArray]); (try simp only [List.set_cons_succ]); (try simp only [List.set_cons_zero])
  refine wpAnyH_done (by kernel_rfl) ?_ _
  go_wp2_with fail
  go_ret
  exact ⟨rfl, kk⟩
end
end diskSafe
end Go.Proofs.Ytdnbpfohmhhmkaa
