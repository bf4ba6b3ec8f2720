/- ROUTE: slices.Insert of one owner. Printed by mac.py. -/
import Derived.Test.YtibaehlfpgipfaaGreatQZRtAll
import Derived.Lib.AppendZerosOnto
import Derived.Lib.Overlaps
import Derived.Laws.CopyRow
import Derived.Deep.RegionLaw
import Derived.Laws.Externs
namespace Go.Proofs.YtibaehlfpgipfaaGreat
open Go.RowKit
set_option linter.unusedSimpArgs false
theorem own_rowR {w : World} {base e sz n cap : Nat} {a : Option Addr} {xs : List Value} (h : w.ownsRow base e sz (.slice a n cap) n xs) (h0 : 0 < n) : ∃ b rest, a = some ⟨b, 0, none⟩ ∧ base ≤ b ∧ RowIs w b e (xs ++ rest) ∧ (xs ++ rest).length = cap * sz ∧ xs.length = n * sz ∧ n ≤ cap ∧ cap ≤ maxLen := by
 have hx := h.1
 obtain ⟨-, h1, h2⟩ := owned_bounds h
 cases a with
 | none =>
  rcases h.2 with ⟨h3, h4⟩ | ⟨g, cap', cur, h3, _⟩
  ·omega
  ·cases h3
 | some a =>
  obtain ⟨b, rest, rfl, h3, h4, h5⟩ := RowIs.of_owned h
  exact ⟨b, rest, rfl, h3, h4, h5, hx, h1, h2⟩
theorem run_copy_sz {P : Program} (w : World) (dT sT ty elem : TypeId) (sz g o dLen dCap : Nat) (a : Addr) (sLen sCap m : Nat) (cur : List Value) (t : TypeId) (cs : List Value)
  (hu : P.underlying dT = some (.slice elem)) (hs : (P.info? elem).map (·.size) = some sz) (hg : RowIs w g t cur) (hm : m = Nat.min sLen dLen) (hn : cs.length = m * sz)
  (hsrc : ∀ j v, cs[j]? = some v → w.cell? (a.add j) = some v) (hfit : o + cs.length ≤ cur.length) (h1 : ∀ v ∈ cs, v.oneCell' = true) :
  (Builtin.copy_ #[dT, sT] ty #[.slice (some ⟨g, o, none⟩) dLen dCap, .slice (some a) sLen sCap]).run P w = .ok (goInt m) (w.setRow g (cur.take o ++ cs ++ cur.drop (o + cs.length)).toArray) := by
 have hl := run_loadCells_list (P := P) w a cs hsrc
 have hst := run_storeCells_at P g o t cs 0 cur.toArray w hg (by simpa using hfit) h1
 cases hq : P.info? elem with
 | none => simp [hq] at hs
 | some i =>
  have hi : i.size = sz := by simpa [hq] using hs
  simp [Builtin.copy_, run_underlying hu, Builtin.lenOf, Builtin.firstCells, sizeOf, typeInfo, hq, hi, ← hm, ← hn, hl, hst]
theorem wpl_copy_run {P : Program} (w : World) {ops : Array Oper} {rest : List Oper} {o : Oper} {a : Act} {Q : Exit → Act → World → Prop} (hgd : o.guard = none) (d s : Operand) (t t' : TypeId)
  (ho : o.op = .call { callee := .builtin .copy, args := #[d, s], argTypes := #[t, t'] }) (v u : Value) (hd : a.eval d = v) (hs : a.eval s = u) {v' : Value} {w' : World}
  (hr : (Builtin.copy_ #[t, t'] o.type #[v, u]).run P w = .ok v' w') (h : wpList P ops Q rest (a.put o.dst v') w') : wpList P ops Q (o :: rest) a w := by
 refine wpList_plain hgd fun K hK => ?_
 unfold Oper.wp
 simp only [execOp, ho, resolve, invoke, builtin, List.map_toArray, List.map_cons, List.map_nil, hd, hs, hr, Sem.run_bind, Sem.run_pure, Result.andThen_ok]
 exact hK _ _ h
theorem step_copy_run {P : Program} {ops : Array Oper} {o : Oper} {a : Act} {w : World} {K : Act → World → Prop} {Q : Exit → Act → World → Prop} {E : Prop} (hg : o.guard = none) (d x : Operand) (dT sT : TypeId)
  (hop : o.op = Op.call { callee := Callee.builtin Builtin.copy, args := #[d, x], argTypes := #[dT, sT] }) (v u : Value) (hd : a.eval d = v) (hx : a.eval x = u) {v' : Value} {w' : World}
  (hr : (Builtin.copy_ #[dT, sT] o.type #[v, u]).run P w = .ok v' w') (hK : K (a.put o.dst v') w') : if Region.wanted o (yielded ops a.tmps) = true then Oper.wp P o a w K Q else E := by
 rw [if_pos (by simp [Region.wanted, hg])]
 unfold Oper.wp
 simp only [execOp, hop, resolve, invoke, builtin, List.map_toArray, List.map_cons, List.map_nil, hd, hx, hr, Sem.run_bind, Sem.run_pure, Result.andThen_ok]
 exact hK
def InsP (w : World) (g n : Nat) (ys : List Value) (e : Ending) (w' : World) : Prop := ∃ a' c', e = .returned (.slice a' (n + 1) c') ∧ Lies w' (fun b => b = g ∨ w.heap.size ≤ b) a' ys ∧ n + 1 ≤ c' ∧ Keep (· = g) w w'
set_option maxHeartbeats 4000000 in
set_option maxRecDepth 100000 in
theorem Ins_end (w : World) (base g n c b1 : Nat) (xs xc : List Value) (own : w.ownsRow base 97 2 (.slice (some ⟨g, 0, none⟩) n c) n xs) (rowX : RowIs w b1 97 xc) (hxc : xc.length = 2) (h1 : ∀ u ∈ xc, u.oneCell' = true) (hn : n ≤ 30) (hb : base ≤ w.heap.size) :
  Calls Tryz.prog 114 #[.slice (some ⟨g, 0, none⟩) n c, .int .i64 n, .slice (some ⟨b1, 0, none⟩) 1 1] w (InsP w g n (xs ++ xc)) := by
 obtain ⟨i, z, hi, hz, hsz, hby, hzs⟩ := T_lOwner.info
 have hnc : n ≤ c := (owned_bounds own).2.1
 have hr : ∀ ty, ∃ v' w', (Builtin.append_ #[51, 51] ty #[.slice (some ⟨g, 0, none⟩) n c, .slice (some ⟨b1, 0, none⟩) 1 1]).run Tryz.prog w = .ok v' w' ∧ InsP w g n (xs ++ xc) (.returned v') w' := fun ty => by
  obtain ⟨v', w', hrun, hown', hg, -, hf⟩ := run_append_own_at (P := Tryz.prog) w base 51 ty 97 i z 2 32 T_lOwner.under hi hz hsz hby hzs T_lOwner.pos _ n xs own ⟨b1, 0, none⟩ 1 1 xc (by omega) (fun j u hu => by
   rw [Addr.add_lit, rowX.cell, Nat.zero_add]; exact hu) h1 (by unfold maxLen; omega) (by omega) hb
  obtain ⟨a', cap', rfl⟩ := owned_shape hown'
  refine ⟨_, _, hrun, a', cap', rfl, (Lies.of_owned hown').mono (fun b hb => ?_), (owned_bounds hown').2.1, (Keep.refl _ w).grown hg (fun k hk _ => by cases hk; rfl)⟩
  rcases hf with h | h
  ·left; have := hb.2; rw [h] at this; cases this; rfl
  ·right; have := hb.2; rw [h] at this; cases this; exact Nat.le_refl _
 obtain ⟨v', w', hrun, hI⟩ := hr 51
 have HI := Lib.hid hI
 clear hr own rowX h1 hi hz hsz hby hzs hI
 by_cases hcn : c = n
 ·subst hcn
  go_enter Tryz.func114, Tryz.ntmps114
  go_wp2_with (at_builtin; refine Lib.wpList_append_run _ rfl _ _ _ _ rfl _ _ rfl rfl _ _ hrun ?_)
  go_ret
  exact HI.out
 ·go_enter Tryz.func114, Tryz.ntmps114
  go_wp2_with (at_builtin; refine Lib.wpList_append_run _ rfl _ _ _ _ rfl _ _ rfl rfl _ _ hrun ?_)
  go_ret
  exact HI.out
theorem RowIs.shape {w : World} {b : Nat} {e : TypeId} {cs : List Value} (h : RowIs w b e cs) : w.shape? b = some (e, cs.length) := by
 unfold World.shape?
 rw [h]
 simp
theorem RowIs.setRow' {w : World} {g : Nat} {e : TypeId} {cs ds : List Value} (h : RowIs w g e cs) : RowIs (w.setRow g ds.toArray) g e ds := h.setRow ds
theorem room_list {A B R xc : List Value} {a : Nat} (hA : A.length = a) (hR : 2 ≤ R.length) (hx : xc.length = 2) :
  (((A ++ B ++ R).take (a + 2) ++ B ++ (A ++ B ++ R).drop (a + 2 + B.length)).take a ++ xc ++ ((A ++ B ++ R).take (a + 2) ++ B ++ (A ++ B ++ R).drop (a + 2 + B.length)).drop (a + xc.length)) = A ++ xc ++ B ++ R.drop 2 := by
 have hl : ((A ++ B ++ R).take (a + 2)).length = a + 2 := by rw [List.length_take, List.length_append, List.length_append]; omega
 have e1 : (A ++ B ++ R).drop (a + 2 + B.length) = R.drop 2 := by
  have : a + 2 + B.length = (A ++ B).length + 2 := by rw [List.length_append]; omega
  rw [this, List.drop_append]; simp
 rw [e1, hx, List.append_assoc ((A ++ B ++ R).take (a + 2)), List.take_append_of_le_length (by omega), List.take_take, Nat.min_eq_left (by omega), List.drop_left' hl, List.append_assoc A B R, List.take_left' hA]
 simp [List.append_assoc]
theorem grow_list {A B Z xc : List Value} {a : Nat} (hA : A.length = a) (_hZ : 2 + B.length ≤ Z.length) (hx : xc.length = 2) :
  ((((A ++ Z).take a ++ xc ++ (A ++ Z).drop (a + xc.length)).take (a + 2)) ++ B ++ ((A ++ Z).take a ++ xc ++ (A ++ Z).drop (a + xc.length)).drop (a + 2 + B.length)) = A ++ xc ++ B ++ Z.drop (2 + B.length) := by
 have e1 : (A ++ Z).drop (a + xc.length) = Z.drop 2 := by rw [hx, ← hA, List.drop_append]; simp
 have e0 : (A ++ Z).take a = A := List.take_left' hA
 have hl : (A ++ xc).length = a + 2 := by rw [List.length_append]; omega
 rw [e1, e0, List.take_left' hl]
 have e2 : a + 2 + B.length = (A ++ xc).length + B.length := by omega
 rw [e2, List.drop_append, List.drop_eq_nil_of_le (by omega)]
 simp [List.drop_drop]
theorem lies_pre {w : World} {g : Nat} {e : TypeId} {ys zs : List Value} (h : RowIs w g e (ys ++ zs)) (p : Nat → Prop) (hp : p g) : Lies w p (some ⟨g, 0, none⟩) ys :=
 h.lies p hp (off := 0) (fun j u hu => by rw [Nat.zero_add, List.getElem?_append_left (List.getElem?_eq_some_iff.1 hu).1]; exact hu)
set_option maxHeartbeats 4000000 in
set_option maxRecDepth 100000 in
theorem Ins_room (w : World) (g n c k b1 : Nat) (xs rest xc : List Value) (row : RowIs w g 97 (xs ++ rest)) (hxs : xs.length = n * 2) (hrl : (xs ++ rest).length = c * 2) (ho : ∀ u ∈ xs, u.oneCell' = true) (rowX : RowIs w b1 97 xc) (hxc : xc.length = 2) (h1 : ∀ u ∈ xc, u.oneCell' = true) (hbg : b1 ≠ g) (hn : n ≤ 30) (hk : k < n) (hroom : n + 1 ≤ c) :
  Calls Tryz.prog 114 #[.slice (some ⟨g, 0, none⟩) n c, .int .i64 k, .slice (some ⟨b1, 0, none⟩) 1 1] w (InsP w g n (xs.take (k * 2) ++ xc ++ xs.drop (k * 2))) := by
 obtain ⟨i, z, hi, hz, hsz, hby, hzs⟩ := T_lOwner.info
 have hsz2 : (Tryz.prog.info? 97).map (·.size) = some 2 := by rw [hi]; simp [hsz]
 have hov : ∀ lb cb, (callFunc 171 #[.slice (some ⟨b1, 0, none⟩) 1 1, .slice (some ⟨g, (k + 1) * 2, none⟩) lb cb]).run Tryz.prog w = .ok (.value (.bool false)) w := fun lb cb => by
  rw [run_callFunc_extern Tryz.func171 (by kernel_rfl) (by kernel_rfl) (by kernel_rfl) (e := Extern.SlicesOverlaps.overlaps #[51, 51] #[4]) (by kernel_rfl),
   Lib.run_overlaps_apart w 51 4 97 T_lOwner.under 2 (fun w => by simp [sizeOf, typeInfo, hi, hsz]) ⟨b1, 0, none⟩ ⟨g, (k + 1) * 2, none⟩ 1 1 lb cb hbg 97 97 _ _ rowX.shape row.shape (by rw [hrl]; omega) (rowX.frozen 0) (rowX.frozen _)]
  rfl
 obtain ⟨A, B, hA, hB⟩ : ∃ A B, xs.take (k * 2) = A ∧ xs.drop (k * 2) = B := ⟨_, _, rfl, rfl⟩
 have hab : xs = A ++ B := by rw [← hA, ← hB, List.take_append_drop]
 have hAl : A.length = k * 2 := by rw [← hA, List.length_take]; omega
 have hBl : B.length = (n - k) * 2 := by rw [← hB, List.length_drop]; omega
 have hRl : 2 ≤ rest.length := by rw [List.length_append] at hrl; omega
 rw [hA, hB]
 subst hab
 have rowD : RowIs w.drew g 97 (A ++ B ++ rest) := row
 have hoB : ∀ u ∈ B, u.oneCell' = true := fun u hu => ho u (List.mem_append_right _ hu)
 have hl3 : (A ++ B ++ rest).length = c * 2 := hrl
 have hcp1 : ∀ ty dc sc, (Builtin.copy_ #[51, 51] ty #[.slice (some ⟨g, (k + 1) * 2, none⟩) (n + 1 - (k + 1)) dc, .slice (some ⟨g, k * 2, none⟩) (n + 1 - k) sc]).run Tryz.prog w.drew = .ok (goInt ((n - k : Nat) : Int)) (w.drew.setRow g ((A ++ B ++ rest).take (k * 2 + 2) ++ B ++ (A ++ B ++ rest).drop (k * 2 + 2 + B.length)).toArray) := fun ty dc sc => by
  have h := run_copy_sz (P := Tryz.prog) w.drew 51 51 ty 97 2 g ((k + 1) * 2) (n + 1 - (k + 1)) dc ⟨g, k * 2, none⟩ (n + 1 - k) sc (n - k) (A ++ B ++ rest) 97 B T_lOwner.under hsz2 rowD (by simp only [Nat.min_def]; split <;> omega) hBl (fun j u hu => by
   rw [Addr.add_lit, rowD.cell, List.append_assoc, List.getElem?_append_right (by omega), hAl, Nat.add_sub_cancel_left, List.getElem?_append_left (List.getElem?_eq_some_iff.1 hu).1]; exact hu) (by rw [hl3, hBl]; omega) hoB
  rw [show (k + 1) * 2 = k * 2 + 2 by omega] at h ⊢
  exact h
 obtain ⟨R2, hR2⟩ : ∃ R2, (A ++ B ++ rest).take (k * 2 + 2) ++ B ++ (A ++ B ++ rest).drop (k * 2 + 2 + B.length) = R2 := ⟨_, rfl⟩
 rw [hR2] at hcp1
 have row2 : RowIs (w.drew.setRow g R2.toArray) g 97 R2 := rowD.setRow' 
 have kk2 : Keep (· = g) w (w.drew.setRow g R2.toArray) := (Keep.refl (· = g) w).drew.setRow (fun _ => rfl) _
 have rowX2 : RowIs (w.drew.setRow g R2.toArray) b1 97 xc := rowX.keep kk2 hbg
 have hl2 : R2.length = c * 2 := by rw [← hR2]; simp only [List.length_append, List.length_take, List.length_drop] at *; omega
 obtain ⟨R3, hR3⟩ : ∃ R3, R2.take (k * 2) ++ xc ++ R2.drop (k * 2 + xc.length) = R3 := ⟨_, rfl⟩
 have hcp2 : ∀ ty dc, (Builtin.copy_ #[51, 51] ty #[.slice (some ⟨g, k * 2, none⟩) (n + 1 - k) dc, .slice (some ⟨b1, 0, none⟩) 1 1]).run Tryz.prog (w.drew.setRow g R2.toArray) = .ok (goInt ((1 : Nat) : Int)) ((w.drew.setRow g R2.toArray).setRow g R3.toArray) := fun ty dc => by
  have h := run_copy_sz (P := Tryz.prog) (w.drew.setRow g R2.toArray) 51 51 ty 97 2 g (k * 2) (n + 1 - k) dc ⟨b1, 0, none⟩ 1 1 1 R2 97 xc T_lOwner.under hsz2 row2 (by simp only [Nat.min_def]; split <;> omega) hxc (fun j u hu => by
   rw [Addr.add_lit, rowX2.cell, Nat.zero_add]; exact hu) (by rw [hl2, hxc]; omega) h1
  rw [hR3] at h
  exact h
 have row3 : RowIs ((w.drew.setRow g R2.toArray).setRow g R3.toArray) g 97 (A ++ xc ++ B ++ rest.drop 2) := by
  have e3 : A ++ xc ++ B ++ rest.drop 2 = R3 := by rw [← hR3, ← hR2, room_list hAl hRl hxc]
  rw [e3]
  exact row2.setRow'
 have kk3 : Keep (· = g) w ((w.drew.setRow g R2.toArray).setRow g R3.toArray) := kk2.setRow (fun _ => rfl) _
 have HI : Hid (InsP w g n (A ++ xc ++ B) (.returned (.slice (some ⟨g, 0, none⟩) (n + 1) c)) ((w.drew.setRow g R2.toArray).setRow g R3.toArray)) := ⟨_, c, rfl, lies_pre row3 _ (.inl rfl), hroom, kk3⟩
 have hck : ¬ c = k := by omega
 have hck1 : ¬ c = k + 1 := by omega
 have hkn : ¬ (k : Int) = (n : Int) := by omega
 have hkn2 : ((k : Int) == (n : Int)) = false := by simp; omega
 have hw1 : IntKind.i64.wrap ((n : Int) + 1) = (n : Int) + 1 := by unfold IntKind.wrap; simp [IntKind.bits, IntKind.signed]; omega
 have hw2 : IntKind.i64.wrap ((k : Int) + 1) = (k : Int) + 1 := by unfold IntKind.wrap; simp [IntKind.bits, IntKind.signed]; omega
 have hr1 : (n : Int) + 1 ≤ (c : Int) := by omega
 have hn1 : ((n : Int) + 1).toNat = n + 1 := by omega
 have hn2 : ((k : Int) + 1).toNat = k + 1 := by omega
 have hb1 : (0 : Int) ≤ (n : Int) + 1 := by omega
 have hb2 : (0 : Int) ≤ (k : Int) + 1 := by omega
 have hb3 : (k : Int) ≤ (n : Int) := by omega
 have hb4 : (k : Int) + 1 ≤ (n : Int) + 1 := by omega
 have hb5 : (k : Int) ≤ (n : Int) + 1 := by omega
 have hkn3 : k ≤ n := by omega
 have hkn4 : ¬ k = n := by omega
 clear hi hz hsz hby hzs row rowD rowX rowX2 row2 row3 kk2 kk3 ho h1 hoB hR3 hR2 hA hB hsz2
 go_enter Tryz.func114, Tryz.ntmps114
 go_upto_region 14 with fail
 go_wp2_with (simp only [hov])
 refine wp_region_held_drew (S := (fun _ => True)) (by kernel_rfl) (trivial) (fun hHeld => ?_)
 refine tk 0 (v := ?_) rfl ?_ hHeld ?_
 rotate_left
 ·intro w' hSw
  (try dsimp only at hSw)
  try simp only [zz1, zz2, zz3]
  go_simp
  try with_reducible rfl
 try simp only [Act.put, zz1, zz2, zz3, zz4, zz5, zz6]
 refine tk 1 (v := ?_) rfl ?_ hHeld ?_
 rotate_left
 ·intro w' hSw
  (try dsimp only at hSw)
  try simp only [zz1, zz2, zz3]
  go_simp
  try with_reducible rfl
 try simp only [Act.put, zz1, zz2, zz3, zz4, zz5, zz6]
 refine tk 2 (v := ?_) rfl ?_ hHeld ?_
 rotate_left
 ·intro w' hSw
  (try dsimp only at hSw)
  try simp only [zz1, zz2, zz3]
  go_simp
  try with_reducible rfl
 try simp only [Act.put, zz1, zz2, zz3, zz4, zz5, zz6]
 refine tk 3 (v := ?_) rfl ?_ hHeld ?_
 rotate_left
 ·intro w' hSw
  (try dsimp only at hSw)
  try simp only [zz1, zz2, zz3]
  go_simp
  try with_reducible rfl
 try simp only [Act.put, zz1, zz2, zz3, zz4, zz5, zz6]
 refine tk 4 (v := ?_) rfl ?_ hHeld ?_
 rotate_left
 ·intro w' hSw
  (try dsimp only at hSw)
  try simp only [zz1, zz2, zz3]
  go_simp
  try with_reducible rfl
 try simp only [Act.put, zz1, zz2, zz3, zz4, zz5, zz6]
 refine tk 5 (v := ?_) rfl ?_ hHeld ?_
 rotate_left
 ·intro w' hSw
  (try dsimp only at hSw)
  try simp only [zz1, zz2, zz3]
  go_simp
  try with_reducible rfl
 try simp only [Act.put, zz1, zz2, zz3, zz4, zz5, zz6]
 refine tk 6 (v := ?_) rfl ?_ hHeld ?_
 rotate_left
 ·intro w' hSw
  (try dsimp only at hSw)
  try simp only [zz1, zz2, zz3]
  go_simp
  try with_reducible rfl
 try simp only [Act.put, zz1, zz2, zz3, zz4, zz5, zz6]
 refine tk 7 (v := ?_) rfl ?_ hHeld ?_
 rotate_left
 ·intro w' hSw
  (try dsimp only at hSw)
  try simp only [zz1, zz2, zz3]
  go_simp
  try with_reducible rfl
 try simp only [Act.put, zz1, zz2, zz3, zz4, zz5, zz6]
 refine wpAnyH_ready (rs := [8]) (by kernel_rfl) (by simp) ?_
 refine AllReadyH.cons rfl (fun K hK => ?_) AllReadyH.nil
 refine step_copy_run rfl _ _ 51 51 rfl _ _ (by simp [Act.eval]; rfl) (by simp [Act.eval]; rfl) (hcp1 _ _ _) ?_
 refine hK.out _ _ (trivial) (fun hHeld => ?_)
 clear hK K
 try simp only [Act.put, zz1, zz2, zz3, zz4, zz5, zz6]
 refine wpAnyH_done (by kernel_rfl) ?_ _
 clear hHeld
 go_wp2_with (at_builtin; refine wpl_copy_run _ rfl _ _ 51 51 rfl _ _ rfl rfl (hcp2 _ _) ?_)
 go_ret
 exact HI.out
set_option maxHeartbeats 4000000 in
set_option maxRecDepth 100000 in
theorem Ins_grow (w : World) (g n k b1 : Nat) (xs rest xc : List Value) (row : RowIs w g 97 (xs ++ rest)) (hxs : xs.length = n * 2) (ho : ∀ u ∈ xs, u.oneCell' = true) (rowX : RowIs w b1 97 xc) (hxc : xc.length = 2) (h1 : ∀ u ∈ xc, u.oneCell' = true) (hn : n ≤ 30) (hk : k < n) :
  Calls Tryz.prog 114 #[.slice (some ⟨g, 0, none⟩) n n, .int .i64 k, .slice (some ⟨b1, 0, none⟩) 1 1] w (InsP w g n (xs.take (k * 2) ++ xc ++ xs.drop (k * 2))) := by
 obtain ⟨i, z, hi, hz, hsz, hby, hzs⟩ := T_lOwner.info
 have hsz2 : (Tryz.prog.info? 97).map (·.size) = some 2 := by rw [hi]; simp [hsz]
 obtain ⟨A, B, hA, hB⟩ : ∃ A B, xs.take (k * 2) = A ∧ xs.drop (k * 2) = B := ⟨_, _, rfl, rfl⟩
 have hab : xs = A ++ B := by rw [← hA, ← hB, List.take_append_drop]
 have hAl : A.length = k * 2 := by rw [← hA, List.length_take]; omega
 have hBl : B.length = (n - k) * 2 := by rw [← hB, List.length_drop]; omega
 rw [hA, hB]
 subst hab
 have hoB : ∀ u ∈ B, u.oneCell' = true := fun u hu => ho u (List.mem_append_right _ hu)
 have hold : (Builtin.firstCells i.size k (.slice (some ⟨g, 0, none⟩) k n)).run Tryz.prog w.drew = .ok A.toArray w.drew :=
  run_firstCells_some (P := Tryz.prog) w.drew i.size k ⟨g, 0, none⟩ k n A (by rw [hsz]; exact hAl) (fun j u hu => by
   rw [Addr.add_lit, Nat.zero_add, World.cell?_drew, row.cell, List.append_assoc, List.getElem?_append_left (List.getElem?_eq_some_iff.1 hu).1]; exact hu)
 have hkk : (n : Int) + 1 - (k : Int) = ((n + 1 - k : Nat) : Int) := by omega
 obtain ⟨G, Z, hG, hG2, hZ, hrz⟩ : ∃ G Z, n + 1 ≤ G ∧ G ≤ 9223372036854775807 ∧ 2 + B.length ≤ Z.length ∧ ∀ ty, (Builtin.append_ #[51, 3] ty #[.slice (some ⟨g, 0, none⟩) k n, .int .i64 ((n : Int) + 1 - (k : Int))]).run Tryz.prog w = .ok (.slice (some ⟨w.heap.size, 0, none⟩) (n + 1) G) (w.drew.alloc (.cells (A ++ Z).toArray 97)) := by
  refine ⟨grownCap w (n + 1) n 97, (Builtin.zeroCells z.cells (n + 1 - k) ++ Builtin.zeroCells z.cells (grownCap w (n + 1) n 97 - (n + 1))).toList, grownCap_ge _ _ _ _, ?_, ?_, fun ty => ?_⟩
  ·have := grownCap_le_maxLen w (n + 1) n 97 (by unfold maxLen; omega)
   unfold maxLen at this
   omega
  ·simp [Builtin.zeroCells, hzs, hBl]; omega
  ·have hik : k + (n + 1 - k) = n + 1 := by omega
   have h := Lib.run_append_grow_zeros w 51 3 ty 97 i z .i64 .i64 T_lOwner.under Tryz.underlying3 hi hz (some ⟨g, 0, none⟩) k n A hold (n + 1 - k) (by omega) (by rw [hsz]; omega) (by omega) (by omega) (by rw [hby]; omega) (by rw [hby, hik]; exact growslice_fits (by omega) (by omega))
   rw [hik] at h
   rw [hkk, h]
   congr 3
   simp
 obtain ⟨gN, hgN⟩ : ∃ gN, w.heap.size = gN := ⟨_, rfl⟩
 have rowN : RowIs (w.drew.alloc (.cells (A ++ Z).toArray 97)) w.drew.heap.size 97 (A ++ Z) := RowIs.alloc w.drew _ _
 have kN : Keep Nix w (w.drew.alloc (.cells (A ++ Z).toArray 97)) := ((Keep.refl Nix w).drew).alloc _
 have hdz : w.drew.heap.size = w.heap.size := rfl
 rw [hdz, hgN] at rowN
 rw [hgN] at hrz
 have hgg : g < gN := by rw [← hgN]; exact row.lt
 have hbg1 : b1 < gN := by rw [← hgN]; exact rowX.lt
 replace row := row.keep kN id
 replace rowX := rowX.keep kN id
 obtain ⟨W1, hW1⟩ : ∃ W1, w.drew.alloc (.cells (A ++ Z).toArray 97) = W1 := ⟨_, rfl⟩
 rw [hW1] at hrz row rowX rowN kN
 have hcpA : ∀ ty dc, (Builtin.copy_ #[51, 51] ty #[.slice (some ⟨gN, k * 2, none⟩) (n + 1 - k) dc, .slice (some ⟨b1, 0, none⟩) 1 1]).run Tryz.prog W1 = .ok (goInt ((1 : Nat) : Int)) (W1.setRow gN ((A ++ Z).take (k * 2) ++ xc ++ (A ++ Z).drop (k * 2 + xc.length)).toArray) := fun ty dc =>
  run_copy_sz (P := Tryz.prog) W1 51 51 ty 97 2 gN (k * 2) (n + 1 - k) dc ⟨b1, 0, none⟩ 1 1 1 (A ++ Z) 97 xc T_lOwner.under hsz2 rowN (by simp only [Nat.min_def]; split <;> omega) hxc (fun j u hu => by
   rw [Addr.add_lit, rowX.cell, Nat.zero_add]; exact hu) (by rw [List.length_append]; omega) h1
 obtain ⟨R1, hR1⟩ : ∃ R1, (A ++ Z).take (k * 2) ++ xc ++ (A ++ Z).drop (k * 2 + xc.length) = R1 := ⟨_, rfl⟩
 rw [hR1] at hcpA
 have hl1 : R1.length = (A ++ Z).length := by rw [← hR1]; simp only [List.length_append, List.length_take, List.length_drop] at *; omega
 have rowN1 : RowIs (W1.setRow gN R1.toArray) gN 97 R1 := rowN.setRow'
 have kN1 : Keep (· = gN) W1 (W1.setRow gN R1.toArray) := (Keep.refl (· = gN) W1).setRow (fun _ => rfl) _
 have row1 : RowIs (W1.setRow gN R1.toArray) g 97 (A ++ B ++ rest) := row.keep kN1 (by omega)
 obtain ⟨W2, hW2⟩ : ∃ W2, W1.setRow gN R1.toArray = W2 := ⟨_, rfl⟩
 rw [hW2] at hcpA rowN1 row1 kN1
 have rowD : RowIs W2.drew gN 97 R1 := rowN1
 have rowE : RowIs W2.drew g 97 (A ++ B ++ rest) := row1
 have hcpB : ∀ ty dc sc, (Builtin.copy_ #[51, 51] ty #[.slice (some ⟨gN, (k + 1) * 2, none⟩) (n + 1 - (k + 1)) dc, .slice (some ⟨g, k * 2, none⟩) (n - k) sc]).run Tryz.prog W2.drew = .ok (goInt ((n - k : Nat) : Int)) (W2.drew.setRow gN (R1.take (k * 2 + 2) ++ B ++ R1.drop (k * 2 + 2 + B.length)).toArray) := fun ty dc sc => by
  have h := run_copy_sz (P := Tryz.prog) W2.drew 51 51 ty 97 2 gN ((k + 1) * 2) (n + 1 - (k + 1)) dc ⟨g, k * 2, none⟩ (n - k) sc (n - k) R1 97 B T_lOwner.under hsz2 rowD (by simp only [Nat.min_def]; split <;> omega) hBl (fun j u hu => by
   rw [Addr.add_lit, rowE.cell, List.append_assoc, List.getElem?_append_right (by omega), hAl, Nat.add_sub_cancel_left, List.getElem?_append_left (List.getElem?_eq_some_iff.1 hu).1]; exact hu) (by rw [hl1, List.length_append]; omega) hoB
  rw [show (k + 1) * 2 = k * 2 + 2 by omega] at h ⊢
  exact h
 obtain ⟨R2, hR2⟩ : ∃ R2, R1.take (k * 2 + 2) ++ B ++ R1.drop (k * 2 + 2 + B.length) = R2 := ⟨_, rfl⟩
 rw [hR2] at hcpB
 have kk3 : Keep (· = g) w (W2.drew.setRow gN R2.toArray) := ((((kN.then kN1 (fun i hi e => by omega)).drew).setRow (fun h => by omega) _) : Keep Nix w _).nix
 have row3 : RowIs (W2.drew.setRow gN R2.toArray) gN 97 (A ++ xc ++ B ++ Z.drop (2 + B.length)) := by
  have e3 : A ++ xc ++ B ++ Z.drop (2 + B.length) = R2 := by rw [← hR2, ← hR1, grow_list hAl hZ hxc]
  rw [e3]
  exact rowD.setRow'
 have HI : Hid (InsP w g n (A ++ xc ++ B) (.returned (.slice (some ⟨gN, 0, none⟩) (n + 1) G)) (W2.drew.setRow gN R2.toArray)) := ⟨_, G, rfl, lies_pre row3 _ (.inr (by omega)), hG, kk3⟩
 have hck : ¬ n = k := by omega
 have hGk : ¬ G = k := by omega
 have hGk1 : ¬ G = k + 1 := by omega
 have hkn : ¬ (k : Int) = (n : Int) := by omega
 have hkn2 : ((k : Int) == (n : Int)) = false := by simp; omega
 have hw1 : IntKind.i64.wrap ((n : Int) + 1) = (n : Int) + 1 := by unfold IntKind.wrap; simp [IntKind.bits, IntKind.signed]; omega
 have hw2 : IntKind.i64.wrap ((k : Int) + 1) = (k : Int) + 1 := by unfold IntKind.wrap; simp [IntKind.bits, IntKind.signed]; omega
 have hw3 : IntKind.i64.wrap ((n : Int) + 1 - (k : Int)) = (n : Int) + 1 - (k : Int) := by unfold IntKind.wrap; simp [IntKind.bits, IntKind.signed]; omega
 have hr1 : (n : Int) < (n : Int) + 1 := by omega
 have hn1 : ((n : Int) + 1).toNat = n + 1 := by omega
 have hn2 : ((k : Int) + 1).toNat = k + 1 := by omega
 have hb1 : (0 : Int) ≤ (n : Int) + 1 := by omega
 have hb2 : (0 : Int) ≤ (k : Int) + 1 := by omega
 have hb3 : (k : Int) ≤ (n : Int) := by omega
 have hb4 : (k : Int) + 1 ≤ (n : Int) + 1 := by omega
 have hb5 : (k : Int) ≤ (n : Int) + 1 := by omega
 have hkn3 : k ≤ n := by omega
 have hGB : (G : Int) ≤ 9223372036854775807 := by omega
 clear hi hz hsz hby hzs row rowD rowE rowX rowN rowN1 row1 row3 kN kN1 kk3 ho h1 hoB hR1 hR2 hA hB hsz2 hold hkk hdz hW1 hW2 hgN hl1
 go_enter Tryz.func114, Tryz.ntmps114
 go_upto_region 9 with fail
 go_wp2_with (at_builtin; refine Lib.wpList_append_run _ rfl _ _ _ _ rfl _ _ rfl rfl _ _ (hrz _) ?_)
 go_wp2_with (at_builtin; refine wpl_copy_run _ rfl _ _ 51 51 rfl _ _ rfl rfl (hcpA _ _) ?_)
 refine wp_region_held_drew (S := (fun _ => True)) (by kernel_rfl) (trivial) (fun hHeld => ?_)
 refine tk 0 (v := ?_) rfl ?_ hHeld ?_
 rotate_left
 ·intro w' hSw
  (try dsimp only at hSw)
  try simp only [zz1, zz2, zz3]
  go_simp
  try with_reducible rfl
 try simp only [Act.put, zz1, zz2, zz3, zz4, zz5, zz6]
 refine tk 1 (v := ?_) rfl ?_ hHeld ?_
 rotate_left
 ·intro w' hSw
  (try dsimp only at hSw)
  try simp only [zz1, zz2, zz3]
  go_simp
  try with_reducible rfl
 try simp only [Act.put, zz1, zz2, zz3, zz4, zz5, zz6]
 refine tk 2 (v := ?_) rfl ?_ hHeld ?_
 rotate_left
 ·intro w' hSw
  (try dsimp only at hSw)
  try simp only [zz1, zz2, zz3]
  go_simp
  try with_reducible rfl
 try simp only [Act.put, zz1, zz2, zz3, zz4, zz5, zz6]
 refine tk 3 (v := ?_) rfl ?_ hHeld ?_
 rotate_left
 ·intro w' hSw
  (try dsimp only at hSw)
  try simp only [zz1, zz2, zz3]
  go_simp
  try with_reducible rfl
 try simp only [Act.put, zz1, zz2, zz3, zz4, zz5, zz6]
 refine tk 4 (v := ?_) rfl ?_ hHeld ?_
 rotate_left
 ·intro w' hSw
  (try dsimp only at hSw)
  try simp only [zz1, zz2, zz3]
  go_simp
  try with_reducible rfl
 try simp only [Act.put, zz1, zz2, zz3, zz4, zz5, zz6]
 refine tk 5 (v := ?_) rfl ?_ hHeld ?_
 rotate_left
 ·intro w' hSw
  (try dsimp only at hSw)
  try simp only [zz1, zz2, zz3]
  go_simp
  try with_reducible rfl
 try simp only [Act.put, zz1, zz2, zz3, zz4, zz5, zz6]
 refine tk 6 (v := ?_) rfl ?_ hHeld ?_
 rotate_left
 ·intro w' hSw
  (try dsimp only at hSw)
  try simp only [zz1, zz2, zz3]
  go_simp
  try with_reducible rfl
 try simp only [Act.put, zz1, zz2, zz3, zz4, zz5, zz6]
 refine tk 7 (v := ?_) rfl ?_ hHeld ?_
 rotate_left
 ·intro w' hSw
  (try dsimp only at hSw)
  try simp only [zz1, zz2, zz3]
  go_simp
  try with_reducible rfl
 try simp only [Act.put, zz1, zz2, zz3, zz4, zz5, zz6]
 refine wpAnyH_ready (rs := [8]) (by kernel_rfl) (by simp) ?_
 refine AllReadyH.cons rfl (fun K hK => ?_) AllReadyH.nil
 refine step_copy_run rfl _ _ 51 51 rfl _ _ (by simp [Act.eval]; rfl) (by simp [Act.eval]; rfl) (hcpB _ _ _) ?_
 refine hK.out _ _ (trivial) (fun hHeld => ?_)
 clear hK K
 try simp only [Act.put, zz1, zz2, zz3, zz4, zz5, zz6]
 refine wpAnyH_done (by kernel_rfl) ?_ _
 clear hHeld
 go_wp2_with fail
 go_ret
 exact HI.out
theorem Insert_c (w : World) (base n c k b1 : Nat) (a : Option Addr) (xs xc : List Value) (own : w.ownsRow base 97 2 (.slice a n c) n xs) (h0 : 0 < n) (ho : ∀ u ∈ xs, u.oneCell' = true) (rowX : RowIs w b1 97 xc) (hxc : xc.length = 2) (h1 : ∀ u ∈ xc, u.oneCell' = true) (hbg : ¬ OwnB (.slice a n c) b1) (hn : n ≤ 30) (hk : k ≤ n) (hb : base ≤ w.heap.size) :
  Calls Tryz.prog 114 #[.slice a n c, .int .i64 k, .slice (some ⟨b1, 0, none⟩) 1 1] w fun e w' => ∃ a' c', e = .returned (.slice a' (n + 1) c') ∧ Lies w' (fun b => OwnB (.slice a n c) b ∨ w.heap.size ≤ b) a' (xs.take (k * 2) ++ xc ++ xs.drop (k * 2)) ∧ n + 1 ≤ c' ∧ Keep (OwnB (.slice a n c)) w w' := by
 obtain ⟨g, rest, rfl, hg, row, hrl, hxs, hnc, hcm⟩ := own_rowR own h0
 have hB : ∀ b, OwnB (.slice (some ⟨g, 0, none⟩) n c) b ↔ b = g := fun b => ⟨fun h => by cases h; rfl, fun h => by rw [h]; rfl⟩
 have turn : ∀ (ys : List Value) (e : Ending) (w' : World), InsP w g n ys e w' → ∃ a' c', e = .returned (.slice a' (n + 1) c') ∧ Lies w' (fun b => OwnB (.slice (some ⟨g, 0, none⟩) n c) b ∨ w.heap.size ≤ b) a' ys ∧ n + 1 ≤ c' ∧ Keep (OwnB (.slice (some ⟨g, 0, none⟩) n c)) w w' := by
  rintro ys e w' ⟨a', c', h2, h3, h4, h5⟩
  exact ⟨a', c', h2, h3.mono (fun b h => h.imp (fun h => (hB b).2 h) id), h4, h5.mono (fun b h => (hB b).2 h)⟩
 by_cases hkn : k = n
 ·subst hkn
  have e : xs.take (k * 2) ++ xc ++ xs.drop (k * 2) = xs ++ xc := by rw [← hxs, List.take_length, List.drop_length, List.append_nil]
  rw [e]
  exact (Ins_end w base g k c b1 xs xc own rowX hxc h1 hn hb).mono (turn _)
 ·by_cases hr : n + 1 ≤ c
  ·exact (Ins_room w g n c k b1 xs rest xc row hxs hrl ho rowX hxc h1 (fun e => hbg ((hB b1).2 e)) hn (by omega) hr).mono (turn _)
  ·obtain rfl : n = c := by omega
   exact (Ins_grow w g n k b1 xs rest xc row hxs ho rowX hxc h1 hn (by omega)).mono (turn _)
end Go.Proofs.YtibaehlfpgipfaaGreat
