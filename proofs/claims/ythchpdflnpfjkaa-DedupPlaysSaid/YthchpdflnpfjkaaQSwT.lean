/- ROWS: copies of elements of any size, rows known whole. Printed by genIns.py and mac.py. -/
import Derived.Test.YthchpdflnpfjkaaQLst
import Derived.Lib.AppendZerosOnto
import Derived.Lib.Overlaps
import Derived.Laws.CopyRow
import Derived.Deep.RegionLaw
import Derived.Laws.Externs
import Derived.Maps.AppendAt
import Derived.Deep.RegionHeld3
import Derived.Deep.DeepCutAuto
import Derived.Deep.CutBlock
namespace Go.Proofs.Ythchpdflnpfjkaa
open Go.RowKit

theorem own_row {w : World} {base e sz n cap : Nat} {a : Option Addr} {xs : List Value} (h : w.ownsRow base e sz (.slice a n cap) n xs) (h0 : 0 < n) : ∃ b rest, a = some ⟨b, 0, none⟩ ∧ base ≤ b ∧ RowIs w b e (xs ++ rest) ∧ (xs ++ rest).length = cap * sz ∧ xs.length = n * sz ∧ n ≤ cap ∧ cap ≤ maxLen := by
  have hx := h.1
  obtain ⟨-, h1, h2⟩ := owned_bounds h
  cases a with
  | none =>
    rcases h.2 with ⟨h3, h4⟩ | ⟨g, cap', cur, h3, _⟩
    · omega
    · cases h3
  | some a =>
    obtain ⟨b, rest, rfl, h3, h4, h5⟩ := RowIs.of_owned h
    exact ⟨b, rest, rfl, h3, h4, h5, hx, h1, h2⟩
/-- 'copy(d, s)' over elements of any size, into a row that is known whole. -/
theorem run_copy_sz {P : Program} (w : World) (dT sT ty elem : TypeId) (sz g o dLen dCap : Nat) (a : Addr) (sLen sCap m : Nat) (cur : List Value) (t : TypeId) (cs : List Value)
    (hu : P.underlying dT = some (.slice elem)) (hs : (P.info? elem).map (·.size) = some sz) (hg : RowIs w g t cur) (hm : m = Nat.min sLen dLen) (hn : cs.length = m * sz)
    (hsrc : ∀ j v, cs[j]? = some v → w.cell? (a.add j) = some v) (hfit : o + cs.length ≤ cur.length) (h1 : ∀ v ∈ cs, v.oneCell' = true) :
    (Builtin.copy_ #[dT, sT] ty #[.slice (some ⟨g, o, none⟩) dLen dCap, .slice (some a) sLen sCap]).run P w = .ok (goInt m) (w.setRow g (cur.take o ++ cs ++ cur.drop (o + cs.length)).toArray) := by
  have hl := run_loadCells_list (P := P) w a cs hsrc
  have hst := run_storeCells_at P g o t cs 0 cur.toArray w hg (by simpa using hfit) h1
  cases hq : P.info? elem with
  | none => simp [hq] at hs
  | some i =>
    have hi : i.size = sz := by simpa [hq] using hs
    simp [Builtin.copy_, run_underlying hu, Builtin.lenOf, Builtin.firstCells, sizeOf, typeInfo, hq, hi, ← hm, ← hn, hl, hst]
theorem wpl_copy_run {P : Program} (w : World) {ops : Array Oper} {rest : List Oper} {o : Oper} {a : Act} {Q : Exit → Act → World → Prop} (hgd : o.guard = none) (d s : Operand) (t t' : TypeId)
    (ho : o.op = .call { callee := .builtin .copy, args := #[d, s], argTypes := #[t, t'] }) (v u : Value) (hd : a.eval d = v) (hs : a.eval s = u) {v' : Value} {w' : World}
    (hr : (Builtin.copy_ #[t, t'] o.type #[v, u]).run P w = .ok v' w') (h : wpList P ops Q rest (a.put o.dst v') w') : wpList P ops Q (o :: rest) a w := by
  refine wpList_plain hgd fun K hK => ?_
  unfold Oper.wp
  simp only [execOp, ho, resolve, invoke, builtin, List.map_toArray, List.map_cons, List.map_nil, hd, hs, hr, Sem.run_bind, Sem.run_pure, Result.andThen_ok]
  exact hK _ _ h
theorem step_copy_run {P : Program} {ops : Array Oper} {o : Oper} {a : Act} {w : World} {K : Act → World → Prop} {Q : Exit → Act → World → Prop} {E : Prop} (hg : o.guard = none) (d x : Operand) (dT sT : TypeId)
    (hop : o.op = Op.call { callee := Callee.builtin Builtin.copy, args := #[d, x], argTypes := #[dT, sT] }) (v u : Value) (hd : a.eval d = v) (hx : a.eval x = u) {v' : Value} {w' : World}
    (hr : (Builtin.copy_ #[dT, sT] o.type #[v, u]).run P w = .ok v' w') (hK : K (a.put o.dst v') w') : if Region.wanted o (yielded ops a.tmps) = true then Oper.wp P o a w K Q else E := by
  rw [if_pos (by simp [Region.wanted, hg])]
  unfold Oper.wp
  simp only [execOp, hop, resolve, invoke, builtin, List.map_toArray, List.map_cons, List.map_nil, hd, hx, hr, Sem.run_bind, Sem.run_pure, Result.andThen_ok]
  exact hK
theorem RowIs.shape {w : World} {b : Nat} {e : TypeId} {cs : List Value} (h : RowIs w b e cs) : w.shape? b = some (e, cs.length) := by
  unfold World.shape?
  rw [h]
  simp
theorem RowIs.setRow' {w : World} {g : Nat} {e : TypeId} {cs ds : List Value} (h : RowIs w g e cs) : RowIs (w.setRow g ds.toArray) g e ds := h.setRow ds
theorem room_list {A B R xc : List Value} {a s : Nat} (hA : A.length = a) (hR : s ≤ R.length) (hx : xc.length = s) :
    (((A ++ B ++ R).take (a + s) ++ B ++ (A ++ B ++ R).drop (a + s + B.length)).take a ++ xc ++ ((A ++ B ++ R).take (a + s) ++ B ++ (A ++ B ++ R).drop (a + s + B.length)).drop (a + xc.length)) = A ++ xc ++ B ++ R.drop s := by
  have hl : ((A ++ B ++ R).take (a + s)).length = a + s := by rw [List.length_take, List.length_append, List.length_append]; omega
  have e1 : (A ++ B ++ R).drop (a + s + B.length) = R.drop s := by
    have : a + s + B.length = (A ++ B).length + s := by rw [List.length_append]; omega
    rw [this, List.drop_append]; simp
  rw [e1, hx, List.append_assoc ((A ++ B ++ R).take (a + s)), List.take_append_of_le_length (by omega), List.take_take, Nat.min_eq_left (by omega), List.drop_left' hl, List.append_assoc A B R, List.take_left' hA]
  simp [List.append_assoc]
theorem grow_list {A B Z xc : List Value} {a s : Nat} (hA : A.length = a) (_hZ : s + B.length ≤ Z.length) (hx : xc.length = s) :
    ((((A ++ Z).take a ++ xc ++ (A ++ Z).drop (a + xc.length)).take (a + s)) ++ B ++ ((A ++ Z).take a ++ xc ++ (A ++ Z).drop (a + xc.length)).drop (a + s + B.length)) = A ++ xc ++ B ++ Z.drop (s + B.length) := by
  have e1 : (A ++ Z).drop (a + xc.length) = Z.drop s := by rw [hx, ← hA, List.drop_append]; simp
  have e0 : (A ++ Z).take a = A := List.take_left' hA
  have hl : (A ++ xc).length = a + s := by rw [List.length_append]; omega
  rw [e1, e0, List.take_left' hl]
  have e2 : a + s + B.length = (A ++ xc).length + B.length := by omega
  rw [e2, List.drop_append, List.drop_eq_nil_of_le (by omega)]
  simp [List.drop_drop]
theorem row_own {w : World} {base e sz n cap b : Nat} {xs rest : List Value} (h : RowIs w b e (xs ++ rest)) (hb : base ≤ b) (hl : (xs ++ rest).length = cap * sz) (hx : xs.length = n * sz) (hn : n ≤ cap) (hc : cap ≤ maxLen) : w.ownsRow base e sz (.slice (some ⟨b, 0, none⟩) n cap) n xs :=
  ⟨hx, .inr ⟨b, cap, _, rfl, hb, h, hn, hc, by rw [List.size_toArray]; exact hl, by rw [← hx]; simp⟩⟩
/-- One element was laid in. -/
def InsR (e sz : Nat) (w : World) (base : Nat) (v : Value) (n : Nat) (ys : List Value) (en : Ending) (w' : World) : Prop := ∃ v', en = .returned v' ∧ w'.ownsRow base e sz v' (n + 1) ys ∧ (∀ b, OwnB v' b → OwnB v b ∨ w.heap.size ≤ b) ∧ Keep (OwnB v) w w'
end Go.Proofs.Ythchpdflnpfjkaa
namespace Go.Proofs.Ythchpdflnpfjkaa
open Go.RowKit

theorem nan_c (x : Int) (w : World) : Calls Try.prog 88 #[.int .u64 x] w fun e w' => e = .returned (.bool false) ∧ w = w' := by
  go_enter Try.func88, Try.ntmps88
  go_wp2_with fail
  go_ret
  exact ⟨by simp, rfl⟩
theorem less_c (x y : Int) (w : World) : Calls Try.prog 76 #[.int .u64 x, .int .u64 y] w fun e w' => e = .returned (.bool (decide (x < y))) ∧ w = w' := by
  go_enter Try.func76, Try.ntmps76
  go_wp2_with fail
  go_fit (nan_c x w)
  rintro e w1 ⟨rfl, rfl⟩
  go_wp2_with fail
  go_ret
  exact ⟨by simp, rfl⟩
def iv (x : Int) : Value := .int .u64 x
def gd (xs : List Int) (p : Nat) : Int := xs.getD p 0
def UpTo (k : Nat) (xs : List Int) : Prop := ∀ p q, p < q → q < k → gd xs p ≤ gd xs q
def Exc (k j : Nat) (xs : List Int) : Prop := ∀ p q, p < q → q ≤ k → q ≠ j → gd xs p ≤ gd xs q
def swp (xs : List Int) (m : Nat) : List Int := (xs.set (m + 1) (gd xs m)).set m (gd xs (m + 1))
theorem gd_at {xs : List Int} {p : Nat} (h : p < xs.length) : gd xs p = xs[p] := by unfold gd; rw [List.getD_eq_getElem?_getD, List.getElem?_eq_getElem h]; rfl
theorem gd_cell {xs : List Int} {rest : List Value} {p : Nat} (h : p < xs.length) : (xs.map iv ++ rest)[p]? = some (.int .u64 (gd xs p)) := by
  rw [List.getElem?_append_left (by simpa using h), List.getElem?_map, List.getElem?_eq_getElem h, gd_at h]; rfl
theorem swp_len (xs : List Int) (m : Nat) : (swp xs m).length = xs.length := by simp [swp]
theorem gd_swp {xs : List Int} {m : Nat} (h : m + 1 < xs.length) (q : Nat) : gd (swp xs m) q = if q = m then gd xs (m + 1) else if q = m + 1 then gd xs m else gd xs q := by
  unfold swp
  show ((xs.set (m + 1) (gd xs m)).set m (gd xs (m + 1))).getD q 0 = _
  rw [List.getD_eq_getElem?_getD, List.getElem?_set, List.getElem?_set]
  by_cases e : q = m
  · subst e
    simp [show q < xs.length by omega]
  · rw [if_neg (fun h => e h.symm), if_neg e]
    by_cases e2 : q = m + 1
    · subst e2
      simp [h]
    · rw [if_neg (fun h => e2 h.symm), if_neg e2]
      rfl
theorem swp_perm : ∀ (xs : List Int) (m : Nat), m + 1 < xs.length → (swp xs m).Perm xs
  | a :: b :: l, 0, _ => by simpa [swp, gd] using List.Perm.swap a b l
  | a :: l, m + 1, h => by
    have ih := swp_perm l m (by simpa using h)
    have e : swp (a :: l) (m + 1) = a :: swp l m := by simp [swp, gd]
    rw [e]
    exact ih.cons a
  | [], _, h => by simp at h
  | [_], 0, h => by simp at h
theorem exc_start {k : Nat} {xs : List Int} (h : UpTo k xs) : Exc k k xs := fun p q h1 h2 h3 => h p q h1 (by omega)
theorem exc_step {k m : Nat} {xs : List Int} (h : Exc k (m + 1) xs) (hl : gd xs (m + 1) < gd xs m) (hlen : m + 1 < xs.length) (hk : m + 1 ≤ k) : Exc k m (swp xs m) := by
  intro p q h1 h2 h3
  rw [gd_swp hlen, gd_swp hlen, if_neg h3]
  by_cases e : q = m + 1
  · rw [if_pos e]
    by_cases e2 : p = m
    · rw [if_pos e2]; omega
    · rw [if_neg e2, if_neg (by omega)]
      exact h p m (by omega) (by omega) (by omega)
  · rw [if_neg e]
    have hq := fun p' (hp : p' < q) => h p' q hp h2 e
    split
    · by_cases e3 : q < m + 1
      · omega
      · exact hq (m + 1) (by omega)
    · split
      · exact hq m (by omega)
      · exact hq p h1
theorem exc_end0 {k : Nat} {xs : List Int} (h : Exc k 0 xs) : UpTo (k + 1) xs := fun p q h1 h2 => h p q h1 (by omega) (by omega)
theorem exc_end {k m : Nat} {xs : List Int} (h : Exc k (m + 1) xs) (hl : ¬ gd xs (m + 1) < gd xs m) (hk : m + 1 ≤ k) : UpTo (k + 1) xs := fun p q h1 h2 => by
  by_cases e : q = m + 1
  · subst e
    by_cases e2 : p = m
    · subst e2; omega
    · have := h p m (by omega) (by omega) (by omega)
      omega
  · exact h p q h1 (by omega) e
theorem set_iv (xs : List Int) (rest : List Value) (m : Nat) (h : m + 1 < xs.length) : (((xs.map iv ++ rest).set (m + 1) (.int .u64 (gd xs m))).set m (.int .u64 (gd xs (m + 1)))) = (swp xs m).map iv ++ rest := by
  unfold swp
  rw [List.map_set, List.map_set, List.set_append_left _ _ (by simpa using h), List.set_append_left _ _ (by simp; omega)]
  rfl
set_option maxRecDepth 100000 in
set_option maxHeartbeats 2000000 in
theorem ins_c (b n cap : Nat) (xs : List Int) (rest : List Value) (w : World) (row : RowIs w b 33 (xs.map iv ++ rest)) (hn : xs.length = n) (hb : n ≤ 1000000) :
    Calls Try.prog 70 #[.slice (some ⟨b, 0, none⟩) n cap, .int .i64 0, .int .i64 n] w fun e w' => e = .returned (.tuple #[]) ∧ ∃ ys, RowIs w' b 33 (ys.map iv ++ rest) ∧ ys.Perm xs ∧ UpTo n ys ∧ Keep (· = b) w w' := by
  go_enter Try.func70, Try.ntmps70
  go_wp2_with fail
  go_loopw [6] (fun i wr => ∃ (k : Nat) (ys : List Int), 1 ≤ k ∧ (k ≤ n ∨ k = 1) ∧ i = .int .i64 k ∧ RowIs wr b 33 (ys.map iv ++ rest) ∧ ys.Perm xs ∧ UpTo k ys ∧ Keep (· = b) w wr) (fun i _ => n + 1 - (intOf i).toNat)
  case atStart => exact ⟨1, xs, by omega, .inr rfl, rfl, row, List.Perm.refl _, fun p q h1 h2 => by omega, Keep.refl _ _⟩
  case round =>
    clear row
    obtain ⟨k, ys, hk1, hkn, rfl, row, hp, hu, kk⟩ := hrel
    by_cases hlt : k < n
    · have hc : (k : Int) < (n : Int) := by omega
      go_wp2_with fail
      go_loopw [7] (fun j wx => ∃ (q : Nat) (zs : List Int), q ≤ k ∧ j = .int .i64 q ∧ RowIs wx b 33 (zs.map iv ++ rest) ∧ zs.Perm xs ∧ Exc k q zs ∧ Keep (· = b) w wx) (fun j _ => (intOf j).toNat)
      case atStart => exact ⟨k, ys, Nat.le_refl _, rfl, row, hp, exc_start hu, kk⟩
      case round =>
        clear row hp hu kk
        obtain ⟨q, ys, hq, rfl, row, hp2, hE, kk2⟩ := hrel
        have hlen : ys.length = n := hp2.length_eq.trans hn
        rcases Nat.eq_zero_or_pos q with e0 | e0
        · subst e0
          have kd : Keep Nix wr wr.drew := (Keep.refl Nix wr).drew
          have row1 := Lib.hid (row.keep kd id)
          have kk3 := Lib.hid (kk2.trans kd.nix)
          have hUp := Lib.hid (exc_end0 hE)
          have hg : (0 : Int) < ((0 : Nat) : Int) ↔ False := by simp
          go_upto_region 4 with fail
          refine wp_region_held_drew (S := (fun _ => True)) (by kernel_rfl) (trivial) (fun hHeld => ?_)
          generalize wr.drew = w1 at *
          refine wpAnyH_take (i := 0) (v := ?_) rfl (by kernel_rfl) (by kernel_rfl) (by kernel_rfl) (fun _ _ _ h => h) (Or.inl ⟨by kernel_rfl, ?_⟩) hHeld ?_
          rotate_left
          · intro w' hSw
            (try dsimp only at hSw)
            (try simp only [List.getElem_toArray]); (try simp only [List.getElem_cons_succ]); (try simp only [List.getElem_cons_zero])
            go_simp
            try with_reducible rfl
          (try simp only [Act.put]); (try simp only [List.getElem_toArray]); (try simp only [List.getElem_cons_succ]); (try simp only [List.getElem_cons_zero]); (try simp only [List.setIfInBounds_toArray]); (try simp only [List.set_cons_succ]); (try simp only [List.set_cons_zero])
          refine wpAnyH_take (i := 1) (v := ?_) rfl (by kernel_rfl) (by kernel_rfl) (by kernel_rfl) (fun _ _ _ h => h) (Or.inl ⟨by kernel_rfl, ?_⟩) hHeld ?_
          rotate_left
          · intro w' hSw
            (try dsimp only at hSw)
            (try simp only [List.getElem_toArray]); (try simp only [List.getElem_cons_succ]); (try simp only [List.getElem_cons_zero])
            go_simp
            try with_reducible rfl
          (try simp only [Act.put]); (try simp only [List.getElem_toArray]); (try simp only [List.getElem_cons_succ]); (try simp only [List.getElem_cons_zero]); (try simp only [List.setIfInBounds_toArray]); (try simp only [List.set_cons_succ]); (try simp only [List.set_cons_zero])
          refine wpAnyH_take (i := 2) (v := ?_) rfl (by kernel_rfl) (by kernel_rfl) (by kernel_rfl) (fun _ _ _ h => h) (Or.inl ⟨by kernel_rfl, ?_⟩) hHeld ?_
          rotate_left
          · intro w' hSw
            (try dsimp only at hSw)
            (try simp only [List.getElem_toArray]); (try simp only [List.getElem_cons_succ]); (try simp only [List.getElem_cons_zero])
            go_simp
            try with_reducible rfl
          (try simp only [Act.put]); (try simp only [List.getElem_toArray]); (try simp only [List.getElem_cons_succ]); (try simp only [List.getElem_cons_zero]); (try simp only [List.setIfInBounds_toArray]); (try simp only [List.set_cons_succ]); (try simp only [List.set_cons_zero])
          refine wpAnyH_take (i := 3) (v := ?_) rfl (by kernel_rfl) (by kernel_rfl) (by kernel_rfl) (fun _ _ _ h => h) (Or.inl ⟨by kernel_rfl, ?_⟩) hHeld ?_
          rotate_left
          · intro w' hSw
            (try dsimp only at hSw)
            (try simp only [List.getElem_toArray]); (try simp only [List.getElem_cons_succ]); (try simp only [List.getElem_cons_zero])
            go_simp
            try with_reducible rfl
          (try simp only [Act.put]); (try simp only [List.getElem_toArray]); (try simp only [List.getElem_cons_succ]); (try simp only [List.getElem_cons_zero]); (try simp only [List.setIfInBounds_toArray]); (try simp only [List.set_cons_succ]); (try simp only [List.set_cons_zero])
          refine wpAnyH_take (i := 4) (v := undef) rfl (by kernel_rfl) (by kernel_rfl) (by kernel_rfl) (fun _ _ _ h => h) (Or.inr ⟨by kernel_rfl, rfl⟩) hHeld ?_
          (try simp only [Act.put]); (try simp only [List.getElem_toArray]); (try simp only [List.getElem_cons_succ]); (try simp only [List.getElem_cons_zero]); (try simp only [List.setIfInBounds_toArray]); (try simp only [List.set_cons_succ]); (try simp only [List.set_cons_zero])
          refine wpAnyH_take (i := 5) (v := undef) rfl (by kernel_rfl) (by kernel_rfl) (by kernel_rfl) (fun _ _ _ h => h) (Or.inr ⟨by kernel_rfl, rfl⟩) hHeld ?_
          (try simp only [Act.put]); (try simp only [List.getElem_toArray]); (try simp only [List.getElem_cons_succ]); (try simp only [List.getElem_cons_zero]); (try simp only [List.setIfInBounds_toArray]); (try simp only [List.set_cons_succ]); (try simp only [List.set_cons_zero])
          refine wpAnyH_take (i := 6) (v := undef) rfl (by kernel_rfl) (by kernel_rfl) (by kernel_rfl) (fun _ _ _ h => h) (Or.inr ⟨by kernel_rfl, rfl⟩) hHeld ?_
          (try simp only [Act.put]); (try simp only [List.getElem_toArray]); (try simp only [List.getElem_cons_succ]); (try simp only [List.getElem_cons_zero]); (try simp only [List.setIfInBounds_toArray]); (try simp only [List.set_cons_succ]); (try simp only [List.set_cons_zero])
          refine wpAnyH_take (i := 7) (v := undef) rfl (by kernel_rfl) (by kernel_rfl) (by kernel_rfl) (fun _ _ _ h => h) (Or.inr ⟨by kernel_rfl, rfl⟩) hHeld ?_
          (try simp only [Act.put]); (try simp only [List.getElem_toArray]); (try simp only [List.getElem_cons_succ]); (try simp only [List.getElem_cons_zero]); (try simp only [List.setIfInBounds_toArray]); (try simp only [List.set_cons_succ]); (try simp only [List.set_cons_zero])
          refine wpAnyH_take (i := 8) (v := undef) rfl (by kernel_rfl) (by kernel_rfl) (by kernel_rfl) (fun _ _ _ h => h) (Or.inr ⟨by kernel_rfl, rfl⟩) hHeld ?_
          (try simp only [Act.put]); (try simp only [List.getElem_toArray]); (try simp only [List.getElem_cons_succ]); (try simp only [List.getElem_cons_zero]); (try simp only [List.setIfInBounds_toArray]); (try simp only [List.set_cons_succ]); (try simp only [List.set_cons_zero])
          refine wpAnyH_take (i := 9) (v := undef) rfl (by kernel_rfl) (by kernel_rfl) (by kernel_rfl) (fun _ _ _ h => h) (Or.inr ⟨by kernel_rfl, rfl⟩) hHeld ?_
          (try simp only [Act.put]); (try simp only [List.getElem_toArray]); (try simp only [List.getElem_cons_succ]); (try simp only [List.getElem_cons_zero]); (try simp only [List.setIfInBounds_toArray]); (try simp only [List.set_cons_succ]); (try simp only [List.set_cons_zero])
          refine wpAnyH_take (i := 10) (v := undef) rfl (by kernel_rfl) (by kernel_rfl) (by kernel_rfl) (fun _ _ _ h => h) (Or.inr ⟨by kernel_rfl, rfl⟩) hHeld ?_
          (try simp only [Act.put]); (try simp only [List.getElem_toArray]); (try simp only [List.getElem_cons_succ]); (try simp only [List.getElem_cons_zero]); (try simp only [List.setIfInBounds_toArray]); (try simp only [List.set_cons_succ]); (try simp only [List.set_cons_zero])
          refine wpAnyH_take (i := 11) (v := undef) rfl (by kernel_rfl) (by kernel_rfl) (by kernel_rfl) (fun _ _ _ h => h) (Or.inr ⟨by kernel_rfl, rfl⟩) hHeld ?_
          (try simp only [Act.put]); (try simp only [List.getElem_toArray]); (try simp only [List.getElem_cons_succ]); (try simp only [List.getElem_cons_zero]); (try simp only [List.setIfInBounds_toArray]); (try simp only [List.set_cons_succ]); (try simp only [List.set_cons_zero])
          refine wpAnyH_take (i := 12) (v := undef) rfl (by kernel_rfl) (by kernel_rfl) (by kernel_rfl) (fun _ _ _ h => h) (Or.inr ⟨by kernel_rfl, rfl⟩) hHeld ?_
          (try simp only [Act.put]); (try simp only [List.getElem_toArray]); (try simp only [List.getElem_cons_succ]); (try simp only [List.getElem_cons_zero]); (try simp only [List.setIfInBounds_toArray]); (try simp only [List.set_cons_succ]); (try simp only [List.set_cons_zero])
          refine wpAnyH_take (i := 13) (v := undef) rfl (by kernel_rfl) (by kernel_rfl) (by kernel_rfl) (fun _ _ _ h => h) (Or.inr ⟨by kernel_rfl, rfl⟩) hHeld ?_
          (try simp only [Act.put]); (try simp only [List.getElem_toArray]); (try simp only [List.getElem_cons_succ]); (try simp only [List.getElem_cons_zero]); (try simp only [List.setIfInBounds_toArray]); (try simp only [List.set_cons_succ]); (try simp only [List.set_cons_zero])
          refine wpAnyH_take (i := 14) (v := ?_) rfl (by kernel_rfl) (by kernel_rfl) (by kernel_rfl) (fun _ _ _ h => h) (Or.inl ⟨by kernel_rfl, ?_⟩) hHeld ?_
          rotate_left
          · intro w' hSw
            (try dsimp only at hSw)
            (try simp only [List.getElem_toArray]); (try simp only [List.getElem_cons_succ]); (try simp only [List.getElem_cons_zero])
            go_simp
            try with_reducible rfl
          (try simp only [Act.put]); (try simp only [List.getElem_toArray]); (try simp only [List.getElem_cons_succ]); (try simp only [List.getElem_cons_zero]); (try simp only [List.setIfInBounds_toArray]); (try simp only [List.set_cons_succ]); (try simp only [List.set_cons_zero])
          refine wpAnyH_done (by kernel_rfl) ?_ _
          clear hHeld row kk2 hE kd
          go_wp2_with fail
          go_roundw
          case rel => exact ⟨k + 1, ys, by omega, .inl (by omega), by go_num, row1.out, hp2, hUp.out, kk3.out⟩
          case measure => simp [intOf]; omega
        · obtain ⟨m, hm⟩ : ∃ m, q = m + 1 := ⟨q - 1, by omega⟩
          have hm1 : m < ys.length := by omega
          have hm2 : q < ys.length := by omega
          have hg : (0 : Int) < (q : Int) := by omega
          have hi0 : (0 : Int) ≤ (q : Int) := by omega
          have hi1 : (q : Int) < (n : Int) := by omega
          have hj0 : (0 : Int) ≤ (m : Int) := by omega
          have hj1 : (m : Int) < (n : Int) := by omega
          have hsub : IntKind.i64.wrap ((q : Int) - 1) = (m : Int) := by
            rw [show ((q : Int) - 1) = (m : Int) by omega]
            simp [IntKind.wrap, IntKind.signed, IntKind.bits]; omega
          have hdec : decide ((0 : Int) < (q : Int)) = true := decide_eq_true hg
          have y1 : wr.drew.cell? ⟨b, m, none⟩ = some (.int .u64 (gd ys m)) := by
            have := (row.keep ((Keep.refl Nix wr).drew) id).cell m
            rw [gd_cell hm1] at this; exact this
          have y2 : wr.drew.cell? ⟨b, q, none⟩ = some (.int .u64 (gd ys q)) := by
            have := (row.keep ((Keep.refl Nix wr).drew) id).cell q
            rw [gd_cell hm2] at this; exact this
          have HMQ := Lib.hid hm
          clear hm
          have hl := Lib.hid (less_c (gd ys q) (gd ys m) wr.drew)
          have row1 := Lib.hid (row.keep ((Keep.refl Nix wr).drew) id)
          have kk3 := Lib.hid (kk2.trans ((Keep.refl Nix wr).drew).nix)
          go_upto_region 4 with fail
          refine wp_region_held_drew (S := (fun w' => w'.cell? ⟨b, m, none⟩ = some (.int .u64 (gd ys m)) ∧ w'.cell? ⟨b, q, none⟩ = some (.int .u64 (gd ys q)))) (by kernel_rfl) (⟨y1, y2⟩) (fun hHeld => ?_)
          clear y1 y2
          generalize wr.drew = w1 at *
          refine wpAnyH_take (i := 0) (v := ?_) rfl (by kernel_rfl) (by kernel_rfl) (by kernel_rfl) (fun _ _ _ h => h) (Or.inl ⟨by kernel_rfl, ?_⟩) hHeld ?_
          rotate_left
          · intro w' hSw
            (try dsimp only at hSw)
            (try simp only [List.getElem_toArray]); (try simp only [List.getElem_cons_succ]); (try simp only [List.getElem_cons_zero])
            go_simp
            try with_reducible rfl
          (try simp only [Act.put]); (try simp only [List.getElem_toArray]); (try simp only [List.getElem_cons_succ]); (try simp only [List.getElem_cons_zero]); (try simp only [List.setIfInBounds_toArray]); (try simp only [List.set_cons_succ]); (try simp only [List.set_cons_zero])
          refine wpAnyH_take (i := 1) (v := ?_) rfl (by kernel_rfl) (by kernel_rfl) (by kernel_rfl) (fun _ _ _ h => h) (Or.inl ⟨by kernel_rfl, ?_⟩) hHeld ?_
          rotate_left
          · intro w' hSw
            (try dsimp only at hSw)
            (try simp only [List.getElem_toArray]); (try simp only [List.getElem_cons_succ]); (try simp only [List.getElem_cons_zero])
            go_simp
            try with_reducible rfl
          (try simp only [Act.put]); (try simp only [List.getElem_toArray]); (try simp only [List.getElem_cons_succ]); (try simp only [List.getElem_cons_zero]); (try simp only [List.setIfInBounds_toArray]); (try simp only [List.set_cons_succ]); (try simp only [List.set_cons_zero])
          refine wpAnyH_take (i := 2) (v := ?_) rfl (by kernel_rfl) (by kernel_rfl) (by kernel_rfl) (fun _ _ _ h => h) (Or.inl ⟨by kernel_rfl, ?_⟩) hHeld ?_
          rotate_left
          · intro w' hSw
            (try dsimp only at hSw)
            (try simp only [List.getElem_toArray]); (try simp only [List.getElem_cons_succ]); (try simp only [List.getElem_cons_zero])
            go_simp
            try with_reducible rfl
          (try simp only [Act.put]); (try simp only [List.getElem_toArray]); (try simp only [List.getElem_cons_succ]); (try simp only [List.getElem_cons_zero]); (try simp only [List.setIfInBounds_toArray]); (try simp only [List.set_cons_succ]); (try simp only [List.set_cons_zero])
          refine wpAnyH_take (i := 3) (v := ?_) rfl (by kernel_rfl) (by kernel_rfl) (by kernel_rfl) (fun _ _ _ h => h) (Or.inl ⟨by kernel_rfl, ?_⟩) hHeld ?_
          rotate_left
          · intro w' hSw
            (try dsimp only at hSw)
            (try simp only [List.getElem_toArray]); (try simp only [List.getElem_cons_succ]); (try simp only [List.getElem_cons_zero])
            go_simp
            try with_reducible rfl
          (try simp only [Act.put]); (try simp only [List.getElem_toArray]); (try simp only [List.getElem_cons_succ]); (try simp only [List.getElem_cons_zero]); (try simp only [List.setIfInBounds_toArray]); (try simp only [List.set_cons_succ]); (try simp only [List.set_cons_zero])
          refine wpAnyH_take (i := 4) (v := ?_) rfl (by kernel_rfl) (by kernel_rfl) (by kernel_rfl) (fun _ _ _ h => h) (Or.inl ⟨by kernel_rfl, ?_⟩) hHeld ?_
          rotate_left
          · intro w' hSw
            (try dsimp only at hSw)
            (try simp only [List.getElem_toArray]); (try simp only [List.getElem_cons_succ]); (try simp only [List.getElem_cons_zero])
            go_simp
            try with_reducible rfl
          (try simp only [Act.put]); (try simp only [List.getElem_toArray]); (try simp only [List.getElem_cons_succ]); (try simp only [List.getElem_cons_zero]); (try simp only [List.setIfInBounds_toArray]); (try simp only [List.set_cons_succ]); (try simp only [List.set_cons_zero])
          refine wpAnyH_take (i := 5) (v := ?_) rfl (by kernel_rfl) (by kernel_rfl) (by kernel_rfl) (fun _ _ _ h => h) (Or.inl ⟨by kernel_rfl, ?_⟩) hHeld ?_
          rotate_left
          · intro w' hSw
            (try dsimp only at hSw)
            (try simp only [List.getElem_toArray]); (try simp only [List.getElem_cons_succ]); (try simp only [List.getElem_cons_zero])
            go_simp
            try with_reducible rfl
          (try simp only [Act.put]); (try simp only [List.getElem_toArray]); (try simp only [List.getElem_cons_succ]); (try simp only [List.getElem_cons_zero]); (try simp only [List.setIfInBounds_toArray]); (try simp only [List.set_cons_succ]); (try simp only [List.set_cons_zero])
          refine wpAnyH_take (i := 6) (v := ?_) rfl (by kernel_rfl) (by kernel_rfl) (by kernel_rfl) (fun _ _ _ h => h) (Or.inl ⟨by kernel_rfl, ?_⟩) hHeld ?_
          rotate_left
          · intro w' hSw
            (try dsimp only at hSw)
            (try simp only [List.getElem_toArray]); (try simp only [List.getElem_cons_succ]); (try simp only [List.getElem_cons_zero])
            go_simp
            try with_reducible rfl
          (try simp only [Act.put]); (try simp only [List.getElem_toArray]); (try simp only [List.getElem_cons_succ]); (try simp only [List.getElem_cons_zero]); (try simp only [List.setIfInBounds_toArray]); (try simp only [List.set_cons_succ]); (try simp only [List.set_cons_zero])
          refine wpAnyH_take (i := 7) (v := ?_) rfl (by kernel_rfl) (by kernel_rfl) (by kernel_rfl) (fun _ _ _ h => h) (Or.inl ⟨by kernel_rfl, ?_⟩) hHeld ?_
          rotate_left
          · intro w' hSw
            (try dsimp only at hSw)
            (try simp only [List.getElem_toArray]); (try simp only [List.getElem_cons_succ]); (try simp only [List.getElem_cons_zero])
            go_simp
            try with_reducible rfl
          (try simp only [Act.put]); (try simp only [List.getElem_toArray]); (try simp only [List.getElem_cons_succ]); (try simp only [List.getElem_cons_zero]); (try simp only [List.setIfInBounds_toArray]); (try simp only [List.set_cons_succ]); (try simp only [List.set_cons_zero])
          refine wpAnyH_take (i := 8) (v := ?_) rfl (by kernel_rfl) (by kernel_rfl) (by kernel_rfl) (fun _ _ _ h => h) (Or.inl ⟨by kernel_rfl, ?_⟩) hHeld ?_
          rotate_left
          · intro w' hSw
            (try dsimp only at hSw)
            (try simp only [List.getElem_toArray]); (try simp only [List.getElem_cons_succ]); (try simp only [List.getElem_cons_zero])
            go_simp
            try with_reducible rfl
          (try simp only [Act.put]); (try simp only [List.getElem_toArray]); (try simp only [List.getElem_cons_succ]); (try simp only [List.getElem_cons_zero]); (try simp only [List.setIfInBounds_toArray]); (try simp only [List.set_cons_succ]); (try simp only [List.set_cons_zero])
          refine wpAnyH_take (i := 9) (v := ?_) rfl (by kernel_rfl) (by kernel_rfl) (by kernel_rfl) (fun _ _ _ h => h) (Or.inl ⟨by kernel_rfl, ?_⟩) hHeld ?_
          rotate_left
          · intro w' hSw
            (try dsimp only at hSw)
            (try simp only [List.getElem_toArray]); (try simp only [List.getElem_cons_succ]); (try simp only [List.getElem_cons_zero])
            go_simp
            try with_reducible rfl
          (try simp only [Act.put]); (try simp only [List.getElem_toArray]); (try simp only [List.getElem_cons_succ]); (try simp only [List.getElem_cons_zero]); (try simp only [List.setIfInBounds_toArray]); (try simp only [List.set_cons_succ]); (try simp only [List.set_cons_zero])
          refine wpAnyH_take (i := 10) (v := ?_) rfl (by kernel_rfl) (by kernel_rfl) (by kernel_rfl) (fun _ _ _ h => h) (Or.inl ⟨by kernel_rfl, ?_⟩) hHeld ?_
          rotate_left
          · intro w' hSw
            (try dsimp only at hSw)
            (try simp only [List.getElem_toArray]); (try simp only [List.getElem_cons_succ]); (try simp only [List.getElem_cons_zero])
            go_simp
            try with_reducible rfl
          (try simp only [Act.put]); (try simp only [List.getElem_toArray]); (try simp only [List.getElem_cons_succ]); (try simp only [List.getElem_cons_zero]); (try simp only [List.setIfInBounds_toArray]); (try simp only [List.set_cons_succ]); (try simp only [List.set_cons_zero])
          refine wpAnyH_take (i := 11) (v := ?_) rfl (by kernel_rfl) (by kernel_rfl) (by kernel_rfl) (fun _ _ _ h => h) (Or.inl ⟨by kernel_rfl, ?_⟩) hHeld ?_
          rotate_left
          · intro w' hSw
            (try dsimp only at hSw)
            (try simp only [List.getElem_toArray]); (try simp only [List.getElem_cons_succ]); (try simp only [List.getElem_cons_zero])
            go_simp
            try with_reducible rfl
          (try simp only [Act.put]); (try simp only [List.getElem_toArray]); (try simp only [List.getElem_cons_succ]); (try simp only [List.getElem_cons_zero]); (try simp only [List.setIfInBounds_toArray]); (try simp only [List.set_cons_succ]); (try simp only [List.set_cons_zero])
          refine wpAnyH_take (i := 12) (v := ?_) rfl (by kernel_rfl) (by kernel_rfl) (by kernel_rfl) (fun _ _ _ h => h) (Or.inl ⟨by kernel_rfl, ?_⟩) hHeld ?_
          rotate_left
          · intro w' hSw
            (try dsimp only at hSw)
            (try simp only [List.getElem_toArray]); (try simp only [List.getElem_cons_succ]); (try simp only [List.getElem_cons_zero])
            go_simp
            try with_reducible rfl
          (try simp only [Act.put]); (try simp only [List.getElem_toArray]); (try simp only [List.getElem_cons_succ]); (try simp only [List.getElem_cons_zero]); (try simp only [List.setIfInBounds_toArray]); (try simp only [List.set_cons_succ]); (try simp only [List.set_cons_zero])
          refine wpAnyH_ready (rs := [13]) (by kernel_rfl) (by simp) ?_
          refine AllReadyH.cons rfl (fun K hK => ?_) AllReadyH.nil
          rw [if_pos (by kernel_rfl)]
          (try simp only [List.getElem_toArray]); (try simp only [List.getElem_cons_succ]); (try simp only [List.getElem_cons_zero])
          go_simp
          go_fit hl.out
          rintro e w2 ⟨rfl, rfl⟩
          go_wp2_with fail
          refine hK.out _ _ (hHeld) (fun hHeld => ?_)
          clear hK K
          (try simp only [Act.put]); (try simp only [List.getElem_toArray]); (try simp only [List.getElem_cons_succ]); (try simp only [List.getElem_cons_zero]); (try simp only [List.setIfInBounds_toArray]); (try simp only [List.set_cons_succ]); (try simp only [List.set_cons_zero])
          obtain ⟨d, HD⟩ : ∃ d, Hid (decide (gd ys q < gd ys m) = d) := ⟨_, rfl⟩
          rw [HD.out]
          refine wpAnyH_take (i := 14) (v := ?_) rfl (by kernel_rfl) (by kernel_rfl) (by kernel_rfl) (fun _ _ _ h => h) (Or.inl ⟨by kernel_rfl, ?_⟩) hHeld ?_
          rotate_left
          · intro w' hSw
            (try dsimp only at hSw)
            (try simp only [List.getElem_toArray]); (try simp only [List.getElem_cons_succ]); (try simp only [List.getElem_cons_zero])
            go_simp
            try with_reducible rfl
          (try simp only [Act.put]); (try simp only [List.getElem_toArray]); (try simp only [List.getElem_cons_succ]); (try simp only [List.getElem_cons_zero]); (try simp only [List.setIfInBounds_toArray]); (try simp only [List.set_cons_succ]); (try simp only [List.set_cons_zero])
          refine wpAnyH_done (by kernel_rfl) ?_ _
          clear hHeld row kk2 hl
          cases d with
          | false =>
            have hUp : UpTo (k + 1) ys := exc_end (m := m) (by rw [← HMQ.out]; exact hE) (by rw [← HMQ.out]; exact of_decide_eq_false HD.out) (by have := HMQ.out; omega)
            go_wp2_with fail
            go_roundw
            case rel => exact ⟨k + 1, ys, by omega, .inl (by omega), by go_num, row1.out, hp2, hUp, kk3.out⟩
            case measure => simp [intOf]; omega
          | true =>
            have hlt2 : Hid (gd ys q < gd ys m) := Lib.hid (of_decide_eq_true HD.out)
            have kk3 := kk3.out
            go_upto_region 6 with fail
            have row := row1.out.keep ((Keep.refl Nix w1).drew) id
            have kk2 := kk3.trans ((Keep.refl Nix w1).drew).nix
            refine wp_region_held_drew (S := (fun _ => True)) (by kernel_rfl) (trivial) (fun hHeld => ?_)
            clear row1 kk3
            generalize w1.drew = w2 at *
            refine wpAnyH_take (i := 0) (v := ?_) rfl (by kernel_rfl) (by kernel_rfl) (by kernel_rfl) (fun _ _ _ h => h) (Or.inl ⟨by kernel_rfl, ?_⟩) hHeld ?_
            rotate_left
            · intro w' hSw
              (try dsimp only at hSw)
              (try simp only [List.getElem_toArray]); (try simp only [List.getElem_cons_succ]); (try simp only [List.getElem_cons_zero])
              go_simp
              try with_reducible rfl
            (try simp only [Act.put]); (try simp only [List.getElem_toArray]); (try simp only [List.getElem_cons_succ]); (try simp only [List.getElem_cons_zero]); (try simp only [List.setIfInBounds_toArray]); (try simp only [List.set_cons_succ]); (try simp only [List.set_cons_zero])
            refine wpAnyH_take (i := 1) (v := ?_) rfl (by kernel_rfl) (by kernel_rfl) (by kernel_rfl) (fun _ _ _ h => h) (Or.inl ⟨by kernel_rfl, ?_⟩) hHeld ?_
            rotate_left
            · intro w' hSw
              (try dsimp only at hSw)
              (try simp only [List.getElem_toArray]); (try simp only [List.getElem_cons_succ]); (try simp only [List.getElem_cons_zero])
              go_simp
              try with_reducible rfl
            (try simp only [Act.put]); (try simp only [List.getElem_toArray]); (try simp only [List.getElem_cons_succ]); (try simp only [List.getElem_cons_zero]); (try simp only [List.setIfInBounds_toArray]); (try simp only [List.set_cons_succ]); (try simp only [List.set_cons_zero])
            refine wpAnyH_take (i := 2) (v := ?_) rfl (by kernel_rfl) (by kernel_rfl) (by kernel_rfl) (fun _ _ _ h => h) (Or.inl ⟨by kernel_rfl, ?_⟩) hHeld ?_
            rotate_left
            · intro w' hSw
              (try dsimp only at hSw)
              (try simp only [List.getElem_toArray]); (try simp only [List.getElem_cons_succ]); (try simp only [List.getElem_cons_zero])
              go_simp
              try with_reducible rfl
            (try simp only [Act.put]); (try simp only [List.getElem_toArray]); (try simp only [List.getElem_cons_succ]); (try simp only [List.getElem_cons_zero]); (try simp only [List.setIfInBounds_toArray]); (try simp only [List.set_cons_succ]); (try simp only [List.set_cons_zero])
            refine wpAnyH_take (i := 3) (v := ?_) rfl (by kernel_rfl) (by kernel_rfl) (by kernel_rfl) (fun _ _ _ h => h) (Or.inl ⟨by kernel_rfl, ?_⟩) hHeld ?_
            rotate_left
            · intro w' hSw
              (try dsimp only at hSw)
              (try simp only [List.getElem_toArray]); (try simp only [List.getElem_cons_succ]); (try simp only [List.getElem_cons_zero])
              go_simp
              try with_reducible rfl
            (try simp only [Act.put]); (try simp only [List.getElem_toArray]); (try simp only [List.getElem_cons_succ]); (try simp only [List.getElem_cons_zero]); (try simp only [List.setIfInBounds_toArray]); (try simp only [List.set_cons_succ]); (try simp only [List.set_cons_zero])
            refine wpAnyH_take (i := 4) (v := ?_) rfl (by kernel_rfl) (by kernel_rfl) (by kernel_rfl) (fun _ _ _ h => h) (Or.inl ⟨by kernel_rfl, ?_⟩) hHeld ?_
            rotate_left
            · intro w' hSw
              (try dsimp only at hSw)
              (try simp only [List.getElem_toArray]); (try simp only [List.getElem_cons_succ]); (try simp only [List.getElem_cons_zero])
              go_simp
              try with_reducible rfl
            (try simp only [Act.put]); (try simp only [List.getElem_toArray]); (try simp only [List.getElem_cons_succ]); (try simp only [List.getElem_cons_zero]); (try simp only [List.setIfInBounds_toArray]); (try simp only [List.set_cons_succ]); (try simp only [List.set_cons_zero])
            refine wpAnyH_take (i := 5) (v := ?_) rfl (by kernel_rfl) (by kernel_rfl) (by kernel_rfl) (fun _ _ _ h => h) (Or.inl ⟨by kernel_rfl, ?_⟩) hHeld ?_
            rotate_left
            · intro w' hSw
              (try dsimp only at hSw)
              (try simp only [List.getElem_toArray]); (try simp only [List.getElem_cons_succ]); (try simp only [List.getElem_cons_zero])
              go_simp
              try with_reducible rfl
            (try simp only [Act.put]); (try simp only [List.getElem_toArray]); (try simp only [List.getElem_cons_succ]); (try simp only [List.getElem_cons_zero]); (try simp only [List.setIfInBounds_toArray]); (try simp only [List.set_cons_succ]); (try simp only [List.set_cons_zero])
            refine wpAnyH_take (i := 6) (v := ?_) rfl (by kernel_rfl) (by kernel_rfl) (by kernel_rfl) (fun _ _ _ h => h) (Or.inl ⟨by kernel_rfl, ?_⟩) hHeld ?_
            rotate_left
            · intro w' hSw
              (try dsimp only at hSw)
              (try simp only [List.getElem_toArray]); (try simp only [List.getElem_cons_succ]); (try simp only [List.getElem_cons_zero])
              go_simp
              try with_reducible rfl
            (try simp only [Act.put]); (try simp only [List.getElem_toArray]); (try simp only [List.getElem_cons_succ]); (try simp only [List.getElem_cons_zero]); (try simp only [List.setIfInBounds_toArray]); (try simp only [List.set_cons_succ]); (try simp only [List.set_cons_zero])
            refine wpAnyH_take (i := 7) (v := ?_) rfl (by kernel_rfl) (by kernel_rfl) (by kernel_rfl) (fun _ _ _ h => h) (Or.inl ⟨by kernel_rfl, ?_⟩) hHeld ?_
            rotate_left
            · intro w' hSw
              (try dsimp only at hSw)
              (try simp only [List.getElem_toArray]); (try simp only [List.getElem_cons_succ]); (try simp only [List.getElem_cons_zero])
              go_simp
              try with_reducible rfl
            (try simp only [Act.put]); (try simp only [List.getElem_toArray]); (try simp only [List.getElem_cons_succ]); (try simp only [List.getElem_cons_zero]); (try simp only [List.setIfInBounds_toArray]); (try simp only [List.set_cons_succ]); (try simp only [List.set_cons_zero])
            refine wpAnyH_take (i := 8) (v := ?_) rfl (by kernel_rfl) (by kernel_rfl) (by kernel_rfl) (fun _ _ _ h => h) (Or.inl ⟨by kernel_rfl, ?_⟩) hHeld ?_
            rotate_left
            · intro w' hSw
              (try dsimp only at hSw)
              (try simp only [List.getElem_toArray]); (try simp only [List.getElem_cons_succ]); (try simp only [List.getElem_cons_zero])
              go_simp
              try with_reducible rfl
            (try simp only [Act.put]); (try simp only [List.getElem_toArray]); (try simp only [List.getElem_cons_succ]); (try simp only [List.getElem_cons_zero]); (try simp only [List.setIfInBounds_toArray]); (try simp only [List.set_cons_succ]); (try simp only [List.set_cons_zero])
            refine wpAnyH_take (i := 10) (v := ?_) rfl (by kernel_rfl) (by kernel_rfl) (by kernel_rfl) (fun _ _ _ h => h) (Or.inl ⟨by kernel_rfl, ?_⟩) hHeld ?_
            rotate_left
            · intro w' hSw
              (try dsimp only at hSw)
              (try simp only [List.getElem_toArray]); (try simp only [List.getElem_cons_succ]); (try simp only [List.getElem_cons_zero])
              go_simp
              try with_reducible rfl
            (try simp only [Act.put]); (try simp only [List.getElem_toArray]); (try simp only [List.getElem_cons_succ]); (try simp only [List.getElem_cons_zero]); (try simp only [List.setIfInBounds_toArray]); (try simp only [List.set_cons_succ]); (try simp only [List.set_cons_zero])
            refine wpAnyH_take (i := 11) (v := ?_) rfl (by kernel_rfl) (by kernel_rfl) (by kernel_rfl) (fun _ _ _ h => h) (Or.inl ⟨by kernel_rfl, ?_⟩) hHeld ?_
            rotate_left
            · intro w' hSw
              (try dsimp only at hSw)
              (try simp only [List.getElem_toArray]); (try simp only [List.getElem_cons_succ]); (try simp only [List.getElem_cons_zero])
              go_simp
              try with_reducible rfl
            (try simp only [Act.put]); (try simp only [List.getElem_toArray]); (try simp only [List.getElem_cons_succ]); (try simp only [List.getElem_cons_zero]); (try simp only [List.setIfInBounds_toArray]); (try simp only [List.set_cons_succ]); (try simp only [List.set_cons_zero])
            refine wpAnyH_take (i := 12) (v := ?_) rfl (by kernel_rfl) (by kernel_rfl) (by kernel_rfl) (fun _ _ _ h => h) (Or.inl ⟨by kernel_rfl, ?_⟩) hHeld ?_
            rotate_left
            · intro w' hSw
              (try dsimp only at hSw)
              (try simp only [List.getElem_toArray]); (try simp only [List.getElem_cons_succ]); (try simp only [List.getElem_cons_zero])
              go_simp
              try with_reducible rfl
            (try simp only [Act.put]); (try simp only [List.getElem_toArray]); (try simp only [List.getElem_cons_succ]); (try simp only [List.getElem_cons_zero]); (try simp only [List.setIfInBounds_toArray]); (try simp only [List.set_cons_succ]); (try simp only [List.set_cons_zero])
            refine wpAnyH_ready (rs := [9, 13]) (by kernel_rfl) (by simp) ?_
            refine AllReadyH.cons rfl (fun K hK => ?_) (AllReadyH.cons rfl (fun K hK => ?_) AllReadyH.nil)
            · have y1 := row.cell m
              rw [gd_cell hm1] at y1
              (try simp only [List.getElem_toArray]); (try simp only [List.getElem_cons_succ]); (try simp only [List.getElem_cons_zero])
              go_simp
              clear y1
              refine hK.out _ _ (trivial) (fun hHeld => ?_)
              clear hK K
              (try simp only [Act.put]); (try simp only [List.getElem_toArray]); (try simp only [List.getElem_cons_succ]); (try simp only [List.getElem_cons_zero]); (try simp only [List.setIfInBounds_toArray]); (try simp only [List.set_cons_succ]); (try simp only [List.set_cons_zero])
              refine wpAnyH_ready (rs := [13]) (by kernel_rfl) (by simp) ?_
              refine AllReadyH.cons rfl (fun K hK => ?_) AllReadyH.nil
              have y2 := row.cell q
              rw [gd_cell hm2] at y2
              (try simp only [List.getElem_toArray]); (try simp only [List.getElem_cons_succ]); (try simp only [List.getElem_cons_zero])
              go_simp
              clear y2
              refine hK.out _ _ (trivial) (fun hHeld => ?_)
              clear hK K
              (try simp only [Act.put]); (try simp only [List.getElem_toArray]); (try simp only [List.getElem_cons_succ]); (try simp only [List.getElem_cons_zero]); (try simp only [List.setIfInBounds_toArray]); (try simp only [List.set_cons_succ]); (try simp only [List.set_cons_zero])
              refine wpAnyH_take (i := 14) (v := ?_) rfl (by kernel_rfl) (by kernel_rfl) (by kernel_rfl) (fun _ _ _ h => h) (Or.inl ⟨by kernel_rfl, ?_⟩) hHeld ?_
              rotate_left
              · intro w' hSw
                (try dsimp only at hSw)
                (try simp only [List.getElem_toArray]); (try simp only [List.getElem_cons_succ]); (try simp only [List.getElem_cons_zero])
                go_simp
                try with_reducible rfl
              (try simp only [Act.put]); (try simp only [List.getElem_toArray]); (try simp only [List.getElem_cons_succ]); (try simp only [List.getElem_cons_zero]); (try simp only [List.setIfInBounds_toArray]); (try simp only [List.set_cons_succ]); (try simp only [List.set_cons_zero])
              refine wpAnyH_ready (rs := [15]) (by kernel_rfl) (by simp) ?_
              refine AllReadyH.cons rfl (fun K hK => ?_) AllReadyH.nil
              have f1 := row.frozen q
              have y2 := row.cell q
              rw [gd_cell hm2] at y2
              (try simp only [List.getElem_toArray]); (try simp only [List.getElem_cons_succ]); (try simp only [List.getElem_cons_zero])
              go_simp
              clear f1 y2
              have row2 := row.set q (.int .u64 (gd ys m))
              refine hK.out _ _ (trivial) (fun hHeld => ?_)
              clear hK K
              (try simp only [Act.put]); (try simp only [List.getElem_toArray]); (try simp only [List.getElem_cons_succ]); (try simp only [List.getElem_cons_zero]); (try simp only [List.setIfInBounds_toArray]); (try simp only [List.set_cons_succ]); (try simp only [List.set_cons_zero])
              refine wpAnyH_take (i := 16) (v := ?_) rfl (by kernel_rfl) (by kernel_rfl) (by kernel_rfl) (fun _ _ _ h => h) (Or.inl ⟨by kernel_rfl, ?_⟩) hHeld ?_
              rotate_left
              · intro w' hSw
                (try dsimp only at hSw)
                (try simp only [List.getElem_toArray]); (try simp only [List.getElem_cons_succ]); (try simp only [List.getElem_cons_zero])
                go_simp
                try with_reducible rfl
              (try simp only [Act.put]); (try simp only [List.getElem_toArray]); (try simp only [List.getElem_cons_succ]); (try simp only [List.getElem_cons_zero]); (try simp only [List.setIfInBounds_toArray]); (try simp only [List.set_cons_succ]); (try simp only [List.set_cons_zero])
              refine wpAnyH_ready (rs := [17]) (by kernel_rfl) (by simp) ?_
              refine AllReadyH.cons rfl (fun K hK => ?_) AllReadyH.nil
              have f1 := row2.frozen m
              have hmq : q ≠ m := by have := HMQ.out; omega
              have y2 : (w2.setCell ⟨b, q, none⟩ (.int .u64 (gd ys m))).cell? ⟨b, m, none⟩ = some (.int .u64 (gd ys m)) := by
                rw [row2.cell, List.getElem?_set, if_neg hmq, gd_cell hm1]
              (try simp only [List.getElem_toArray]); (try simp only [List.getElem_cons_succ]); (try simp only [List.getElem_cons_zero])
              go_simp
              clear f1 y2
              refine hK.out _ _ (trivial) (fun hHeld => ?_)
              clear hK K
              (try simp only [Act.put]); (try simp only [List.getElem_toArray]); (try simp only [List.getElem_cons_succ]); (try simp only [List.getElem_cons_zero]); (try simp only [List.setIfInBounds_toArray]); (try simp only [List.set_cons_succ]); (try simp only [List.set_cons_zero])
              refine wpAnyH_done (by kernel_rfl) ?_ _
              clear hHeld
              have row3 := row2.set m (.int .u64 (gd ys q))
              have row4 : Hid (RowIs ((w2.setCell ⟨b, q, none⟩ (.int .u64 (gd ys m))).setCell ⟨b, m, none⟩ (.int .u64 (gd ys q))) b 33 ((swp ys m).map iv ++ rest)) := by
                have e := set_iv ys rest m (by have := HMQ.out; omega)
                rw [← HMQ.out] at e
                rw [e] at row3
                exact row3
              have kS : Keep (· = b) w2 ((w2.setCell ⟨b, q, none⟩ (.int .u64 (gd ys m))).setCell ⟨b, m, none⟩ (.int .u64 (gd ys q))) := ((Keep.refl (· = b) w2).setCell (p := ⟨b, q, none⟩) (fun _ => rfl) _).setCell (p := ⟨b, m, none⟩) (fun _ => rfl) _
              have kk3 := Lib.hid (kk2.trans kS)
              have hE2 : Hid (Exc k m (swp ys m)) := exc_step (by rw [← HMQ.out]; exact hE) (by rw [← HMQ.out]; exact hlt2.out) (by have := HMQ.out; omega) (by have := HMQ.out; omega)
              have hpp : Hid ((swp ys m).Perm xs) := (swp_perm ys m (by have := HMQ.out; omega)).trans hp2
              clear row2 row3 kS row kk2
              go_wp2_with fail
              go_roundw
              case rel => exact ⟨m, swp ys m, by have := HMQ.out; omega, rfl, row4.out, hpp.out, hE2.out, kk3.out⟩
              case measure => have := HMQ.out; simp [intOf]; omega
            · have y2 := row.cell q
              rw [gd_cell hm2] at y2
              (try simp only [List.getElem_toArray]); (try simp only [List.getElem_cons_succ]); (try simp only [List.getElem_cons_zero])
              go_simp
              clear y2
              refine hK.out _ _ (trivial) (fun hHeld => ?_)
              clear hK K
              (try simp only [Act.put]); (try simp only [List.getElem_toArray]); (try simp only [List.getElem_cons_succ]); (try simp only [List.getElem_cons_zero]); (try simp only [List.setIfInBounds_toArray]); (try simp only [List.set_cons_succ]); (try simp only [List.set_cons_zero])
              refine wpAnyH_ready (rs := [9]) (by kernel_rfl) (by simp) ?_
              refine AllReadyH.cons rfl (fun K hK => ?_) AllReadyH.nil
              have y1 := row.cell m
              rw [gd_cell hm1] at y1
              (try simp only [List.getElem_toArray]); (try simp only [List.getElem_cons_succ]); (try simp only [List.getElem_cons_zero])
              go_simp
              clear y1
              refine hK.out _ _ (trivial) (fun hHeld => ?_)
              clear hK K
              (try simp only [Act.put]); (try simp only [List.getElem_toArray]); (try simp only [List.getElem_cons_succ]); (try simp only [List.getElem_cons_zero]); (try simp only [List.setIfInBounds_toArray]); (try simp only [List.set_cons_succ]); (try simp only [List.set_cons_zero])
              refine wpAnyH_take (i := 14) (v := ?_) rfl (by kernel_rfl) (by kernel_rfl) (by kernel_rfl) (fun _ _ _ h => h) (Or.inl ⟨by kernel_rfl, ?_⟩) hHeld ?_
              rotate_left
              · intro w' hSw
                (try dsimp only at hSw)
                (try simp only [List.getElem_toArray]); (try simp only [List.getElem_cons_succ]); (try simp only [List.getElem_cons_zero])
                go_simp
                try with_reducible rfl
              (try simp only [Act.put]); (try simp only [List.getElem_toArray]); (try simp only [List.getElem_cons_succ]); (try simp only [List.getElem_cons_zero]); (try simp only [List.setIfInBounds_toArray]); (try simp only [List.set_cons_succ]); (try simp only [List.set_cons_zero])
              refine wpAnyH_ready (rs := [15]) (by kernel_rfl) (by simp) ?_
              refine AllReadyH.cons rfl (fun K hK => ?_) AllReadyH.nil
              have f1 := row.frozen q
              have y2 := row.cell q
              rw [gd_cell hm2] at y2
              (try simp only [List.getElem_toArray]); (try simp only [List.getElem_cons_succ]); (try simp only [List.getElem_cons_zero])
              go_simp
              clear f1 y2
              have row2 := row.set q (.int .u64 (gd ys m))
              refine hK.out _ _ (trivial) (fun hHeld => ?_)
              clear hK K
              (try simp only [Act.put]); (try simp only [List.getElem_toArray]); (try simp only [List.getElem_cons_succ]); (try simp only [List.getElem_cons_zero]); (try simp only [List.setIfInBounds_toArray]); (try simp only [List.set_cons_succ]); (try simp only [List.set_cons_zero])
              refine wpAnyH_take (i := 16) (v := ?_) rfl (by kernel_rfl) (by kernel_rfl) (by kernel_rfl) (fun _ _ _ h => h) (Or.inl ⟨by kernel_rfl, ?_⟩) hHeld ?_
              rotate_left
              · intro w' hSw
                (try dsimp only at hSw)
                (try simp only [List.getElem_toArray]); (try simp only [List.getElem_cons_succ]); (try simp only [List.getElem_cons_zero])
                go_simp
                try with_reducible rfl
              (try simp only [Act.put]); (try simp only [List.getElem_toArray]); (try simp only [List.getElem_cons_succ]); (try simp only [List.getElem_cons_zero]); (try simp only [List.setIfInBounds_toArray]); (try simp only [List.set_cons_succ]); (try simp only [List.set_cons_zero])
              refine wpAnyH_ready (rs := [17]) (by kernel_rfl) (by simp) ?_
              refine AllReadyH.cons rfl (fun K hK => ?_) AllReadyH.nil
              have f1 := row2.frozen m
              have hmq : q ≠ m := by have := HMQ.out; omega
              have y2 : (w2.setCell ⟨b, q, none⟩ (.int .u64 (gd ys m))).cell? ⟨b, m, none⟩ = some (.int .u64 (gd ys m)) := by
                rw [row2.cell, List.getElem?_set, if_neg hmq, gd_cell hm1]
              (try simp only [List.getElem_toArray]); (try simp only [List.getElem_cons_succ]); (try simp only [List.getElem_cons_zero])
              go_simp
              clear f1 y2
              refine hK.out _ _ (trivial) (fun hHeld => ?_)
              clear hK K
              (try simp only [Act.put]); (try simp only [List.getElem_toArray]); (try simp only [List.getElem_cons_succ]); (try simp only [List.getElem_cons_zero]); (try simp only [List.setIfInBounds_toArray]); (try simp only [List.set_cons_succ]); (try simp only [List.set_cons_zero])
              refine wpAnyH_done (by kernel_rfl) ?_ _
              clear hHeld
              have row3 := row2.set m (.int .u64 (gd ys q))
              have row4 : Hid (RowIs ((w2.setCell ⟨b, q, none⟩ (.int .u64 (gd ys m))).setCell ⟨b, m, none⟩ (.int .u64 (gd ys q))) b 33 ((swp ys m).map iv ++ rest)) := by
                have e := set_iv ys rest m (by have := HMQ.out; omega)
                rw [← HMQ.out] at e
                rw [e] at row3
                exact row3
              have kS : Keep (· = b) w2 ((w2.setCell ⟨b, q, none⟩ (.int .u64 (gd ys m))).setCell ⟨b, m, none⟩ (.int .u64 (gd ys q))) := ((Keep.refl (· = b) w2).setCell (p := ⟨b, q, none⟩) (fun _ => rfl) _).setCell (p := ⟨b, m, none⟩) (fun _ => rfl) _
              have kk3 := Lib.hid (kk2.trans kS)
              have hE2 : Hid (Exc k m (swp ys m)) := exc_step (by rw [← HMQ.out]; exact hE) (by rw [← HMQ.out]; exact hlt2.out) (by have := HMQ.out; omega) (by have := HMQ.out; omega)
              have hpp : Hid ((swp ys m).Perm xs) := (swp_perm ys m (by have := HMQ.out; omega)).trans hp2
              clear row2 row3 kS row kk2
              go_wp2_with fail
              go_roundw
              case rel => exact ⟨m, swp ys m, by have := HMQ.out; omega, rfl, row4.out, hpp.out, hE2.out, kk3.out⟩
              case measure => have := HMQ.out; simp [intOf]; omega
    · have hc : ¬ (k : Int) < (n : Int) := by omega
      go_wp2_with fail
      go_end0
      exact ⟨rfl, ys, row, hp, fun p q h1 h2 => hu p q h1 (by omega), kk⟩
end Go.Proofs.Ythchpdflnpfjkaa
namespace Go.Proofs.Ythchpdflnpfjkaa
open Go.RowKit

theorem ins0_c (a : Option Addr) (cap : Nat) (w : World) :
    Calls Try.prog 70 #[.slice a 0 cap, .int .i64 0, .int .i64 0] w fun e w' => e = .returned (.tuple #[]) ∧ w = w' := by
  go_enter Try.func70, Try.ntmps70
  go_wp2_with fail
  refine wp_loop_rounds 1 ?_
  rw [rounds_succ]
  go_wp2_with fail
  go_end0
  exact ⟨rfl, rfl⟩
theorem pdq_c {R : World → Prop} (a : Option Addr) (n cap : Nat) (k : Int) (w : World) (hn : n ≤ 12) (HI : Calls Try.prog 70 #[.slice a n cap, .int .i64 0, .int .i64 n] w fun e w' => e = .returned (.tuple #[]) ∧ R w') :
    Calls Try.prog 63 #[.slice a n cap, .int .i64 0, .int .i64 n, .int .i64 k] w fun e w' => e = .returned (.tuple #[]) ∧ R w' := by
  have hc : (n : Int) ≤ 12 := by omega
  have hw : IntKind.i64.wrap (n : Int) = (n : Int) := by rw [IntKind.wrap_i64]; omega
  go_enter Try.func63, Try.ntmps63
  go_wp2_with fail
  refine wp_loop_rounds 1 ?_
  rw [rounds_succ]
  go_wp2_with fail
  go_fit HI
  rintro e w1 ⟨rfl, hR⟩
  go_wp2_with fail
  refine bodyPost_ret (results_none rfl _ _ _) rfl ?_
  exact ⟨rfl, hR⟩
set_option maxRecDepth 100000 in
theorem len64_c (n : Nat) (w : World) (hn : n ≤ 12) : Calls Try.prog 80 #[.int .u64 n] w fun e w' => (∃ k, e = .returned (.int .i64 k)) ∧ w = w' := by
  rcases (by omega : n = 0 ∨ n = 1 ∨ n = 2 ∨ n = 3 ∨ n = 4 ∨ n = 5 ∨ n = 6 ∨ n = 7 ∨ n = 8 ∨ n = 9 ∨ n = 10 ∨ n = 11 ∨ n = 12) with h | h | h | h | h | h | h | h | h | h | h | h | h <;> subst h
  all_goals
    go_enter Try.func80, Try.ntmps80
    go_wp2_with fail
    go_ret
    exact ⟨⟨_, rfl⟩, rfl⟩
theorem len_c (n : Nat) (w : World) (hn : n ≤ 12) : Calls Try.prog 64 #[.int .u64 n] w fun e w' => (∃ k, e = .returned (.int .i64 k)) ∧ w = w' := by
  go_enter Try.func64, Try.ntmps64
  go_wp2_with fail
  go_fit (len64_c n w hn)
  rintro e w1 ⟨⟨k, rfl⟩, rfl⟩
  go_wp2_with fail
  go_ret
  exact ⟨⟨k, rfl⟩, rfl⟩
theorem sortV_c {R : World → Prop} (a : Option Addr) (n cap : Nat) (w : World) (hn : n ≤ 12) (HI : Calls Try.prog 70 #[.slice a n cap, .int .i64 0, .int .i64 n] w fun e w' => e = .returned (.tuple #[]) ∧ R w') :
    Calls Try.prog 47 #[.slice a n cap] w fun e w' => e = .returned (.tuple #[]) ∧ R w' := by
  have HP := fun k => pdq_c a n cap k w hn HI
  have hcv : IntKind.u64.wrap (n : Int) = (n : Int) := by simp [IntKind.wrap, IntKind.signed, IntKind.bits]; omega
  go_enter Try.func47, Try.ntmps47
  go_wp2_with fail
  go_fit (len_c n w hn)
  rintro e w1 ⟨⟨k, rfl⟩, rfl⟩
  go_wp2_with fail
  go_fit (HP k)
  rintro e w2 ⟨rfl, hR⟩
  go_wp2_with fail
  go_end0
  exact ⟨rfl, hR⟩
theorem sort_c {base : Nat} (a : Option Addr) (n cap : Nat) (xs : List Int) (w : World) (own : w.ownsRow base 33 1 (.slice a n cap) n (xs.map iv)) (hn : n ≤ 12) :
    Calls Try.prog 47 #[.slice a n cap] w fun e w' => e = .returned (.tuple #[]) ∧ ∃ ys, w'.ownsRow base 33 1 (.slice a n cap) n (ys.map iv) ∧ ys.Perm xs ∧ UpTo n ys ∧ Keep (OwnB (.slice a n cap)) w w' := by
  have hl : xs.length = n := by have := own.1; simpa using this
  by_cases h0 : n = 0
  · subst h0
    have hx : xs = [] := List.eq_nil_of_length_eq_zero hl
    subst hx
    refine (sortV_c (R := fun w' => w = w') a 0 cap w hn (ins0_c a cap w)).mono ?_
    rintro e w' ⟨rfl, rfl⟩
    exact ⟨rfl, [], own, List.Perm.refl _, fun p q h1 h2 => by omega, Keep.refl _ _⟩
  · obtain ⟨b, rest, rfl, hb, row, hlr, hlx, hc, hm⟩ := own_row own (Nat.pos_of_ne_zero h0)
    refine (sortV_c (R := fun w' => ∃ ys, RowIs w' b 33 (ys.map iv ++ rest) ∧ ys.Perm xs ∧ UpTo n ys ∧ Keep (· = b) w w') _ n cap w hn (ins_c b n cap xs rest w row hl (by omega))).mono ?_
    rintro e w' ⟨rfl, ys, row', hp, hu, kk⟩
    have hly : ys.length = xs.length := hp.length_eq
    refine ⟨rfl, ys, row_own row' hb (by rw [← hlr]; simp [hly]) (by simp [hly, hl]) hc hm, hp, hu, kk.mono (fun i hi => by rw [hi]; rfl)⟩
end Go.Proofs.Ythchpdflnpfjkaa
