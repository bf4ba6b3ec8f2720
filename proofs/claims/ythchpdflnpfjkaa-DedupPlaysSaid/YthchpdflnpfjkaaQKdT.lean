/- DEDUP: the tape: Save. Printed by mac.py. -/
import Derived.Test.YthchpdflnpfjkaaQKyX
import Derived.Lib.AppendStr
namespace Go.Proofs.Ythchpdflnpfjkaa
open Go.RowKit

theorem step_app {P : Program} {ops : Array Oper} {o : Oper} {a : Act} {K : Act → World → Prop} {Q : Exit → Act → World → Prop} {E : Prop} {w w' : World} {t : TypeId} {v y r : Value} (hw : Region.wanted o (yielded ops a.tmps) = true) (s x : Operand)
    (ho : o.op = .call { callee := .builtin .append, args := #[s, x], argTypes := #[t, t] }) (hs : a.eval s = v) (hx : a.eval x = y) (hrun : (Builtin.append_ #[t, t] o.type #[v, y]).run P w = .ok r w') (h : K (a.put o.dst r) w') :
    if Region.wanted o (yielded ops a.tmps) = true then Oper.wp P o a w K Q else E := by
  rw [if_pos hw]
  unfold Oper.wp
  simp only [execOp, ho, resolve, invoke, builtin, List.map_toArray, List.map_cons, List.map_nil, hs, hx, hrun, Sem.run_bind, Sem.run_pure, Result.andThen_ok]
  exact h
theorem appN_run {P : Program} {t e sz bytes : Nat} (T : SliceT P t e sz bytes) {w : World} (ty : TypeId) (base : Nat) {v : Value} {n : Nat} {xs : List Value} (hown : w.ownsRow base e sz v n xs)
    {p : Nat → Prop} {ad : Option Addr} {m c : Nat} (news : List Value) (hl : news.length = m * sz) (hlies : Lies w p ad news) (h1 : ∀ u ∈ news, u.oneCell' = true)
    (h63 : n + m ≤ maxLen) (hbytes : (n + m) * bytes ≤ 140737488355328) (hbase : base ≤ w.heap.size) :
    ∃ a' cap' w', (Builtin.append_ #[t, t] ty #[v, .slice ad m c]).run P w = .ok (.slice a' (n + m) cap') w' ∧ w'.ownsRow base e sz (.slice a' (n + m) cap') (n + m) (xs ++ news) ∧ Keep (OwnB v) w w' := by
  obtain ⟨i, z, hi, hz, hsz, hby, hzs⟩ := T.info
  by_cases hm : m = 0
  · subst hm
    have hn : news = [] := List.eq_nil_of_length_eq_zero (by simpa using hl)
    subst hn
    have hrun : (Builtin.append_ #[t, t] ty #[v, .slice ad 0 c]).run P w = .ok v w := by
      rcases hown.2 with ⟨rfl, rfl⟩ | ⟨g, cap, cur, rfl, _, _, hnc, _⟩
      · cases ad <;> simp [Builtin.append_, run_underlying T.under, sizeOf, typeInfo, hi, Builtin.lenOf, Builtin.firstCells, loadCells, loadCellsFrom]
      · cases ad <;> simp [Builtin.append_, run_underlying T.under, sizeOf, typeInfo, hi, Builtin.lenOf, Builtin.firstCells, loadCells, loadCellsFrom, hnc, storeCells]
    obtain ⟨a', cap', rfl⟩ := owned_shape hown
    exact ⟨a', cap', w, hrun, by simpa using hown, Keep.refl _ _⟩
  · have hne : news ≠ [] := fun e => by subst e; have := Nat.mul_pos (Nat.pos_of_ne_zero hm) T.pos; simp at hl; omega
    obtain ⟨b, off, rfl, hp, hb, hc⟩ := hlies hne
    obtain ⟨v', w', hrun, hown', hg, -, -⟩ := run_append_own_at (P := P) w base t ty e i z sz bytes T.under hi hz hsz hby hzs T.pos v n xs hown ⟨b, off, none⟩ m c news hl (fun j u hu => by rw [Addr.add_lit]; exact hc j u hu) h1 h63 hbytes hbase
    obtain ⟨a', cap', rfl⟩ := owned_shape hown'
    exact ⟨a', cap', w', hrun, hown', (Keep.refl _ w).grown hg (fun _ hk _ => hk)⟩
def lenB (n : Nat) : List UInt8 := [UInt8.ofNat n, UInt8.ofNat (n / 256)]
def tapeB (tp : List (List UInt8)) : List UInt8 := (tp.map fun l => lenB l.length ++ l).flatten
theorem lenB_len (n : Nat) : (lenB n).length = 2 := rfl
theorem tapeB_snoc (tp : List (List UInt8)) (l : List UInt8) : tapeB (tp ++ [l]) = tapeB tp ++ lenB l.length ++ l := by simp [tapeB]
theorem tapeB_cons (tp : List (List UInt8)) (l : List UInt8) : tapeB (l :: tp) = lenB l.length ++ (l ++ tapeB tp) := by simp [tapeB]
theorem tapeB_take (tp : List (List UInt8)) (k : Nat) (h : k < tp.length) : tapeB (tp.take (k + 1)) = tapeB (tp.take k) ++ lenB tp[k].length ++ tp[k] := by
  rw [List.take_succ_eq_append_getElem h, tapeB_snoc]
theorem tapeB_app (a b : List (List UInt8)) : tapeB (a ++ b) = tapeB a ++ tapeB b := by simp [tapeB]
theorem tapeB_take_le (tp : List (List UInt8)) (k : Nat) : (tapeB (tp.take k)).length ≤ (tapeB tp).length := by
  have h := congrArg (fun l => (tapeB l).length) (List.take_append_drop k tp)
  simp only [tapeB_app, List.length_append] at h
  omega
theorem strCells_strB (l : List UInt8) : Lib.strCells (strB l) = l.map bv := by
  simp [Lib.strCells, strB, bv]
set_option maxRecDepth 100000 in
set_option maxHeartbeats 2000000 in
theorem tSave_c (bT : Nat) (g : Option Nat) (tp : List (List UInt8)) (w : World) (ht : IsTape w bT g tp) (hb : (tapeB tp).length ≤ 1000000000) (hL : tp.length ≤ 100000) :
    Calls Try.prog 106 #[.pointer (some ⟨bT, 0, none⟩)] w fun e w' => ∃ a c, e = .returned (.slice a (tapeB tp).length c) ∧ w'.ownsRow w.heap.size 5 1 (.slice a (tapeB tp).length c) (tapeB tp).length ((tapeB tp).map bv) ∧ Keep Nix w w' := by
  obtain ⟨aT, cT, row, own, -⟩ := ht.row
  have ROW := Lib.hid row
  have OWN := Lib.hid own
  have HLE := Lib.hid (tapeB_take_le tp)
  clear row own ht
  go_enter Try.func106, Try.ntmps106
  go_wp2_with fail
  go_loopw [3, 4] (fun s i wr => ∃ (k : Nat) (a : Option Addr) (cp : Nat), k ≤ tp.length ∧ i = .int .i64 (k : Int) ∧ s = .slice a (tapeB (tp.take k)).length cp ∧ wr.ownsRow w.heap.size 5 1 (.slice a (tapeB (tp.take k)).length cp) (tapeB (tp.take k)).length ((tapeB (tp.take k)).map bv) ∧ Keep Nix w wr) (fun _ i _ => tp.length - (intOf i).toNat)
  case atStart => exact ⟨0, none, 0, Nat.zero_le _, rfl, rfl, World.ownsRow_nil _ _ _ _, Keep.refl _ _⟩
  case round =>
    obtain ⟨k, a, cp, hk, rfl, rfl, ownR, kk⟩ := hrel
    have hsw := kk.size
    have row := ROW.out.keep kk id
    have x0 := row.cell 0
    (try simp only [List.getElem?_cons_zero] at x0)
    by_cases hlt : k < tp.length
    · have hi0 : (0 : Int) ≤ (k : Int) := by omega
      have hi1 : (k : Int) < (tp.length : Int) := by omega
      have hstep : Hid (tapeB (tp.take (k + 1)) = tapeB (tp.take k) ++ lenB tp[k].length ++ tp[k]) := tapeB_take tp k hlt
      obtain ⟨bS, o, e1, -, hbS, hc⟩ := Lies.of_owned (owned_keep OWN.out kk (fun _ _ h => h)) (by intro h; rw [List.map_eq_nil_iff] at h; rw [h] at hlt; simp at hlt)
      have hkc := hc k (sv tp[k]) (by simp [hlt])
      have hle : (tapeB (tp.take k)).length + 2 + tp[k].length ≤ 1000000000 := by
        have h1 := HLE.out (k + 1)
        rw [hstep.out] at h1
        simp [lenB] at h1
        omega
      subst e1
      generalize tp[k] = l at *
      replace hkc : wr.cell? ⟨bS, o + k, none⟩ = some (.string (strB l)) := hkc
      clear hc
      have hwk : IntKind.i64.wrap ((k : Int) + 1) = (k : Int) + 1 := by rw [IntKind.wrap_i64]; omega
      generalize tapeB (tp.take k) = xs at *
      have hsl : (strB l).size = l.length := strB_size l
      have HKC := Lib.hid hkc
      have OWR := Lib.hid ownR
      have HKK := Lib.hid kk
      have RW := Lib.hid row
      clear ownR kk row
      go_wp2_with fail
      clear x0 hkc
      have kd : Keep Nix wr wr.drew := (Keep.refl Nix wr).drew
      have HS : Hid (∀ w', Keep (fun b => w.heap.size ≤ b) wr w' → w'.cell? ⟨bT, 0, none⟩ = some (.slice (some ⟨bS, o, none⟩) tp.length cT) ∧ w'.cell? ⟨bS, o + k, none⟩ = some (.string (strB l))) := fun w' kq => ⟨(kq.cell (p := ⟨bT, 0, none⟩) (RW.out.lt) (by have := ROW.out.lt; show ¬ w.heap.size ≤ bT; omega)).trans (by simpa using RW.out.cell 0), (kq.cell (p := ⟨bS, o + k, none⟩) hbS (by have := (OWN.out.lt bS rfl).2; show ¬ w.heap.size ≤ bS; omega)).trans HKC.out⟩
      refine wp_region_held_drew (S := (fun w' => w'.cell? ⟨bT, 0, none⟩ = some (.slice (some ⟨bS, o, none⟩) tp.length cT) ∧ w'.cell? ⟨bS, o + k, none⟩ = some (.string (strB l)))) (by kernel_rfl) (HS.out _ kd.nix) (fun hHeld => ?_)
      have ownD := owned_keep OWR.out kd (fun _ _ h => h)
      have kwd := Lib.hid (HKK.out.trans kd)
      have hszd : w.heap.size ≤ wr.drew.heap.size := hsw
      have HS2 : Hid (∀ w', Keep (fun b => w.heap.size ≤ b) wr.drew w' → w'.cell? ⟨bT, 0, none⟩ = some (.slice (some ⟨bS, o, none⟩) tp.length cT) ∧ w'.cell? ⟨bS, o + k, none⟩ = some (.string (strB l))) := fun w' kq => HS.out w' (kd.nix.trans kq)
      have hwx : Hid (∀ i, i < w.heap.size → i < wr.drew.heap.size) := fun i hi => Nat.lt_of_lt_of_le hi hszd
      clear HS kd OWR
      generalize wr.drew = wd at *
      refine wpAnyH_take (i := 0) (v := ?_) rfl (by kernel_rfl) (by kernel_rfl) (by kernel_rfl) (fun _ _ _ h => h) (Or.inl ⟨by kernel_rfl, ?_⟩) hHeld ?_
      rotate_left
      · intro w' hSw
        (try dsimp only at hSw)
        (try simp only [List.getElem_toArray]); (try simp only [List.getElem_cons_succ]); (try simp only [List.getElem_cons_zero])
        go_simp
        try with_reducible rfl
      (try simp only [Act.put]); (try simp only [List.getElem_toArray]); (try simp only [List.getElem_cons_succ]); (try simp only [List.getElem_cons_zero]); (try simp only [List.setIfInBounds_toArray]); (try simp only [List.set_cons_succ]); (try simp only [List.set_cons_zero])
      refine wpAnyH_take (i := 1) (v := ?_) rfl (by kernel_rfl) (by kernel_rfl) (by kernel_rfl) (fun _ _ _ h => h) (Or.inl ⟨by kernel_rfl, ?_⟩) hHeld ?_
      rotate_left
      · intro w' hSw
        (try dsimp only at hSw)
        (try simp only [List.getElem_toArray]); (try simp only [List.getElem_cons_succ]); (try simp only [List.getElem_cons_zero])
        go_simp
        try with_reducible rfl
      (try simp only [Act.put]); (try simp only [List.getElem_toArray]); (try simp only [List.getElem_cons_succ]); (try simp only [List.getElem_cons_zero]); (try simp only [List.setIfInBounds_toArray]); (try simp only [List.set_cons_succ]); (try simp only [List.set_cons_zero])
      refine wpAnyH_take (i := 2) (v := ?_) rfl (by kernel_rfl) (by kernel_rfl) (by kernel_rfl) (fun _ _ _ h => h) (Or.inl ⟨by kernel_rfl, ?_⟩) hHeld ?_
      rotate_left
      · intro w' hSw
        (try dsimp only at hSw)
        (try simp only [List.getElem_toArray]); (try simp only [List.getElem_cons_succ]); (try simp only [List.getElem_cons_zero])
        go_simp
        try with_reducible rfl
      (try simp only [Act.put]); (try simp only [List.getElem_toArray]); (try simp only [List.getElem_cons_succ]); (try simp only [List.getElem_cons_zero]); (try simp only [List.setIfInBounds_toArray]); (try simp only [List.set_cons_succ]); (try simp only [List.set_cons_zero])
      refine wpAnyH_take (i := 3) (v := ?_) rfl (by kernel_rfl) (by kernel_rfl) (by kernel_rfl) (fun _ _ _ h => h) (Or.inl ⟨by kernel_rfl, ?_⟩) hHeld ?_
      rotate_left
      · intro w' hSw
        (try dsimp only at hSw)
        (try simp only [List.getElem_toArray]); (try simp only [List.getElem_cons_succ]); (try simp only [List.getElem_cons_zero])
        go_simp
        try with_reducible rfl
      (try simp only [Act.put]); (try simp only [List.getElem_toArray]); (try simp only [List.getElem_cons_succ]); (try simp only [List.getElem_cons_zero]); (try simp only [List.setIfInBounds_toArray]); (try simp only [List.set_cons_succ]); (try simp only [List.set_cons_zero])
      refine wpAnyH_take (i := 4) (v := ?_) rfl (by kernel_rfl) (by kernel_rfl) (by kernel_rfl) (fun _ _ _ h => h) (Or.inl ⟨by kernel_rfl, ?_⟩) hHeld ?_
      rotate_left
      · intro w' hSw
        (try dsimp only at hSw)
        (try simp only [List.getElem_toArray]); (try simp only [List.getElem_cons_succ]); (try simp only [List.getElem_cons_zero])
        go_simp
        try with_reducible rfl
      (try simp only [Act.put]); (try simp only [List.getElem_toArray]); (try simp only [List.getElem_cons_succ]); (try simp only [List.getElem_cons_zero]); (try simp only [List.setIfInBounds_toArray]); (try simp only [List.set_cons_succ]); (try simp only [List.set_cons_zero])
      refine wpAnyH_take (i := 5) (v := ?_) rfl (by kernel_rfl) (by kernel_rfl) (by kernel_rfl) (fun _ _ _ h => h) (Or.inl ⟨by kernel_rfl, ?_⟩) hHeld ?_
      rotate_left
      · intro w' hSw
        (try dsimp only at hSw)
        (try simp only [List.getElem_toArray]); (try simp only [List.getElem_cons_succ]); (try simp only [List.getElem_cons_zero])
        go_simp
        try with_reducible rfl
      (try simp only [Act.put]); (try simp only [List.getElem_toArray]); (try simp only [List.getElem_cons_succ]); (try simp only [List.getElem_cons_zero]); (try simp only [List.setIfInBounds_toArray]); (try simp only [List.set_cons_succ]); (try simp only [List.set_cons_zero])
      refine wpAnyH_take (i := 6) (v := ?_) rfl (by kernel_rfl) (by kernel_rfl) (by kernel_rfl) (fun _ _ _ h => h) (Or.inl ⟨by kernel_rfl, ?_⟩) hHeld ?_
      rotate_left
      · intro w' hSw
        (try dsimp only at hSw)
        (try simp only [List.getElem_toArray]); (try simp only [List.getElem_cons_succ]); (try simp only [List.getElem_cons_zero])
        go_simp
        try with_reducible rfl
      (try simp only [Act.put]); (try simp only [List.getElem_toArray]); (try simp only [List.getElem_cons_succ]); (try simp only [List.getElem_cons_zero]); (try simp only [List.setIfInBounds_toArray]); (try simp only [List.set_cons_succ]); (try simp only [List.set_cons_zero])
      refine wpAnyH_take (i := 7) (v := ?_) rfl (by kernel_rfl) (by kernel_rfl) (by kernel_rfl) (fun _ _ _ h => h) (Or.inl ⟨by kernel_rfl, ?_⟩) hHeld ?_
      rotate_left
      · intro w' hSw
        (try dsimp only at hSw)
        (try simp only [List.getElem_toArray]); (try simp only [List.getElem_cons_succ]); (try simp only [List.getElem_cons_zero])
        go_simp
        try with_reducible rfl
      (try simp only [Act.put]); (try simp only [List.getElem_toArray]); (try simp only [List.getElem_cons_succ]); (try simp only [List.getElem_cons_zero]); (try simp only [List.setIfInBounds_toArray]); (try simp only [List.set_cons_succ]); (try simp only [List.set_cons_zero])
      refine wpAnyH_take (i := 8) (v := ?_) rfl (by kernel_rfl) (by kernel_rfl) (by kernel_rfl) (fun _ _ _ h => h) (Or.inl ⟨by kernel_rfl, ?_⟩) hHeld ?_
      rotate_left
      · intro w' hSw
        (try dsimp only at hSw)
        (try simp only [List.getElem_toArray]); (try simp only [List.getElem_cons_succ]); (try simp only [List.getElem_cons_zero])
        go_simp
        try with_reducible rfl
      (try simp only [Act.put]); (try simp only [List.getElem_toArray]); (try simp only [List.getElem_cons_succ]); (try simp only [List.getElem_cons_zero]); (try simp only [List.setIfInBounds_toArray]); (try simp only [List.set_cons_succ]); (try simp only [List.set_cons_zero])
      refine wpAnyH_take (i := 9) (v := ?_) rfl (by kernel_rfl) (by kernel_rfl) (by kernel_rfl) (fun _ _ _ h => h) (Or.inl ⟨by kernel_rfl, ?_⟩) hHeld ?_
      rotate_left
      · intro w' hSw
        (try dsimp only at hSw)
        (try simp only [List.getElem_toArray]); (try simp only [List.getElem_cons_succ]); (try simp only [List.getElem_cons_zero])
        go_simp
        try with_reducible rfl
      (try simp only [Act.put]); (try simp only [List.getElem_toArray]); (try simp only [List.getElem_cons_succ]); (try simp only [List.getElem_cons_zero]); (try simp only [List.setIfInBounds_toArray]); (try simp only [List.set_cons_succ]); (try simp only [List.set_cons_zero])
      refine wpAnyH_take (i := 10) (v := ?_) rfl (by kernel_rfl) (by kernel_rfl) (by kernel_rfl) (fun _ _ _ h => h) (Or.inl ⟨by kernel_rfl, ?_⟩) hHeld ?_
      rotate_left
      · intro w' hSw
        (try dsimp only at hSw)
        (try simp only [List.getElem_toArray]); (try simp only [List.getElem_cons_succ]); (try simp only [List.getElem_cons_zero])
        go_simp
        try with_reducible rfl
      (try simp only [Act.put]); (try simp only [List.getElem_toArray]); (try simp only [List.getElem_cons_succ]); (try simp only [List.getElem_cons_zero]); (try simp only [List.setIfInBounds_toArray]); (try simp only [List.set_cons_succ]); (try simp only [List.set_cons_zero])
      refine wpAnyH_take (i := 11) (v := ?_) rfl (by kernel_rfl) (by kernel_rfl) (by kernel_rfl) (fun _ _ _ h => h) (Or.inl ⟨by kernel_rfl, ?_⟩) hHeld ?_
      rotate_left
      · intro w' hSw
        (try dsimp only at hSw)
        (try simp only [List.getElem_toArray]); (try simp only [List.getElem_cons_succ]); (try simp only [List.getElem_cons_zero])
        go_simp
        try with_reducible rfl
      (try simp only [Act.put]); (try simp only [List.getElem_toArray]); (try simp only [List.getElem_cons_succ]); (try simp only [List.getElem_cons_zero]); (try simp only [List.setIfInBounds_toArray]); (try simp only [List.set_cons_succ]); (try simp only [List.set_cons_zero])
      refine wpAnyH_take (i := 12) (v := ?_) rfl (by kernel_rfl) (by kernel_rfl) (by kernel_rfl) (fun _ _ _ h => h) (Or.inl ⟨by kernel_rfl, ?_⟩) hHeld ?_
      rotate_left
      · intro w' hSw
        (try dsimp only at hSw)
        (try simp only [List.getElem_toArray]); (try simp only [List.getElem_cons_succ]); (try simp only [List.getElem_cons_zero])
        go_simp
        try with_reducible rfl
      (try simp only [Act.put]); (try simp only [List.getElem_toArray]); (try simp only [List.getElem_cons_succ]); (try simp only [List.getElem_cons_zero]); (try simp only [List.setIfInBounds_toArray]); (try simp only [List.set_cons_succ]); (try simp only [List.set_cons_zero])
      refine wpAnyH_take (i := 13) (v := ?_) rfl (by kernel_rfl) (by kernel_rfl) (by kernel_rfl) (fun _ _ _ h => h) (Or.inl ⟨by kernel_rfl, ?_⟩) hHeld ?_
      rotate_left
      · intro w' hSw
        (try dsimp only at hSw)
        (try simp only [List.getElem_toArray]); (try simp only [List.getElem_cons_succ]); (try simp only [List.getElem_cons_zero])
        go_simp
        try with_reducible rfl
      (try simp only [Act.put]); (try simp only [List.getElem_toArray]); (try simp only [List.getElem_cons_succ]); (try simp only [List.getElem_cons_zero]); (try simp only [List.setIfInBounds_toArray]); (try simp only [List.set_cons_succ]); (try simp only [List.set_cons_zero])
      refine wpAnyH_take (i := 14) (v := ?_) rfl (by kernel_rfl) (by kernel_rfl) (by kernel_rfl) (fun _ _ _ h => h) (Or.inl ⟨by kernel_rfl, ?_⟩) hHeld ?_
      rotate_left
      · intro w' hSw
        (try dsimp only at hSw)
        (try simp only [List.getElem_toArray]); (try simp only [List.getElem_cons_succ]); (try simp only [List.getElem_cons_zero])
        go_simp
        try with_reducible rfl
      (try simp only [Act.put]); (try simp only [List.getElem_toArray]); (try simp only [List.getElem_cons_succ]); (try simp only [List.getElem_cons_zero]); (try simp only [List.setIfInBounds_toArray]); (try simp only [List.set_cons_succ]); (try simp only [List.set_cons_zero])
      refine wpAnyH_take (i := 15) (v := ?_) rfl (by kernel_rfl) (by kernel_rfl) (by kernel_rfl) (fun _ _ _ h => h) (Or.inl ⟨by kernel_rfl, ?_⟩) hHeld ?_
      rotate_left
      · intro w' hSw
        (try dsimp only at hSw)
        (try simp only [List.getElem_toArray]); (try simp only [List.getElem_cons_succ]); (try simp only [List.getElem_cons_zero])
        go_simp
        try with_reducible rfl
      (try simp only [Act.put]); (try simp only [List.getElem_toArray]); (try simp only [List.getElem_cons_succ]); (try simp only [List.getElem_cons_zero]); (try simp only [List.setIfInBounds_toArray]); (try simp only [List.set_cons_succ]); (try simp only [List.set_cons_zero])
      refine wpAnyH_take (i := 16) (v := ?_) rfl (by kernel_rfl) (by kernel_rfl) (by kernel_rfl) (fun _ _ _ h => h) (Or.inl ⟨by kernel_rfl, ?_⟩) hHeld ?_
      rotate_left
      · intro w' hSw
        (try dsimp only at hSw)
        (try simp only [List.getElem_toArray]); (try simp only [List.getElem_cons_succ]); (try simp only [List.getElem_cons_zero])
        go_simp
        try with_reducible rfl
      (try simp only [Act.put]); (try simp only [List.getElem_toArray]); (try simp only [List.getElem_cons_succ]); (try simp only [List.getElem_cons_zero]); (try simp only [List.setIfInBounds_toArray]); (try simp only [List.set_cons_succ]); (try simp only [List.set_cons_zero])
      refine wpAnyH_take (i := 17) (v := ?_) rfl (by kernel_rfl) (by kernel_rfl) (by kernel_rfl) (fun _ _ _ h => h) (Or.inl ⟨by kernel_rfl, ?_⟩) hHeld ?_
      rotate_left
      · intro w' hSw
        (try dsimp only at hSw)
        (try simp only [List.getElem_toArray]); (try simp only [List.getElem_cons_succ]); (try simp only [List.getElem_cons_zero])
        go_simp
        try with_reducible rfl
      (try simp only [Act.put]); (try simp only [List.getElem_toArray]); (try simp only [List.getElem_cons_succ]); (try simp only [List.getElem_cons_zero]); (try simp only [List.setIfInBounds_toArray]); (try simp only [List.set_cons_succ]); (try simp only [List.set_cons_zero])
      refine wpAnyH_take (i := 18) (v := ?_) rfl (by kernel_rfl) (by kernel_rfl) (by kernel_rfl) (fun _ _ _ h => h) (Or.inl ⟨by kernel_rfl, ?_⟩) hHeld ?_
      rotate_left
      · intro w' hSw
        (try dsimp only at hSw)
        (try simp only [List.getElem_toArray]); (try simp only [List.getElem_cons_succ]); (try simp only [List.getElem_cons_zero])
        go_simp
        try with_reducible rfl
      (try simp only [Act.put]); (try simp only [List.getElem_toArray]); (try simp only [List.getElem_cons_succ]); (try simp only [List.getElem_cons_zero]); (try simp only [List.setIfInBounds_toArray]); (try simp only [List.set_cons_succ]); (try simp only [List.set_cons_zero])
      refine wpAnyH_take (i := 19) (v := ?_) rfl (by kernel_rfl) (by kernel_rfl) (by kernel_rfl) (fun _ _ _ h => h) (Or.inl ⟨by kernel_rfl, ?_⟩) hHeld ?_
      rotate_left
      · intro w' hSw
        (try dsimp only at hSw)
        (try simp only [List.getElem_toArray]); (try simp only [List.getElem_cons_succ]); (try simp only [List.getElem_cons_zero])
        go_simp
        try with_reducible rfl
      (try simp only [Act.put]); (try simp only [List.getElem_toArray]); (try simp only [List.getElem_cons_succ]); (try simp only [List.getElem_cons_zero]); (try simp only [List.setIfInBounds_toArray]); (try simp only [List.set_cons_succ]); (try simp only [List.set_cons_zero])
      refine wpAnyH_ready (rs := [20]) (by kernel_rfl) (by simp) ?_
      refine AllReadyH.cons rfl (fun K hK => ?_) AllReadyH.nil
      (try simp only [List.getElem_toArray]); (try simp only [List.getElem_cons_succ]); (try simp only [List.getElem_cons_zero])
      go_simp
      rw [show IntKind.u8.wrap (l.length : Int) = ((UInt8.ofNat l.length).toNat : Int) from by rw [← wrap_u8], show IntKind.u8.wrap ((l.length : Int) / 256) = ((UInt8.ofNat (l.length / 256)).toNat : Int) from by rw [← wrap_u8]; rfl]
      have kA : Keep Nix wd (wd.alloc (.cells #[.int .u8 ((UInt8.ofNat l.length).toNat : Int), .int .u8 ((UInt8.ofNat (l.length / 256)).toNat : Int)] 5)) := (Keep.refl Nix wd).alloc _
      refine hK.out _ _ ((HS2.out _ kA.nix)) (fun hHeld => ?_)
      clear hK K
      (try simp only [Act.put]); (try simp only [List.getElem_toArray]); (try simp only [List.getElem_cons_succ]); (try simp only [List.getElem_cons_zero]); (try simp only [List.setIfInBounds_toArray]); (try simp only [List.set_cons_succ]); (try simp only [List.set_cons_zero])
      obtain ⟨a2, c2, w2, hrun, own2, k2⟩ := appN_run T_bytes (w := wd.alloc (.cells #[.int .u8 ((UInt8.ofNat l.length).toNat : Int), .int .u8 ((UInt8.ofNat (l.length / 256)).toNat : Int)] 5)) 31 w.heap.size (owned_keep ownD kA (fun _ _ h => h)) ((lenB l.length).map bv) (m := 2) (c := 2) rfl (Lies.block wd #[.int .u8 ((UInt8.ofNat l.length).toNat : Int), .int .u8 ((UInt8.ofNat (l.length / 256)).toNat : Int)] 5 (fun _ => True) trivial) (bv_one _) (by unfold maxLen; omega) (by omega) (Nat.le_trans hszd kA.size)
      refine wpAnyH_ready (rs := [21]) (by kernel_rfl) (by simp) ?_
      refine AllReadyH.cons rfl (fun K hK => ?_) AllReadyH.nil
      refine step_app (by kernel_rfl) _ _ rfl rfl rfl hrun ?_
      have hge : ∀ b, OwnB (.slice a xs.length cp) b → w.heap.size ≤ b := fun b hb => (ownD.lt b hb).1
      have k2' := k2.mono hge
      refine hK.out _ _ ((HS2.out _ (kA.nix.trans k2'))) (fun hHeld => ?_)
      clear hK K
      (try simp only [Act.put]); (try simp only [List.getElem_toArray]); (try simp only [List.getElem_cons_succ]); (try simp only [List.getElem_cons_zero]); (try simp only [List.setIfInBounds_toArray]); (try simp only [List.set_cons_succ]); (try simp only [List.set_cons_zero])
      refine wpAnyH_take (i := 22) (v := ?_) rfl (by kernel_rfl) (by kernel_rfl) (by kernel_rfl) (fun _ _ _ h => h) (Or.inl ⟨by kernel_rfl, ?_⟩) hHeld ?_
      rotate_left
      · intro w' hSw
        (try dsimp only at hSw)
        (try simp only [List.getElem_toArray]); (try simp only [List.getElem_cons_succ]); (try simp only [List.getElem_cons_zero])
        go_simp
        try with_reducible rfl
      (try simp only [Act.put]); (try simp only [List.getElem_toArray]); (try simp only [List.getElem_cons_succ]); (try simp only [List.getElem_cons_zero]); (try simp only [List.setIfInBounds_toArray]); (try simp only [List.set_cons_succ]); (try simp only [List.set_cons_zero])
      refine wpAnyH_done (by kernel_rfl) ?_ _
      have hS2 := HS2.out _ (kA.nix.trans k2')
      have kw2 := Lib.hid ((kwd.out.trans kA).then k2 (fun i hi h => by have := hge i h; omega))
      have hsz2 : w.heap.size ≤ w2.heap.size := Nat.le_trans (Nat.le_trans hszd kA.size) k2.size
      have OW2 := Lib.hid own2
      clear hHeld hrun kA k2 k2' hge ownD own2 HS2 kwd
      obtain ⟨y0, y1⟩ := hS2
      obtain ⟨iT, hiT, hzT, hszT, hbyT⟩ : ∃ i, Try.prog.info? 5 = some i ∧ i.zero = some (.int .u8 0) ∧ i.size = 1 ∧ i.bytes = 1 := info_parts (by kernel_rfl)
      go_wp2_with (at_builtin; refine Lib.wpList_append_own_string _ rfl (.tmp 38) (.tmp 45) 31 9 rfl w.heap.size 5 iT T_bytes.under Try.underlying9 hiT hzT hszT hbyT _ _ _ rfl OW2.out (strB l) rfl ?c1 ?c2 ?c3 ?_)
      case c1 => rw [hsl]; unfold maxLen; omega
      case c2 => rw [hsl]; omega
      case c3 => exact hsz2
      intro v3 w3 own3 hg3 hz3
      obtain ⟨a3, c3, rfl⟩ := owned_shape own3
      rw [strCells_strB] at own3
      (try rw [hsl] at own3)
      have k3 : Keep Nix w w3 := kw2.out.grown hg3 (fun i hi hlt3 => by have := (OW2.out.lt i hi).1; omega)
      have OW3 := Lib.hid own3
      have K3 := Lib.hid k3
      clear own3 hg3 hz3 k3 OW2 kw2 y0 y1 hiT hzT hszT hbyT
      go_wp2_with fail
      go_roundw
      case rel => exact ⟨k + 1, a3, c3, by omega, by go_num, by rw [hstep.out]; simp [lenB_len, Nat.add_assoc], by rw [hstep.out]; simpa [lenB_len, Nat.add_assoc] using OW3.out, K3.out⟩
      case measure => simp [intOf]; omega
    · obtain rfl : k = tp.length := by omega
      rw [List.take_length] at ownR ⊢
      have HO := Lib.hid ownR
      have HKK := Lib.hid kk
      clear ownR kk row
      go_wp2_with fail
      go_ret
      exact ⟨a, cp, rfl, HO.out, HKK.out⟩
end Go.Proofs.Ythchpdflnpfjkaa
