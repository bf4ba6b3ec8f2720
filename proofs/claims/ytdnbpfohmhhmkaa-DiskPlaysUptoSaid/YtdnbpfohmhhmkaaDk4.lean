/- DISK: Write of the program's disk. Printed by mac.py. -/
import Derived.Test.YtdnbpfohmhhmkaaDk3
import Derived.Deep.RegionHeld3
namespace Go.Proofs.Ytdnbpfohmhhmkaa
open Go.RowKit

theorem T_lwrite : SliceT Try.prog 60 67 65 72 := SliceT.mk' Try.underlying60 (z := .agg (.int .i64 0 :: List.replicate 64 (bv 0)).toArray) (by kernel_rfl) rfl (by decide)
theorem B_write : BuildT Try.prog 67 [1, 64] := by
  obtain ⟨i, hi, hz, -, -⟩ := info_parts (by kernel_rfl : (Try.prog.info? 67).map (fun i => (i.zero, i.size, i.bytes)) = some (some (.agg (.int .i64 0 :: List.replicate 64 (bv 0)).toArray), 65, 72))
  exact ⟨_, i, _, [(0, 1), (1, 64)], Try.underlying67, hi, hz, rfl, by kernel_rfl, rfl, by decide⟩
/-- 'append(s, x)', one element, as an equation. -/
theorem append1_run {P : Program} {t e sz bytes : Nat} (T : SliceT P t e sz bytes) {w : World} {cs : List Value} (t' ty : TypeId) (base : Nat) {v : Value} {n : Nat} {xs : List Value} (hown : w.ownsRow base e sz v n xs) (hl : cs.length = sz) (h1 : ones cs = true)
    (h63 : n + 1 ≤ maxLen) (hbytes : (n + 1) * bytes ≤ 140737488355328) (hbase : base ≤ w.heap.size) :
    ∃ a' cap' w', (Builtin.append_ #[t, t] ty #[v, .slice (some ⟨w.heap.size, 0, none⟩) 1 1]).run P (w.alloc (.cells cs.toArray t')) = .ok (.slice a' (n + 1) cap') w' ∧ w'.ownsRow base e sz (.slice a' (n + 1) cap') (n + 1) (xs ++ cs) ∧ Keep (OwnB v) w w' ∧ (∀ b, OwnB (.slice a' (n + 1) cap') b → OwnB v b ∨ w.heap.size ≤ b) := by
  obtain ⟨i, z, hi, hz, hsz, hby, hzs⟩ := T.info
  obtain ⟨v', w', hrun, hown', hg, -, hf⟩ := run_append_own_at (P := P) (w.alloc (.cells cs.toArray t')) base t ty e i z sz bytes T.under hi hz hsz hby hzs T.pos v n xs (hown.alloc _) ⟨w.heap.size, 0, none⟩ 1 1 cs (by omega) (fun j u hu => by
      rw [Addr.add_lit, World.cell?_alloc_at _ _ _ _ rfl, Nat.zero_add]; simpa using hu) (fun u hu => List.all_eq_true.1 h1 u hu) h63 hbytes (by simp; omega)
  obtain ⟨a', cap', rfl⟩ := owned_shape hown'
  refine ⟨a', cap', w', hrun, hown', ((Keep.refl _ w).alloc _).grown hg (fun _ hk _ => hk), fun b hb => ?_⟩
  rcases hf with h | h
  · have hb' : (Value.slice a' (n + 1) cap').ownBlock = some b := hb
    exact .inl (h.symm.trans hb')
  · right
    have hb' : (Value.slice a' (n + 1) cap').ownBlock = some b := hb
    rw [h] at hb'
    simp at hb'
    omega
/-- The same at a step of a region that draws. -/
theorem step_append1 {P : Program} {t e sz bytes : Nat} (T : SliceT P t e sz bytes) {ops : Array Oper} {o : Oper} {a : Act} {K : Act → World → Prop} {Q : Exit → Act → World → Prop} {E : Prop} {w : World} {cs : List Value} {t' : TypeId} (hgd : o.guard = none) (s x : Operand)
    (ho : o.op = .call { callee := .builtin .append, args := #[s, x], argTypes := #[t, t] })
    (base : Nat) {v : Value} {n : Nat} {xs : List Value} (hs : a.eval s = v) (hx : a.eval x = .slice (some ⟨w.heap.size, 0, none⟩) 1 1) (hown : w.ownsRow base e sz v n xs) (hl : cs.length = sz) (h1 : ones cs = true)
    (h63 : n + 1 ≤ maxLen) (hbytes : (n + 1) * bytes ≤ 140737488355328) (hbase : base ≤ w.heap.size)
    (h : ∀ a' cap' w', w'.ownsRow base e sz (.slice a' (n + 1) cap') (n + 1) (xs ++ cs) → Keep (OwnB v) w w' → (∀ b, OwnB (.slice a' (n + 1) cap') b → OwnB v b ∨ w.heap.size ≤ b) → K (a.put o.dst (.slice a' (n + 1) cap')) w') :
    if Region.wanted o (yielded ops a.tmps) = true then Oper.wp P o a (w.alloc (.cells cs.toArray t')) K Q else E := by
  rw [if_pos (by simp [Region.wanted, hgd])]
  obtain ⟨a', cap', w', hrun, h2, h3, h4⟩ := append1_run T t' o.type base hown hl h1 h63 hbytes hbase
  unfold Oper.wp
  simp only [execOp, ho, resolve, invoke, builtin, List.map_toArray, List.map_cons, List.map_nil, hs, hx, hrun, Sem.run_bind, Sem.run_pure, Result.andThen_ok]
  exact h _ _ _ h2 h3 h4
def writeF (S : List (List UInt8)) (Q : List (Int × List UInt8)) (dn : Bool) (ar n : Int) (l : List UInt8) : Int × List (Int × List UInt8) × Bool × Int :=
  if dn = true then (3, Q, dn, ar) else if n < 0 ∨ (S.length : Int) ≤ n ∨ l.length ≠ 64 then (1, Q, dn, ar) else (if (hitF dn ar).2.2 then 3 else 0, Q ++ [(n, l)], (hitF dn ar).1, (hitF dn ar).2.1)
def WritePost (p : Nat → Prop) (g : Nat) (S : List (List UInt8)) (w : World) (r : Int × List (Int × List UInt8) × Bool × Int) (e : Ending) (w' : World) : Prop := e = .returned (.int .i64 r.1) ∧ IsDisk w' (fun b => p b ∨ w.heap.size ≤ b) g S r.2.1 r.2.2.1 r.2.2.2 ∧ Keep p w w'
theorem wrts_snoc (Q : List (Int × List UInt8)) (q : Int × List UInt8) : wrts (Q ++ [q]) = wrts Q ++ wcells q := by simp [wrts]
section
attribute [local go_sem ↓] ldz_sector stz_sector bdz_write lsz_write
set_option maxRecDepth 100000 in
set_option maxHeartbeats 4000000 in
theorem write_c {p q : Nat → Prop} (g : Nat) (S : List (List UInt8)) (Q : List (Int × List UInt8)) (dn : Bool) (ar n : Int) (a : Option Addr) (c : Nat) (l : List UInt8) (w : World) (hd : IsDisk w p g S Q dn ar) (ok : DiskOk S Q ar) (hQ : Q.length ≤ 1000) (hl : Lies w q a (l.map bv)) (hqp : ∀ b, q b → ¬ p b) (hc : l.length ≤ c) (_hm : c ≤ 140737488351232) :
    Calls Try.prog 9 #[.pointer (some ⟨g, 0, none⟩), .int .i64 n, .slice a l.length c] w (WritePost p g S w (writeF S Q dn ar n l)) := by
  obtain ⟨aS, cS, aQ, cQ, row, hown, howq, hp, hap, haq⟩ := hd
  cases dn with
  | true =>
    have HF : Hid (writeF S Q true ar n l = (3, Q, true, ar)) := rfl
    go_enter Try.func9, Try.ntmps9
    go_wp2_with fail
    go_fit (up_c g _ _ _ true _ row)
    rintro e w1 ⟨rfl, rfl⟩
    go_wp2_with fail
    go_fit (fine_c 3 _)
    rintro e w1 ⟨rfl, rfl⟩
    go_wp2_with fail
    go_ret
    rw [HF.out]
    exact ⟨rfl, ⟨aS, cS, aQ, cQ, row, hown, howq, .inl hp, fun b hb => ⟨.inl (hap b hb).1, (hap b hb).2⟩, fun b hb => ⟨.inl (haq b hb).1, (haq b hb).2⟩⟩, Keep.refl _ _⟩
  | false =>
    have hnS : S.length ≤ 65536 := ok.n
    have x0 := row.cell 0
    (try simp only [List.getElem?_cons_succ] at x0); (try simp only [List.getElem?_cons_zero] at x0)
    by_cases hbad : n < 0 ∨ (S.length : Int) ≤ n ∨ l.length ≠ 64
    · have HF : Hid (writeF S Q false ar n l = (1, Q, false, ar)) := by show writeF S Q false ar n l = _; unfold writeF; rw [if_neg (by decide), if_pos hbad]
      have hend : WritePost p g S w (writeF S Q false ar n l) (.returned (.int .i64 1)) w := by
        rw [HF.out]
        exact ⟨rfl, ⟨aS, cS, aQ, cQ, row, hown, howq, .inl hp, fun b hb => ⟨.inl (hap b hb).1, (hap b hb).2⟩, fun b hb => ⟨.inl (haq b hb).1, (haq b hb).2⟩⟩, Keep.refl _ _⟩
      have HE := Lib.hid hend
      clear hend
      have hways : (n < 0) ∨ (0 ≤ n ∧ (S.length : Int) ≤ n) ∨ (0 ≤ n ∧ n < (S.length : Int) ∧ (l.length : Int) ≠ 64) := by omega
      clear hbad
      rcases hways with h1 | ⟨h1, h2⟩ | ⟨h1, h2, h3⟩
      · go_enter Try.func9, Try.ntmps9
        go_wp2_with fail
        go_fit (up_c g _ _ _ false _ row)
        rintro e w1 ⟨rfl, rfl⟩
        go_wp2_with fail
        go_fit (fine_c 0 _)
        rintro e w1 ⟨rfl, rfl⟩
        go_wp2_with fail
        go_ret
        exact HE.out
      · go_enter Try.func9, Try.ntmps9
        go_wp2_with fail
        go_fit (up_c g _ _ _ false _ row)
        rintro e w1 ⟨rfl, rfl⟩
        go_wp2_with fail
        go_fit (fine_c 0 _)
        rintro e w1 ⟨rfl, rfl⟩
        go_wp2_with fail
        go_ret
        exact HE.out
      · have h4 : ((l.length : Int) != 64) = true := by rw [bne_iff_ne]; exact h3
        have h5 : (l.length != 64) = true := by rw [bne_iff_ne]; omega
        go_enter Try.func9, Try.ntmps9
        go_wp2_with fail
        go_fit (up_c g _ _ _ false _ row)
        rintro e w1 ⟨rfl, rfl⟩
        go_wp2_with fail
        go_fit (fine_c 0 _)
        rintro e w1 ⟨rfl, rfl⟩
        go_wp2_with fail
        go_ret
        exact HE.out
    · have HF : Hid (writeF S Q false ar n l = (if (hitF false ar).2.2 then 3 else 0, Q ++ [(n, l)], (hitF false ar).1, (hitF false ar).2.1)) := by show writeF S Q false ar n l = _; unfold writeF; rw [if_neg (by decide), if_neg hbad]
      have h1 : 0 ≤ n := by omega
      have h2 : n < (S.length : Int) := by omega
      have h3 : l.length = 64 := by omega
      clear hbad
      obtain ⟨b, off, rfl, hqb, hb, hcl⟩ := hl (by intro e; rw [List.map_eq_nil_iff] at e; subst e; cases h3)
      have HL := Lib.hid h3
      have hr : ∀ w', Keep p w w' → w'.rangeAt b off (l.map bv) := fun w' k j v hv => (k.cell (p := ⟨b, off + j, none⟩) hb (hqp b hqb)).trans (hcl j v hv)
      have hS : ∀ w', Keep p w w' → ((wholeSem 65 (.pointer (some ⟨b, off, none⟩))).run Try.prog w' = .ok (.value (.agg (l.map bv).toArray)) w') := fun w' k => A_sector.load (by rw [List.length_map]; exact h3) (hr w' k)
      have HS := Lib.hid hS
      have k0 : Keep Nix w w.drew := (Keep.refl Nix w).drew
      have kd : Keep p w w.drew := k0.nix
      have rowD := row.keep k0 id
      have hqd := owned_keep howq k0 (fun _ _ h => h)
      have hsd := owned_keep hown k0 (fun _ _ h => h)
      have hwd := Lib.hid k0.size
      have hgl : Hid (g < w.drew.heap.size) := rowD.lt
      have hslt : Hid (∀ b', OwnB (.slice aS S.length cS) b' → b' < w.drew.heap.size) := fun b' hb' => (hsd.lt b' hb').2
      replace haq := Lib.hid haq
      replace hap := Lib.hid hap
      replace ok := Lib.hid ok
      clear k0 howq hown
      rw [h3] at hc ⊢
      have hat : ∀ w' : World, (Instr.arrayAt 65 (.slice (some ⟨b, off, none⟩) 64 c)).run Try.prog w' = .ok (.pointer (some ⟨b, off, none⟩)) w' := fun w' => by kernel_rfl
      have hbr : ∀ w' : World, (buildSem 67 #[(0, .int .i64 n), (1, .agg (l.map bv).toArray)]).run Try.prog w' = .ok (.value (.agg (wcells (n, l)).toArray)) w' := fun w' => by
        have h := build_run B_write [.int .i64 n, .agg (l.map bv).toArray] (by simp [HL.out, Value.cells]) w'
        have e : joined [.int .i64 n, .agg (l.map bv).toArray] = wcells (n, l) := by simp [joined, Value.cells, wcells]
        rw [e] at h
        exact h
      have hwl : (wcells (n, l)).length = 65 := by simp [wcells, HL.out]
      have hw1 : ones (wcells (n, l)) = true := by
        rw [ones, List.all_eq_true]
        intro u hu
        rcases List.mem_cons.1 (show u ∈ Value.int .i64 n :: l.map bv from hu) with rfl | hu
        · rfl
        · exact bv_one l u hu
      have HWL := Lib.hid hwl
      have HW1 := Lib.hid hw1
      clear hwl hw1
      clear hS hr hcl h3
      go_enter Try.func9, Try.ntmps9
      go_wp2_with fail
      go_fit (up_c g _ _ _ false _ row)
      rintro e w1 ⟨rfl, rfl⟩
      go_wp2_with fail
      go_fit (fine_c 0 _)
      rintro e w1 ⟨rfl, rfl⟩
      go_wp2_with fail
      refine wp_region_held_drew (S := (fun w' => ((wholeSem 65 (.pointer (some ⟨b, off, none⟩))).run Try.prog w' = .ok (.value (.agg (l.map bv).toArray)) w'))) (by kernel_rfl) ((HS.out _ kd)) (fun hHeld => ?_)
      generalize w.drew = wd at *
      refine wpAnyH_take (i := 0) (v := ?_) rfl (by kernel_rfl) (by kernel_rfl) (by kernel_rfl) (fun _ _ _ h => h) (Or.inl ⟨by kernel_rfl, ?_⟩) hHeld ?_
      rotate_left
      · intro w' hSw
        (try dsimp only at hSw)
        (try simp only [List.getElem_toArray]); (try simp only [List.getElem_cons_succ]); (try simp only [List.getElem_cons_zero])
        go_simp
        try with_reducible rfl
      (try simp only [Act.put]); (try simp only [List.getElem_toArray]); (try simp only [List.getElem_cons_succ]); (try simp only [List.getElem_cons_zero]); (try simp only [List.setIfInBounds_toArray]); (try simp only [List.set_cons_succ]); (try simp only [List.set_cons_zero])
      refine wpAnyH_take (i := 1) (v := ?_) rfl (by kernel_rfl) (by kernel_rfl) (by kernel_rfl) (fun _ _ _ h => h) (Or.inl ⟨by kernel_rfl, ?_⟩) hHeld ?_
      rotate_left
      · intro w' hSw
        (try dsimp only at hSw)
        (try simp only [List.getElem_toArray]); (try simp only [List.getElem_cons_succ]); (try simp only [List.getElem_cons_zero])
        go_simp
        try with_reducible rfl
      (try simp only [Act.put]); (try simp only [List.getElem_toArray]); (try simp only [List.getElem_cons_succ]); (try simp only [List.getElem_cons_zero]); (try simp only [List.setIfInBounds_toArray]); (try simp only [List.set_cons_succ]); (try simp only [List.set_cons_zero])
      refine wpAnyH_take (i := 2) (v := ?_) rfl (by kernel_rfl) (by kernel_rfl) (by kernel_rfl) (fun _ _ _ h => h) (Or.inl ⟨by kernel_rfl, ?_⟩) hHeld ?_
      rotate_left
      · intro w' hSw
        (try dsimp only at hSw)
        (try simp only [List.getElem_toArray]); (try simp only [List.getElem_cons_succ]); (try simp only [List.getElem_cons_zero])
        go_simp
        try with_reducible rfl
      (try simp only [Act.put]); (try simp only [List.getElem_toArray]); (try simp only [List.getElem_cons_succ]); (try simp only [List.getElem_cons_zero]); (try simp only [List.setIfInBounds_toArray]); (try simp only [List.set_cons_succ]); (try simp only [List.set_cons_zero])
      refine wpAnyH_take (i := 3) (v := ?_) rfl (by kernel_rfl) (by kernel_rfl) (by kernel_rfl) (fun _ _ _ h => h) (Or.inl ⟨by kernel_rfl, ?_⟩) hHeld ?_
      rotate_left
      · intro w' hSw
        (try dsimp only at hSw)
        (try simp only [List.getElem_toArray]); (try simp only [List.getElem_cons_succ]); (try simp only [List.getElem_cons_zero])
        go_simp
        try with_reducible rfl
      (try simp only [Act.put]); (try simp only [List.getElem_toArray]); (try simp only [List.getElem_cons_succ]); (try simp only [List.getElem_cons_zero]); (try simp only [List.setIfInBounds_toArray]); (try simp only [List.set_cons_succ]); (try simp only [List.set_cons_zero])
      refine wpAnyH_take (i := 5) (v := ?_) rfl (by kernel_rfl) (by kernel_rfl) (by kernel_rfl) (fun _ _ _ h => h) (Or.inl ⟨by kernel_rfl, ?_⟩) hHeld ?_
      rotate_left
      · intro w' hSw
        (try dsimp only at hSw)
        (try simp only [List.getElem_toArray]); (try simp only [List.getElem_cons_succ]); (try simp only [List.getElem_cons_zero])
        go_simp
        try with_reducible rfl
      (try simp only [Act.put]); (try simp only [List.getElem_toArray]); (try simp only [List.getElem_cons_succ]); (try simp only [List.getElem_cons_zero]); (try simp only [List.setIfInBounds_toArray]); (try simp only [List.set_cons_succ]); (try simp only [List.set_cons_zero])
      refine wpAnyH_take (i := 6) (v := ?_) rfl (by kernel_rfl) (by kernel_rfl) (by kernel_rfl) (fun _ _ _ h => h) (Or.inl ⟨by kernel_rfl, ?_⟩) hHeld ?_
      rotate_left
      · intro w' hSw
        (try dsimp only at hSw)
        (try simp only [List.getElem_toArray]); (try simp only [List.getElem_cons_succ]); (try simp only [List.getElem_cons_zero])
        go_simp
        try with_reducible rfl
      (try simp only [Act.put]); (try simp only [List.getElem_toArray]); (try simp only [List.getElem_cons_succ]); (try simp only [List.getElem_cons_zero]); (try simp only [List.setIfInBounds_toArray]); (try simp only [List.set_cons_succ]); (try simp only [List.set_cons_zero])
      refine wpAnyH_take (i := 7) (v := ?_) rfl (by kernel_rfl) (by kernel_rfl) (by kernel_rfl) (fun _ _ _ h => h) (Or.inl ⟨by kernel_rfl, ?_⟩) hHeld ?_
      rotate_left
      · intro w' hSw
        (try dsimp only at hSw)
        (try simp only [List.getElem_toArray]); (try simp only [List.getElem_cons_succ]); (try simp only [List.getElem_cons_zero])
        go_simp
        try with_reducible rfl
      (try simp only [Act.put]); (try simp only [List.getElem_toArray]); (try simp only [List.getElem_cons_succ]); (try simp only [List.getElem_cons_zero]); (try simp only [List.setIfInBounds_toArray]); (try simp only [List.set_cons_succ]); (try simp only [List.set_cons_zero])
      refine wpAnyH_take (i := 8) (v := ?_) rfl (by kernel_rfl) (by kernel_rfl) (by kernel_rfl) (fun _ _ _ h => h) (Or.inl ⟨by kernel_rfl, ?_⟩) hHeld ?_
      rotate_left
      · intro w' hSw
        (try dsimp only at hSw)
        (try simp only [List.getElem_toArray]); (try simp only [List.getElem_cons_succ]); (try simp only [List.getElem_cons_zero])
        go_simp
        try with_reducible rfl
      (try simp only [Act.put]); (try simp only [List.getElem_toArray]); (try simp only [List.getElem_cons_succ]); (try simp only [List.getElem_cons_zero]); (try simp only [List.setIfInBounds_toArray]); (try simp only [List.set_cons_succ]); (try simp only [List.set_cons_zero])
      refine wpAnyH_take (i := 9) (v := ?_) rfl (by kernel_rfl) (by kernel_rfl) (by kernel_rfl) (fun _ _ _ h => h) (Or.inl ⟨by kernel_rfl, ?_⟩) hHeld ?_
      rotate_left
      · intro w' hSw
        (try dsimp only at hSw)
        (try simp only [List.getElem_toArray]); (try simp only [List.getElem_cons_succ]); (try simp only [List.getElem_cons_zero])
        go_simp
        try with_reducible rfl
      (try simp only [Act.put]); (try simp only [List.getElem_toArray]); (try simp only [List.getElem_cons_succ]); (try simp only [List.getElem_cons_zero]); (try simp only [List.setIfInBounds_toArray]); (try simp only [List.set_cons_succ]); (try simp only [List.set_cons_zero])
      refine wpAnyH_ready (rs := [4, 10]) (by kernel_rfl) (by simp) ?_
      refine AllReadyH.cons rfl (fun K hK => ?_) (AllReadyH.cons rfl (fun K hK => ?_) AllReadyH.nil)
      · have x1 := rowD.cell 1
        (try simp only [List.getElem?_cons_succ] at x1); (try simp only [List.getElem?_cons_zero] at x1)
        go_simp
        clear x1
        refine hK.out _ _ ((HS.out _ kd)) (fun hHeld => ?_)
        clear hK K
        (try simp only [Act.put]); (try simp only [List.getElem_toArray]); (try simp only [List.getElem_cons_succ]); (try simp only [List.getElem_cons_zero]); (try simp only [List.setIfInBounds_toArray]); (try simp only [List.set_cons_succ]); (try simp only [List.set_cons_zero])
        refine wpAnyH_ready (rs := [10]) (by kernel_rfl) (by simp) ?_
        refine AllReadyH.cons rfl (fun K hK => ?_) AllReadyH.nil
        have hls := list_run (P := Try.prog) T_lwrite (by decide) (wcells (n, l)) HWL.out wd
        (try simp only [List.getElem_toArray]); (try simp only [List.getElem_cons_succ]); (try simp only [List.getElem_cons_zero])
        go_simp
        clear hls
        have kA : Keep p w (wd.alloc (.cells (wcells (n, l)).toArray 67)) := kd.alloc _
        have rowA : RowIs (wd.alloc (.cells (wcells (n, l)).toArray 67)) g 62 [.slice aS S.length cS, .slice aQ Q.length cQ, .bool false, .int .i64 ar] := rowD.keep ((Keep.refl Nix _).alloc _) id
        refine hK.out _ _ ((HS.out _ kA)) (fun hHeld => ?_)
        clear hK K
        (try simp only [Act.put]); (try simp only [List.getElem_toArray]); (try simp only [List.getElem_cons_succ]); (try simp only [List.getElem_cons_zero]); (try simp only [List.setIfInBounds_toArray]); (try simp only [List.set_cons_succ]); (try simp only [List.set_cons_zero])
        refine wpAnyH_ready (rs := [11]) (by kernel_rfl) (by simp) ?_
        refine AllReadyH.cons rfl (fun K hK => ?_) AllReadyH.nil
        refine step_append1 (w := wd) (cs := wcells (n, l)) T_lwrite (by rfl) (.tmp 35) (.tmp 41) (by rfl) 0 (by rfl) (by rfl) hqd HWL.out HW1.out (by unfold maxLen; omega) (by omega) (by omega) ?_
        intro aN cN w6 own6 k6 hfresh
        have k6p : Keep p w w6 := kd.then k6 (fun i _ hi => (haq.out i hi).1)
        have row6 := rowD.keep k6 (fun hg => (haq.out g hg).2.1 rfl)
        have own7 := owned_keep hsd k6 (fun b' hb' hx => (haq.out b' hx).2.2 hb')
        clear kA rowA
        refine hK.out _ _ ((HS.out _ k6p)) (fun hHeld => ?_)
        clear hK K
        (try simp only [Act.put]); (try simp only [List.getElem_toArray]); (try simp only [List.getElem_cons_succ]); (try simp only [List.getElem_cons_zero]); (try simp only [List.setIfInBounds_toArray]); (try simp only [List.set_cons_succ]); (try simp only [List.set_cons_zero])
        refine wpAnyH_take (i := 12) (v := ?_) rfl (by kernel_rfl) (by kernel_rfl) (by kernel_rfl) (fun _ _ _ h => h) (Or.inl ⟨by kernel_rfl, ?_⟩) hHeld ?_
        rotate_left
        · intro w' hSw
          (try dsimp only at hSw)
          (try simp only [List.getElem_toArray]); (try simp only [List.getElem_cons_succ]); (try simp only [List.getElem_cons_zero])
          go_simp
          try with_reducible rfl
        (try simp only [Act.put]); (try simp only [List.getElem_toArray]); (try simp only [List.getElem_cons_succ]); (try simp only [List.getElem_cons_zero]); (try simp only [List.setIfInBounds_toArray]); (try simp only [List.set_cons_succ]); (try simp only [List.set_cons_zero])
        refine wpAnyH_take (i := 13) (v := ?_) rfl (by kernel_rfl) (by kernel_rfl) (by kernel_rfl) (fun _ _ _ h => h) (Or.inl ⟨by kernel_rfl, ?_⟩) hHeld ?_
        rotate_left
        · intro w' hSw
          (try dsimp only at hSw)
          (try simp only [List.getElem_toArray]); (try simp only [List.getElem_cons_succ]); (try simp only [List.getElem_cons_zero])
          go_simp
          try with_reducible rfl
        (try simp only [Act.put]); (try simp only [List.getElem_toArray]); (try simp only [List.getElem_cons_succ]); (try simp only [List.getElem_cons_zero]); (try simp only [List.setIfInBounds_toArray]); (try simp only [List.set_cons_succ]); (try simp only [List.set_cons_zero])
        refine wpAnyH_ready (rs := [14]) (by kernel_rfl) (by simp) ?_
        refine AllReadyH.cons rfl (fun K hK => ?_) AllReadyH.nil
        have x1 := row6.cell 1
        (try simp only [List.getElem?_cons_succ] at x1); (try simp only [List.getElem?_cons_zero] at x1)
        have f1 := row6.frozen 1
        go_simp
        clear x1 f1
        have k7 : Keep (· = g) w6 (w6.setCell ⟨g, 1, none⟩ (.slice aN (Q.length + 1) cN)) := (Keep.refl (· = g) w6).setCell (fun _ => rfl) _
        have k7p := k6p.then k7 (fun i _ hi => by rw [hi]; exact hp)
        have row7 := row6.set 1 (.slice aN (Q.length + 1) cN)
        (try simp only [List.set_cons_succ] at row7); (try simp only [List.set_cons_zero] at row7)
        replace own7 := owned_keep own7 k7 (fun b' hb' e => (hap.out b' hb').2 e)
        have hng : ∀ b', OwnB (.slice aN (Q.length + 1) cN) b' → b' ≠ g := fun b' hb' => by
          rcases hfresh b' hb' with h | h
          · exact (haq.out b' h).2.1
          · have := hgl.out; omega
        replace own6 := owned_keep own6 k7 (fun b' hb' e => hng b' hb' e)
        refine hK.out _ _ ((HS.out _ k7p)) (fun hHeld => ?_)
        clear hK K
        (try simp only [Act.put]); (try simp only [List.getElem_toArray]); (try simp only [List.getElem_cons_succ]); (try simp only [List.getElem_cons_zero]); (try simp only [List.setIfInBounds_toArray]); (try simp only [List.set_cons_succ]); (try simp only [List.set_cons_zero])
        refine wpAnyH_done (by kernel_rfl) ?_ _
        clear hHeld
        have HK7 := Lib.hid k7p
        have HO7 := Lib.hid own7
        have HO6 := Lib.hid own6
        have HNG := Lib.hid hng
        have HFR := Lib.hid hfresh
        clear k7p own7 own6 hng hfresh k6p k6 row6 k7 hqd hsd rowD kd
        generalize w6.setCell ⟨g, 1, none⟩ (.slice aN (Q.length + 1) cN) = w7 at *
        obtain ⟨y, HY⟩ : ∃ y, Hid (hitF false ar = y) := ⟨_, rfl⟩
        have HC := hit_c g _ _ false ar w7 row7 ok.out.a0 ok.out.a1
        rw [HY.out] at HC HF
        have HCC := Lib.hid HC
        have HFF := Lib.hid HF.out
        clear HC HF
        obtain ⟨y1, y2, y3⟩ := y
        go_wp2_with fail
        go_fit HCC.out
        rintro e w8 ⟨rfl, row8, k8⟩
        have HEND : ∀ v : Int, v = (if y3 = true then 3 else 0) → WritePost p g S w (writeF S Q false ar n l) (.returned (.int .i64 v)) w8 := by
          intro v hv
          rw [HFF.out, hv]
          refine ⟨rfl, ⟨aS, cS, aN, cN, ?_, owned_keep HO7.out k8 (fun b' hb' e => (hap.out b' hb').2 e), ?_, .inl hp, fun b' hb' => ⟨.inl (hap.out b' hb').1, (hap.out b' hb').2⟩, ?_⟩, HK7.out.then k8 (fun i _ hi => by rw [hi]; exact hp)⟩
          · rw [List.length_append]; exact row8
          · rw [List.length_append, wrts_snoc]; exact owned_keep HO6.out k8 (fun b' hb' e => HNG.out b' hb' e)
          · intro b' hb'
            rw [List.length_append] at hb'
            refine ⟨?_, HNG.out b' hb', ?_⟩
            · rcases HFR.out b' hb' with h | h
              · exact .inl (haq.out b' h).1
              · exact .inr (Nat.le_trans hwd.out h)
            · rcases HFR.out b' hb' with h | h
              · exact (haq.out b' h).2.2
              · intro hx; have := hslt.out b' hx; omega
        have HE := Lib.hid HEND
        clear HEND row8 k8 row7 HCC
        cases y3 with
        | true =>
          go_wp2_with fail
          go_ret
          exact HE.out 3 rfl
        | false =>
          go_wp2_with fail
          go_ret
          exact HE.out 0 rfl
      · have hls := list_run (P := Try.prog) T_lwrite (by decide) (wcells (n, l)) HWL.out wd
        (try simp only [List.getElem_toArray]); (try simp only [List.getElem_cons_succ]); (try simp only [List.getElem_cons_zero])
        go_simp
        clear hls
        have kA : Keep p w (wd.alloc (.cells (wcells (n, l)).toArray 67)) := kd.alloc _
        have rowA : RowIs (wd.alloc (.cells (wcells (n, l)).toArray 67)) g 62 [.slice aS S.length cS, .slice aQ Q.length cQ, .bool false, .int .i64 ar] := rowD.keep ((Keep.refl Nix _).alloc _) id
        refine hK.out _ _ ((HS.out _ kA)) (fun hHeld => ?_)
        clear hK K
        (try simp only [Act.put]); (try simp only [List.getElem_toArray]); (try simp only [List.getElem_cons_succ]); (try simp only [List.getElem_cons_zero]); (try simp only [List.setIfInBounds_toArray]); (try simp only [List.set_cons_succ]); (try simp only [List.set_cons_zero])
        refine wpAnyH_ready (rs := [4]) (by kernel_rfl) (by simp) ?_
        refine AllReadyH.cons rfl (fun K hK => ?_) AllReadyH.nil
        have x1 := rowA.cell 1
        (try simp only [List.getElem?_cons_succ] at x1); (try simp only [List.getElem?_cons_zero] at x1)
        go_simp
        clear x1
        refine hK.out _ _ ((HS.out _ kA)) (fun hHeld => ?_)
        clear hK K
        (try simp only [Act.put]); (try simp only [List.getElem_toArray]); (try simp only [List.getElem_cons_succ]); (try simp only [List.getElem_cons_zero]); (try simp only [List.setIfInBounds_toArray]); (try simp only [List.set_cons_succ]); (try simp only [List.set_cons_zero])
        refine wpAnyH_ready (rs := [11]) (by kernel_rfl) (by simp) ?_
        refine AllReadyH.cons rfl (fun K hK => ?_) AllReadyH.nil
        refine step_append1 (w := wd) (cs := wcells (n, l)) T_lwrite (by rfl) (.tmp 35) (.tmp 41) (by rfl) 0 (by rfl) (by rfl) hqd HWL.out HW1.out (by unfold maxLen; omega) (by omega) (by omega) ?_
        intro aN cN w6 own6 k6 hfresh
        have k6p : Keep p w w6 := kd.then k6 (fun i _ hi => (haq.out i hi).1)
        have row6 := rowD.keep k6 (fun hg => (haq.out g hg).2.1 rfl)
        have own7 := owned_keep hsd k6 (fun b' hb' hx => (haq.out b' hx).2.2 hb')
        clear kA rowA
        refine hK.out _ _ ((HS.out _ k6p)) (fun hHeld => ?_)
        clear hK K
        (try simp only [Act.put]); (try simp only [List.getElem_toArray]); (try simp only [List.getElem_cons_succ]); (try simp only [List.getElem_cons_zero]); (try simp only [List.setIfInBounds_toArray]); (try simp only [List.set_cons_succ]); (try simp only [List.set_cons_zero])
        refine wpAnyH_take (i := 12) (v := ?_) rfl (by kernel_rfl) (by kernel_rfl) (by kernel_rfl) (fun _ _ _ h => h) (Or.inl ⟨by kernel_rfl, ?_⟩) hHeld ?_
        rotate_left
        · intro w' hSw
          (try dsimp only at hSw)
          (try simp only [List.getElem_toArray]); (try simp only [List.getElem_cons_succ]); (try simp only [List.getElem_cons_zero])
          go_simp
          try with_reducible rfl
        (try simp only [Act.put]); (try simp only [List.getElem_toArray]); (try simp only [List.getElem_cons_succ]); (try simp only [List.getElem_cons_zero]); (try simp only [List.setIfInBounds_toArray]); (try simp only [List.set_cons_succ]); (try simp only [List.set_cons_zero])
        refine wpAnyH_take (i := 13) (v := ?_) rfl (by kernel_rfl) (by kernel_rfl) (by kernel_rfl) (fun _ _ _ h => h) (Or.inl ⟨by kernel_rfl, ?_⟩) hHeld ?_
        rotate_left
        · intro w' hSw
          (try dsimp only at hSw)
          (try simp only [List.getElem_toArray]); (try simp only [List.getElem_cons_succ]); (try simp only [List.getElem_cons_zero])
          go_simp
          try with_reducible rfl
        (try simp only [Act.put]); (try simp only [List.getElem_toArray]); (try simp only [List.getElem_cons_succ]); (try simp only [List.getElem_cons_zero]); (try simp only [List.setIfInBounds_toArray]); (try simp only [List.set_cons_succ]); (try simp only [List.set_cons_zero])
        refine wpAnyH_ready (rs := [14]) (by kernel_rfl) (by simp) ?_
        refine AllReadyH.cons rfl (fun K hK => ?_) AllReadyH.nil
        have x1 := row6.cell 1
        (try simp only [List.getElem?_cons_succ] at x1); (try simp only [List.getElem?_cons_zero] at x1)
        have f1 := row6.frozen 1
        go_simp
        clear x1 f1
        have k7 : Keep (· = g) w6 (w6.setCell ⟨g, 1, none⟩ (.slice aN (Q.length + 1) cN)) := (Keep.refl (· = g) w6).setCell (fun _ => rfl) _
        have k7p := k6p.then k7 (fun i _ hi => by rw [hi]; exact hp)
        have row7 := row6.set 1 (.slice aN (Q.length + 1) cN)
        (try simp only [List.set_cons_succ] at row7); (try simp only [List.set_cons_zero] at row7)
        replace own7 := owned_keep own7 k7 (fun b' hb' e => (hap.out b' hb').2 e)
        have hng : ∀ b', OwnB (.slice aN (Q.length + 1) cN) b' → b' ≠ g := fun b' hb' => by
          rcases hfresh b' hb' with h | h
          · exact (haq.out b' h).2.1
          · have := hgl.out; omega
        replace own6 := owned_keep own6 k7 (fun b' hb' e => hng b' hb' e)
        refine hK.out _ _ ((HS.out _ k7p)) (fun hHeld => ?_)
        clear hK K
        (try simp only [Act.put]); (try simp only [List.getElem_toArray]); (try simp only [List.getElem_cons_succ]); (try simp only [List.getElem_cons_zero]); (try simp only [List.setIfInBounds_toArray]); (try simp only [List.set_cons_succ]); (try simp only [List.set_cons_zero])
        refine wpAnyH_done (by kernel_rfl) ?_ _
        clear hHeld
        have HK7 := Lib.hid k7p
        have HO7 := Lib.hid own7
        have HO6 := Lib.hid own6
        have HNG := Lib.hid hng
        have HFR := Lib.hid hfresh
        clear k7p own7 own6 hng hfresh k6p k6 row6 k7 hqd hsd rowD kd
        generalize w6.setCell ⟨g, 1, none⟩ (.slice aN (Q.length + 1) cN) = w7 at *
        obtain ⟨y, HY⟩ : ∃ y, Hid (hitF false ar = y) := ⟨_, rfl⟩
        have HC := hit_c g _ _ false ar w7 row7 ok.out.a0 ok.out.a1
        rw [HY.out] at HC HF
        have HCC := Lib.hid HC
        have HFF := Lib.hid HF.out
        clear HC HF
        obtain ⟨y1, y2, y3⟩ := y
        go_wp2_with fail
        go_fit HCC.out
        rintro e w8 ⟨rfl, row8, k8⟩
        have HEND : ∀ v : Int, v = (if y3 = true then 3 else 0) → WritePost p g S w (writeF S Q false ar n l) (.returned (.int .i64 v)) w8 := by
          intro v hv
          rw [HFF.out, hv]
          refine ⟨rfl, ⟨aS, cS, aN, cN, ?_, owned_keep HO7.out k8 (fun b' hb' e => (hap.out b' hb').2 e), ?_, .inl hp, fun b' hb' => ⟨.inl (hap.out b' hb').1, (hap.out b' hb').2⟩, ?_⟩, HK7.out.then k8 (fun i _ hi => by rw [hi]; exact hp)⟩
          · rw [List.length_append]; exact row8
          · rw [List.length_append, wrts_snoc]; exact owned_keep HO6.out k8 (fun b' hb' e => HNG.out b' hb' e)
          · intro b' hb'
            rw [List.length_append] at hb'
            refine ⟨?_, HNG.out b' hb', ?_⟩
            · rcases HFR.out b' hb' with h | h
              · exact .inl (haq.out b' h).1
              · exact .inr (Nat.le_trans hwd.out h)
            · rcases HFR.out b' hb' with h | h
              · exact (haq.out b' h).2.2
              · intro hx; have := hslt.out b' hx; omega
        have HE := Lib.hid HEND
        clear HEND row8 k8 row7 HCC
        cases y3 with
        | true =>
          go_wp2_with fail
          go_ret
          exact HE.out 3 rfl
        | false =>
          go_wp2_with fail
          go_ret
          exact HE.out 0 rfl
end
end Go.Proofs.Ytdnbpfohmhhmkaa
