/- DISK: the reference's Write. Printed by mac.py. -/
import Derived.Test.YtdnbpfohmhhmkaaDkI
import Derived.Laws.CopyRow
namespace Go.Proofs.Ytdnbpfohmhhmkaa
open Go.RowKit

theorem bdz_w (a : Act) (dst : Option Tmp) (parts : Array (Nat × Operand)) (ty : TypeId) (pos : String) (after : Array Edge) (guard : Option (Nat × Bool)) : execOp a.eval { dst := dst, op := .build 70 parts, type := ty, pos := pos, after := after, guard := guard } = buildSem 70 (parts.map fun x => (x.1, a.eval x.2)) := rfl
theorem lsz_w (a : Act) (dst : Option Tmp) (parts : Array (Nat × Operand)) (ty : TypeId) (pos : String) (after : Array Edge) (guard : Option (Nat × Bool)) : execOp a.eval { dst := dst, op := .buildSlice 47 1 parts, type := ty, pos := pos, after := after, guard := guard } = listSem 47 1 (parts.map fun x => (x.1, a.eval x.2)) := rfl
theorem T_lw : SliceT Try.prog 47 70 65 72 := SliceT.mk' Try.underlying47 (z := .agg (.int .i64 0 :: List.replicate 64 (bv 0)).toArray) (by kernel_rfl) rfl (by decide)
theorem B_w : BuildT Try.prog 70 [1, 64] := by
  obtain ⟨i, hi, hz, -, -⟩ := info_parts (by kernel_rfl : (Try.prog.info? 70).map (fun i => (i.zero, i.size, i.bytes)) = some (some (.agg (.int .i64 0 :: List.replicate 64 (bv 0)).toArray), 65, 72))
  exact ⟨_, i, _, [(0, 1), (1, 64)], Try.underlying70, hi, hz, rfl, by kernel_rfl, rfl, by decide⟩
/-- 'copy(d, s)' of cells of one's own. -/
theorem wpl_copy_row {P : Program} {ops : Array Oper} {rest : List Oper} {o : Oper} {a : Act} {Q : Exit → Act → World → Prop} {w : World} (hgd : o.guard = none) (d s : Operand) (dT sT : TypeId)
    (ho : o.op = .call { callee := .builtin .copy, args := #[d, s], argTypes := #[dT, sT] }) (elem : TypeId) (hu : P.underlying dT = some (.slice elem)) (hsz : (P.info? elem).map (·.size) = some 1)
    (g off dLen dCap : Nat) (ad : Addr) (sLen sCap : Nat) (hd : a.eval d = .slice (some ⟨g, off, none⟩) dLen dCap) (hs : a.eval s = .slice (some ad) sLen sCap)
    {cur : List Value} {t : TypeId} (hg : RowIs w g t cur) {cs : List Value} (hn : cs.length = Nat.min sLen dLen) (hsrc : ∀ j v, cs[j]? = some v → w.cell? (ad.add j) = some v) (hfit : off + cs.length ≤ cur.length) (h1 : ∀ v ∈ cs, v.oneCell' = true)
    (h : wpList P ops Q rest (a.put o.dst (goInt cs.length)) (w.setRow g (cur.take off ++ cs ++ cur.drop (off + cs.length)).toArray)) :
    wpList P ops Q (o :: rest) a w := by
  refine wpList_plain hgd fun K hK => ?_
  have hrun := run_copy_row (P := P) w dT sT o.type elem g off dLen dCap ad sLen sCap cur.toArray t cs hu hsz hg hn hsrc (by simpa using hfit) h1
  unfold Oper.wp
  simp only [execOp, ho, resolve, invoke, builtin, List.map_toArray, List.map_cons, List.map_nil, hd, hs, hrun, Sem.run_bind, Sem.run_pure, Result.andThen_ok]
  exact hK _ _ h
section
attribute [local go_sem ↓] ldz_arr stz_arr bdz_w lsz_w
set_option maxRecDepth 100000 in
set_option maxHeartbeats 4000000 in
theorem rwrite_c {p q : Nat → Prop} (g : Nat) (S : List (List UInt8)) (Q : List (Int × List UInt8)) (dn : Bool) (ar n : Int) (a : Option Addr) (c : Nat) (l : List UInt8) (w : World) (hd : IsRef w p g S Q dn ar) (ok : DiskOk S Q ar) (hQ : Q.length ≤ 1000) (hl : Lies w q a (l.map bv)) (_hqp : ∀ b, q b → ¬ p b) (_hm : l.length ≤ 140737488351232) :
    Calls Try.prog 28 #[.pointer (some ⟨g, 0, none⟩), .int .i64 n, .slice a l.length c] w (RPost p g w (.int .i64 (writeF S Q dn ar n l).1) S (writeF S Q dn ar n l).2.1 (writeF S Q dn ar n l).2.2.1 (writeF S Q dn ar n l).2.2.2) := by
  obtain ⟨aS, cS, aQ, cQ, row, hown, howq, hp, hap, haq⟩ := hd
  have x3 := row.cell 3
  (try simp only [List.getElem?_cons_succ] at x3); (try simp only [List.getElem?_cons_zero] at x3)
  cases dn with
  | true =>
    have HF : Hid (writeF S Q true ar n l = (3, Q, true, ar)) := rfl
    go_enter Try.func28, Try.ntmps28
    go_wp2_with fail
    go_ret
    rw [HF.out]
    exact ⟨rfl, ⟨aS, cS, aQ, cQ, row, hown, howq, .inl hp, fun b hb => ⟨.inl (hap b hb).1, (hap b hb).2⟩, fun b hb => ⟨.inl (haq b hb).1, (haq b hb).2⟩⟩, Keep.refl _ _⟩
  | false =>
    have hnS : S.length ≤ 65536 := ok.n
    have x0 := row.cell 0
    (try simp only [List.getElem?_cons_succ] at x0); (try simp only [List.getElem?_cons_zero] at x0)
    by_cases hbad : n < 0 ∨ (S.length : Int) ≤ n ∨ l.length ≠ 64
    · have HF : Hid (writeF S Q false ar n l = (1, Q, false, ar)) := by show writeF S Q false ar n l = _; unfold writeF; rw [if_neg (by decide), if_pos hbad]
      have hend : RPost p g w (.int .i64 (writeF S Q false ar n l).1) S (writeF S Q false ar n l).2.1 (writeF S Q false ar n l).2.2.1 (writeF S Q false ar n l).2.2.2 (.returned (.int .i64 1)) w := by
        rw [HF.out]
        exact ⟨rfl, ⟨aS, cS, aQ, cQ, row, hown, howq, .inl hp, fun b hb => ⟨.inl (hap b hb).1, (hap b hb).2⟩, fun b hb => ⟨.inl (haq b hb).1, (haq b hb).2⟩⟩, Keep.refl _ _⟩
      have HE := Lib.hid hend
      clear hend
      have hways : (n < 0) ∨ (0 ≤ n ∧ (S.length : Int) ≤ n) ∨ (0 ≤ n ∧ n < (S.length : Int) ∧ (l.length : Int) ≠ 64) := by omega
      clear hbad
      rcases hways with h1 | ⟨h1, h2⟩ | ⟨h1, h2, h3⟩
      · go_enter Try.func28, Try.ntmps28
        go_wp2_with fail
        go_ret
        exact HE.out
      · go_enter Try.func28, Try.ntmps28
        go_wp2_with fail
        go_ret
        exact HE.out
      · have h4 : ((l.length : Int) != 64) = true := by rw [bne_iff_ne]; exact h3
        have h5 : (l.length != 64) = true := by rw [bne_iff_ne]; omega
        go_enter Try.func28, Try.ntmps28
        go_wp2_with fail
        go_ret
        exact HE.out
    · have HF : Hid (writeF S Q false ar n l = (if (hitF false ar).2.2 then 3 else 0, Q ++ [(n, l)], (hitF false ar).1, (hitF false ar).2.1)) := by show writeF S Q false ar n l = _; unfold writeF; rw [if_neg (by decide), if_neg hbad]
      have h1 : 0 ≤ n := by omega
      have h2 : n < (S.length : Int) := by omega
      have h3 : l.length = 64 := by omega
      clear hbad
      obtain ⟨b, off, rfl, hqb, hb, hcl⟩ := hl (by intro e; rw [List.map_eq_nil_iff] at e; subst e; cases h3)
      have HL := Lib.hid h3
      have HL64 : Hid ((l.map bv).length = 64) := by show _ = _; rw [List.length_map]; exact h3
      have hz64 : ∀ w' : World, (zeroValue 64).run Try.prog w' = .ok (.agg zA.toArray) w' := fun w' => by kernel_rfl
      have hwl : (wcells (n, l)).length = 65 := by simp [wcells, h3]
      have hw1 : ones (wcells (n, l)) = true := by
        rw [ones, List.all_eq_true]
        intro u hu
        rcases List.mem_cons.1 (show u ∈ Value.int .i64 n :: l.map bv from hu) with rfl | hu
        · rfl
        · exact bv_one _ u hu
      have HWL := Lib.hid hwl
      have HW1 := Lib.hid hw1
      have hbr : ∀ w' : World, (buildSem 70 #[(0, .int .i64 n), (1, .agg (l.map bv).toArray)]).run Try.prog w' = .ok (.value (.agg (wcells (n, l)).toArray)) w' := fun w' => by
        have h := build_run B_w [.int .i64 n, .agg (l.map bv).toArray] (by simp [HL.out, Value.cells]) w'
        have e : joined [.int .i64 n, .agg (l.map bv).toArray] = wcells (n, l) := by simp [joined, Value.cells, wcells]
        rw [e] at h
        exact h
      have rowZ := RowIs.alloc w zA.toArray 64
      rw [show zA.toArray.toList = zA from rfl] at rowZ
      have kZ : Keep Nix w (w.alloc (.cells zA.toArray 64)) := (Keep.refl Nix w).alloc _
      have hsrc : ∀ j v, (l.map bv)[j]? = some v → (w.alloc (.cells zA.toArray 64)).cell? ((⟨b, off, none⟩ : Addr).add j) = some v := fun j v hv => by
        rw [Addr.add_lit]
        exact (kZ.cell (p := ⟨b, off + j, none⟩) hb id).trans (hcl j v hv)
      have hcp := run_copy_row (P := Try.prog) (w.alloc (.cells zA.toArray 64)) 22 22 3 5 w.heap.size 0 64 64 ⟨b, off, none⟩ 64 c zA.toArray 64 (l.map bv) Try.underlying22 (by kernel_rfl) rowZ (by rw [HL64.out]; rfl) hsrc (by rw [HL64.out]; decide) (bv_one l)
      have e0 : zA.toArray.toList.take 0 ++ l.map bv ++ zA.toArray.toList.drop (0 + (l.map bv).length) = l.map bv := by
        rw [HL64.out, List.take_zero, List.nil_append, List.drop_eq_nil_of_le (by decide), List.append_nil]
      rw [e0, HL64.out] at hcp
      have rowT : RowIs ((w.alloc (.cells zA.toArray 64)).setRow w.heap.size (l.map bv).toArray) w.heap.size 64 (l.map bv) := rowZ.setRow _
      have kT : Keep Nix w ((w.alloc (.cells zA.toArray 64)).setRow w.heap.size (l.map bv).toArray) := kZ.setRow (fun h => absurd h (Nat.lt_irrefl _)) _
      have hqlt : Hid (∀ b', OwnB (.slice aQ Q.length cQ) b' → b' < w.heap.size) := fun b' hb' => (howq.lt b' hb').2
      have hslt0 : ∀ b', OwnB (.slice aS S.length cS) b' → b' < w.heap.size := fun b' hb' => (hown.lt b' hb').2
      have hgl0 := row.lt
      replace row := row.keep kT id
      have hsd := owned_keep hown kT (fun _ _ h => h)
      have hqd := owned_keep howq kT (fun _ _ h => h)
      rw [h3]
      obtain ⟨y, HY⟩ : ∃ y, Hid (hitF false ar = y) := ⟨_, rfl⟩
      have HC := rhit_c g _ _ ar _ row ok.a0 ok.a1
      rw [HY.out] at HC
      rw [HY.out] at HF
      have HCC := Lib.hid HC
      have HFF := Lib.hid HF.out
      clear HC HF
      obtain ⟨y1, y2, y3⟩ := y
      replace haq := Lib.hid haq
      replace hap := Lib.hid hap
      clear hwl hw1 hcl e0 hsrc hown howq row
      go_enter Try.func28, Try.ntmps28
      go_wp2_with fail
      clear hcp
      generalize hgT : w.heap.size = gT at *
      generalize (w.alloc (.cells zA.toArray 64)).setRow gT (l.map bv).toArray = w2 at *
      go_fit HCC.out
      rintro e w3 ⟨rfl, row3, k3⟩
      clear HCC
      have rowT3 := rowT.keep k3 (by omega)
      have hsd3 := owned_keep hsd k3 (fun b' hb' e => (hap.out b' hb').2 e)
      have hqd3 := owned_keep hqd k3 (fun b' hb' e => (haq.out b' hb').2.1 e)
      have kk3 : Keep p w w3 := (kT.nix (S := p)).then k3 (fun i _ hi => by rw [hi]; exact hp)
      have hs2 := k3.size
      have hTlt := rowT.lt
      go_upto_region 8 with fail
      clear rowT hsd hqd
      have kdd : Keep Nix w3 w3.drew := (Keep.refl Nix w3).drew
      have rowD := row3.keep kdd id
      have rowT := rowT3.keep kdd id
      have hsd := owned_keep hsd3 kdd (fun _ _ h => h)
      have hqd := owned_keep hqd3 kdd (fun _ _ h => h)
      have kd : Keep p w w3.drew := kk3.trans kdd.nix
      have hwd : Hid (w.heap.size ≤ w3.drew.heap.size) := kd.size
      have hgl : Hid (g < w3.drew.heap.size) := rowD.lt
      have hslt : Hid (∀ b', OwnB (.slice aS S.length cS) b' → b' < w3.drew.heap.size) := fun b' hb' => (hsd.lt b' hb').2
      have HSd : Hid ((wholeSem 64 (.pointer (some ⟨gT, 0, none⟩))).run Try.prog w3.drew = .ok (.value (.agg (l.map bv).toArray)) w3.drew) := A_arr.rowLoad rowT HL64.out
      clear kdd row3 rowT3 hsd3 hqd3 kk3 k3 hs2 hTlt hslt0
      refine wp_region_held_drew (S := (fun w' => ((wholeSem 64 (.pointer (some ⟨gT, 0, none⟩))).run Try.prog w' = .ok (.value (.agg (l.map bv).toArray)) w'))) (by kernel_rfl) (HSd.out) (fun hHeld => ?_)
      generalize w3.drew = wd at *
      refine wpAnyH_take (i := 0) (v := ?_) rfl (by kernel_rfl) (by kernel_rfl) (by kernel_rfl) (fun _ _ _ h => h) (Or.inl ⟨by kernel_rfl, ?_⟩) hHeld ?_
      rotate_left
      · intro w' hSw
        (try dsimp only at hSw)
        (try simp only [List.getElem_toArray]); (try simp only [List.getElem_cons_succ]); (try simp only [List.getElem_cons_zero])
        go_simp
        try with_reducible rfl
      (try simp only [Act.put]); (try simp only [List.getElem_toArray]); (try simp only [List.getElem_cons_succ]); (try simp only [List.getElem_cons_zero]); (try simp only [List.setIfInBounds_toArray]); (try simp only [List.set_cons_succ]); (try simp only [List.set_cons_zero])
      refine wpAnyH_take (i := 1) (v := ?_) rfl (by kernel_rfl) (by kernel_rfl) (by kernel_rfl) (fun _ _ _ h => h) (Or.inl ⟨by kernel_rfl, ?_⟩) hHeld ?_
      rotate_left
      · intro w' hSw
        (try dsimp only at hSw)
        (try simp only [List.getElem_toArray]); (try simp only [List.getElem_cons_succ]); (try simp only [List.getElem_cons_zero])
        go_simp
        try with_reducible rfl
      (try simp only [Act.put]); (try simp only [List.getElem_toArray]); (try simp only [List.getElem_cons_succ]); (try simp only [List.getElem_cons_zero]); (try simp only [List.setIfInBounds_toArray]); (try simp only [List.set_cons_succ]); (try simp only [List.set_cons_zero])
      refine wpAnyH_take (i := 2) (v := ?_) rfl (by kernel_rfl) (by kernel_rfl) (by kernel_rfl) (fun _ _ _ h => h) (Or.inl ⟨by kernel_rfl, ?_⟩) hHeld ?_
      rotate_left
      · intro w' hSw
        (try dsimp only at hSw)
        (try simp only [List.getElem_toArray]); (try simp only [List.getElem_cons_succ]); (try simp only [List.getElem_cons_zero])
        go_simp
        try with_reducible rfl
      (try simp only [Act.put]); (try simp only [List.getElem_toArray]); (try simp only [List.getElem_cons_succ]); (try simp only [List.getElem_cons_zero]); (try simp only [List.setIfInBounds_toArray]); (try simp only [List.set_cons_succ]); (try simp only [List.set_cons_zero])
      refine wpAnyH_take (i := 3) (v := ?_) rfl (by kernel_rfl) (by kernel_rfl) (by kernel_rfl) (fun _ _ _ h => h) (Or.inl ⟨by kernel_rfl, ?_⟩) hHeld ?_
      rotate_left
      · intro w' hSw
        (try dsimp only at hSw)
        (try simp only [List.getElem_toArray]); (try simp only [List.getElem_cons_succ]); (try simp only [List.getElem_cons_zero])
        go_simp
        try with_reducible rfl
      (try simp only [Act.put]); (try simp only [List.getElem_toArray]); (try simp only [List.getElem_cons_succ]); (try simp only [List.getElem_cons_zero]); (try simp only [List.setIfInBounds_toArray]); (try simp only [List.set_cons_succ]); (try simp only [List.set_cons_zero])
      refine wpAnyH_take (i := 5) (v := ?_) rfl (by kernel_rfl) (by kernel_rfl) (by kernel_rfl) (fun _ _ _ h => h) (Or.inl ⟨by kernel_rfl, ?_⟩) hHeld ?_
      rotate_left
      · intro w' hSw
        (try dsimp only at hSw)
        (try simp only [List.getElem_toArray]); (try simp only [List.getElem_cons_succ]); (try simp only [List.getElem_cons_zero])
        go_simp
        try with_reducible rfl
      (try simp only [Act.put]); (try simp only [List.getElem_toArray]); (try simp only [List.getElem_cons_succ]); (try simp only [List.getElem_cons_zero]); (try simp only [List.setIfInBounds_toArray]); (try simp only [List.set_cons_succ]); (try simp only [List.set_cons_zero])
      refine wpAnyH_take (i := 6) (v := ?_) rfl (by kernel_rfl) (by kernel_rfl) (by kernel_rfl) (fun _ _ _ h => h) (Or.inl ⟨by kernel_rfl, ?_⟩) hHeld ?_
      rotate_left
      · intro w' hSw
        (try dsimp only at hSw)
        (try simp only [List.getElem_toArray]); (try simp only [List.getElem_cons_succ]); (try simp only [List.getElem_cons_zero])
        go_simp
        try with_reducible rfl
      (try simp only [Act.put]); (try simp only [List.getElem_toArray]); (try simp only [List.getElem_cons_succ]); (try simp only [List.getElem_cons_zero]); (try simp only [List.setIfInBounds_toArray]); (try simp only [List.set_cons_succ]); (try simp only [List.set_cons_zero])
      refine wpAnyH_take (i := 7) (v := ?_) rfl (by kernel_rfl) (by kernel_rfl) (by kernel_rfl) (fun _ _ _ h => h) (Or.inl ⟨by kernel_rfl, ?_⟩) hHeld ?_
      rotate_left
      · intro w' hSw
        (try dsimp only at hSw)
        (try simp only [List.getElem_toArray]); (try simp only [List.getElem_cons_succ]); (try simp only [List.getElem_cons_zero])
        go_simp
        try with_reducible rfl
      (try simp only [Act.put]); (try simp only [List.getElem_toArray]); (try simp only [List.getElem_cons_succ]); (try simp only [List.getElem_cons_zero]); (try simp only [List.setIfInBounds_toArray]); (try simp only [List.set_cons_succ]); (try simp only [List.set_cons_zero])
      refine wpAnyH_ready (rs := [4, 8]) (by kernel_rfl) (by simp) ?_
      refine AllReadyH.cons rfl (fun K hK => ?_) (AllReadyH.cons rfl (fun K hK => ?_) AllReadyH.nil)
      · have x1 := rowD.cell 1
        (try simp only [List.getElem?_cons_succ] at x1); (try simp only [List.getElem?_cons_zero] at x1)
        go_simp
        clear x1
        refine hK.out _ _ (HSd.out) (fun hHeld => ?_)
        clear hK K
        (try simp only [Act.put]); (try simp only [List.getElem_toArray]); (try simp only [List.getElem_cons_succ]); (try simp only [List.getElem_cons_zero]); (try simp only [List.setIfInBounds_toArray]); (try simp only [List.set_cons_succ]); (try simp only [List.set_cons_zero])
        refine wpAnyH_ready (rs := [8]) (by kernel_rfl) (by simp) ?_
        refine AllReadyH.cons rfl (fun K hK => ?_) AllReadyH.nil
        have hls := list_run (P := Try.prog) T_lw (by decide) (wcells (n, l)) HWL.out wd
        (try simp only [List.getElem_toArray]); (try simp only [List.getElem_cons_succ]); (try simp only [List.getElem_cons_zero])
        go_simp
        clear hls
        have kA : Keep Nix wd (wd.alloc (.cells (wcells (n, l)).toArray 70)) := (Keep.refl Nix wd).alloc _
        have rowA := rowD.keep kA id
        refine hK.out _ _ ((A_arr.rowLoad (rowT.keep kA id) HL64.out)) (fun hHeld => ?_)
        clear hK K
        (try simp only [Act.put]); (try simp only [List.getElem_toArray]); (try simp only [List.getElem_cons_succ]); (try simp only [List.getElem_cons_zero]); (try simp only [List.setIfInBounds_toArray]); (try simp only [List.set_cons_succ]); (try simp only [List.set_cons_zero])
        refine wpAnyH_ready (rs := [9]) (by kernel_rfl) (by simp) ?_
        refine AllReadyH.cons rfl (fun K hK => ?_) AllReadyH.nil
        refine step_append1 (w := wd) (cs := wcells (n, l)) T_lw (by rfl) (.tmp 38) (.tmp 42) (by rfl) 0 (by rfl) (by rfl) hqd HWL.out HW1.out (by unfold maxLen; omega) (by omega) (by omega) ?_
        intro aN cN w6 own6 k6 hfresh
        have hgq : ∀ b', OwnB (.slice aQ Q.length cQ) b' → b' ≠ gT := fun b' hb' e => by have := hqlt.out b' hb'; omega
        have row6 := rowD.keep k6 (fun hg => (haq.out g hg).2.1 rfl)
        have rowT6 := rowT.keep k6 (fun hg => hgq gT hg rfl)
        have own7 := owned_keep hsd k6 (fun b' hb' hx => (haq.out b' hx).2.2 hb')
        have k6p : Keep p w w6 := kd.then k6 (fun i _ hi => (haq.out i hi).1)
        clear kA rowA
        refine hK.out _ _ ((A_arr.rowLoad rowT6 HL64.out)) (fun hHeld => ?_)
        clear hK K
        (try simp only [Act.put]); (try simp only [List.getElem_toArray]); (try simp only [List.getElem_cons_succ]); (try simp only [List.getElem_cons_zero]); (try simp only [List.setIfInBounds_toArray]); (try simp only [List.set_cons_succ]); (try simp only [List.set_cons_zero])
        refine wpAnyH_take (i := 10) (v := ?_) rfl (by kernel_rfl) (by kernel_rfl) (by kernel_rfl) (fun _ _ _ h => h) (Or.inl ⟨by kernel_rfl, ?_⟩) hHeld ?_
        rotate_left
        · intro w' hSw
          (try dsimp only at hSw)
          (try simp only [List.getElem_toArray]); (try simp only [List.getElem_cons_succ]); (try simp only [List.getElem_cons_zero])
          go_simp
          try with_reducible rfl
        (try simp only [Act.put]); (try simp only [List.getElem_toArray]); (try simp only [List.getElem_cons_succ]); (try simp only [List.getElem_cons_zero]); (try simp only [List.setIfInBounds_toArray]); (try simp only [List.set_cons_succ]); (try simp only [List.set_cons_zero])
        refine wpAnyH_take (i := 11) (v := ?_) rfl (by kernel_rfl) (by kernel_rfl) (by kernel_rfl) (fun _ _ _ h => h) (Or.inl ⟨by kernel_rfl, ?_⟩) hHeld ?_
        rotate_left
        · intro w' hSw
          (try dsimp only at hSw)
          (try simp only [List.getElem_toArray]); (try simp only [List.getElem_cons_succ]); (try simp only [List.getElem_cons_zero])
          go_simp
          try with_reducible rfl
        (try simp only [Act.put]); (try simp only [List.getElem_toArray]); (try simp only [List.getElem_cons_succ]); (try simp only [List.getElem_cons_zero]); (try simp only [List.setIfInBounds_toArray]); (try simp only [List.set_cons_succ]); (try simp only [List.set_cons_zero])
        have f1 := row6.frozen 1
        have k7 : Keep (· = g) w6 (w6.setCell ⟨g, 1, none⟩ (.slice aN (Q.length + 1) cN)) := (Keep.refl (· = g) w6).setCell (fun _ => rfl) _
        have k7p := k6p.then k7 (fun i _ hi => by rw [hi]; exact hp)
        have row7 : RowIs (w6.setCell ⟨g, 1, none⟩ (.slice aN (Q.length + 1) cN)) g 49 [.slice aS S.length cS, .slice aN (Q.length + 1) cN, .int .i64 y2, .bool y1] := row6.set 1 _
        have rowT7 := rowT6.keep k7 (fun e => by omega)
        replace own7 := owned_keep own7 k7 (fun b' hb' e => (hap.out b' hb').2 e)
        have hng : ∀ b', OwnB (.slice aN (Q.length + 1) cN) b' → b' ≠ g := fun b' hb' => by
          rcases hfresh b' hb' with h | h
          · exact (haq.out b' h).2.1
          · have := hgl.out; omega
        replace own6 := owned_keep own6 k7 (fun b' hb' e => hng b' hb' e)
        refine wpAnyH_ready (rs := [12]) (by kernel_rfl) (by simp) ?_
        refine AllReadyH.cons rfl (fun K hK => ?_) AllReadyH.nil
        have x1 := row6.cell 1
        (try simp only [List.getElem?_cons_succ] at x1); (try simp only [List.getElem?_cons_zero] at x1)
        go_simp
        clear x1 f1
        refine hK.out _ _ ((A_arr.rowLoad rowT7 HL64.out)) (fun hHeld => ?_)
        clear hK K
        (try simp only [Act.put]); (try simp only [List.getElem_toArray]); (try simp only [List.getElem_cons_succ]); (try simp only [List.getElem_cons_zero]); (try simp only [List.setIfInBounds_toArray]); (try simp only [List.set_cons_succ]); (try simp only [List.set_cons_zero])
        refine wpAnyH_done (by kernel_rfl) ?_ _
        clear hHeld
        have HEND : ∀ v : Int, v = (if y3 = true then 3 else 0) → RPost p g w (.int .i64 (writeF S Q false ar n l).1) S (writeF S Q false ar n l).2.1 (writeF S Q false ar n l).2.2.1 (writeF S Q false ar n l).2.2.2 (.returned (.int .i64 v)) (w6.setCell ⟨g, 1, none⟩ (.slice aN (Q.length + 1) cN)) := by
          intro v hv
          rw [HFF.out, hv]
          refine ⟨rfl, ⟨aS, cS, aN, cN, ?_, own7, ?_, .inl hp, fun b' hb' => ⟨.inl (hap.out b' hb').1, (hap.out b' hb').2⟩, ?_⟩, k7p⟩
          · rw [List.length_append]; exact row7
          · rw [List.length_append, wrts_snoc]; exact own6
          · intro b' hb'
            rw [List.length_append] at hb'
            refine ⟨?_, hng b' hb', ?_⟩
            · rcases hfresh b' hb' with h | h
              · exact .inl (haq.out b' h).1
              · exact .inr (Nat.le_trans hwd.out h)
            · rcases hfresh b' hb' with h | h
              · exact (haq.out b' h).2.2
              · intro hx; have := hslt.out b' hx; omega
        have HE := Lib.hid HEND
        clear HEND k7p own7 own6 hng hfresh k6p k6 row6 k7 hqd hsd rowD kd row7 rowT7 rowT6 rowT hgq
        generalize w6.setCell ⟨g, 1, none⟩ (.slice aN (Q.length + 1) cN) = w7 at *
        cases y3 with
        | true =>
          go_wp2_with fail
          go_ret
          exact HE.out 3 rfl
        | false =>
          go_wp2_with fail
          go_ret
          exact HE.out 0 rfl
      · have hls := list_run (P := Try.prog) T_lw (by decide) (wcells (n, l)) HWL.out wd
        (try simp only [List.getElem_toArray]); (try simp only [List.getElem_cons_succ]); (try simp only [List.getElem_cons_zero])
        go_simp
        clear hls
        have kA : Keep Nix wd (wd.alloc (.cells (wcells (n, l)).toArray 70)) := (Keep.refl Nix wd).alloc _
        have rowA := rowD.keep kA id
        refine hK.out _ _ ((A_arr.rowLoad (rowT.keep kA id) HL64.out)) (fun hHeld => ?_)
        clear hK K
        (try simp only [Act.put]); (try simp only [List.getElem_toArray]); (try simp only [List.getElem_cons_succ]); (try simp only [List.getElem_cons_zero]); (try simp only [List.setIfInBounds_toArray]); (try simp only [List.set_cons_succ]); (try simp only [List.set_cons_zero])
        refine wpAnyH_ready (rs := [4]) (by kernel_rfl) (by simp) ?_
        refine AllReadyH.cons rfl (fun K hK => ?_) AllReadyH.nil
        have x1 := rowA.cell 1
        (try simp only [List.getElem?_cons_succ] at x1); (try simp only [List.getElem?_cons_zero] at x1)
        go_simp
        clear x1
        refine hK.out _ _ ((A_arr.rowLoad (rowT.keep kA id) HL64.out)) (fun hHeld => ?_)
        clear hK K
        (try simp only [Act.put]); (try simp only [List.getElem_toArray]); (try simp only [List.getElem_cons_succ]); (try simp only [List.getElem_cons_zero]); (try simp only [List.setIfInBounds_toArray]); (try simp only [List.set_cons_succ]); (try simp only [List.set_cons_zero])
        refine wpAnyH_ready (rs := [9]) (by kernel_rfl) (by simp) ?_
        refine AllReadyH.cons rfl (fun K hK => ?_) AllReadyH.nil
        refine step_append1 (w := wd) (cs := wcells (n, l)) T_lw (by rfl) (.tmp 38) (.tmp 42) (by rfl) 0 (by rfl) (by rfl) hqd HWL.out HW1.out (by unfold maxLen; omega) (by omega) (by omega) ?_
        intro aN cN w6 own6 k6 hfresh
        have hgq : ∀ b', OwnB (.slice aQ Q.length cQ) b' → b' ≠ gT := fun b' hb' e => by have := hqlt.out b' hb'; omega
        have row6 := rowD.keep k6 (fun hg => (haq.out g hg).2.1 rfl)
        have rowT6 := rowT.keep k6 (fun hg => hgq gT hg rfl)
        have own7 := owned_keep hsd k6 (fun b' hb' hx => (haq.out b' hx).2.2 hb')
        have k6p : Keep p w w6 := kd.then k6 (fun i _ hi => (haq.out i hi).1)
        clear kA rowA
        refine hK.out _ _ ((A_arr.rowLoad rowT6 HL64.out)) (fun hHeld => ?_)
        clear hK K
        (try simp only [Act.put]); (try simp only [List.getElem_toArray]); (try simp only [List.getElem_cons_succ]); (try simp only [List.getElem_cons_zero]); (try simp only [List.setIfInBounds_toArray]); (try simp only [List.set_cons_succ]); (try simp only [List.set_cons_zero])
        refine wpAnyH_take (i := 10) (v := ?_) rfl (by kernel_rfl) (by kernel_rfl) (by kernel_rfl) (fun _ _ _ h => h) (Or.inl ⟨by kernel_rfl, ?_⟩) hHeld ?_
        rotate_left
        · intro w' hSw
          (try dsimp only at hSw)
          (try simp only [List.getElem_toArray]); (try simp only [List.getElem_cons_succ]); (try simp only [List.getElem_cons_zero])
          go_simp
          try with_reducible rfl
        (try simp only [Act.put]); (try simp only [List.getElem_toArray]); (try simp only [List.getElem_cons_succ]); (try simp only [List.getElem_cons_zero]); (try simp only [List.setIfInBounds_toArray]); (try simp only [List.set_cons_succ]); (try simp only [List.set_cons_zero])
        refine wpAnyH_take (i := 11) (v := ?_) rfl (by kernel_rfl) (by kernel_rfl) (by kernel_rfl) (fun _ _ _ h => h) (Or.inl ⟨by kernel_rfl, ?_⟩) hHeld ?_
        rotate_left
        · intro w' hSw
          (try dsimp only at hSw)
          (try simp only [List.getElem_toArray]); (try simp only [List.getElem_cons_succ]); (try simp only [List.getElem_cons_zero])
          go_simp
          try with_reducible rfl
        (try simp only [Act.put]); (try simp only [List.getElem_toArray]); (try simp only [List.getElem_cons_succ]); (try simp only [List.getElem_cons_zero]); (try simp only [List.setIfInBounds_toArray]); (try simp only [List.set_cons_succ]); (try simp only [List.set_cons_zero])
        have f1 := row6.frozen 1
        have k7 : Keep (· = g) w6 (w6.setCell ⟨g, 1, none⟩ (.slice aN (Q.length + 1) cN)) := (Keep.refl (· = g) w6).setCell (fun _ => rfl) _
        have k7p := k6p.then k7 (fun i _ hi => by rw [hi]; exact hp)
        have row7 : RowIs (w6.setCell ⟨g, 1, none⟩ (.slice aN (Q.length + 1) cN)) g 49 [.slice aS S.length cS, .slice aN (Q.length + 1) cN, .int .i64 y2, .bool y1] := row6.set 1 _
        have rowT7 := rowT6.keep k7 (fun e => by omega)
        replace own7 := owned_keep own7 k7 (fun b' hb' e => (hap.out b' hb').2 e)
        have hng : ∀ b', OwnB (.slice aN (Q.length + 1) cN) b' → b' ≠ g := fun b' hb' => by
          rcases hfresh b' hb' with h | h
          · exact (haq.out b' h).2.1
          · have := hgl.out; omega
        replace own6 := owned_keep own6 k7 (fun b' hb' e => hng b' hb' e)
        refine wpAnyH_ready (rs := [12]) (by kernel_rfl) (by simp) ?_
        refine AllReadyH.cons rfl (fun K hK => ?_) AllReadyH.nil
        have x1 := row6.cell 1
        (try simp only [List.getElem?_cons_succ] at x1); (try simp only [List.getElem?_cons_zero] at x1)
        go_simp
        clear x1 f1
        refine hK.out _ _ ((A_arr.rowLoad rowT7 HL64.out)) (fun hHeld => ?_)
        clear hK K
        (try simp only [Act.put]); (try simp only [List.getElem_toArray]); (try simp only [List.getElem_cons_succ]); (try simp only [List.getElem_cons_zero]); (try simp only [List.setIfInBounds_toArray]); (try simp only [List.set_cons_succ]); (try simp only [List.set_cons_zero])
        refine wpAnyH_done (by kernel_rfl) ?_ _
        clear hHeld
        have HEND : ∀ v : Int, v = (if y3 = true then 3 else 0) → RPost p g w (.int .i64 (writeF S Q false ar n l).1) S (writeF S Q false ar n l).2.1 (writeF S Q false ar n l).2.2.1 (writeF S Q false ar n l).2.2.2 (.returned (.int .i64 v)) (w6.setCell ⟨g, 1, none⟩ (.slice aN (Q.length + 1) cN)) := by
          intro v hv
          rw [HFF.out, hv]
          refine ⟨rfl, ⟨aS, cS, aN, cN, ?_, own7, ?_, .inl hp, fun b' hb' => ⟨.inl (hap.out b' hb').1, (hap.out b' hb').2⟩, ?_⟩, k7p⟩
          · rw [List.length_append]; exact row7
          · rw [List.length_append, wrts_snoc]; exact own6
          · intro b' hb'
            rw [List.length_append] at hb'
            refine ⟨?_, hng b' hb', ?_⟩
            · rcases hfresh b' hb' with h | h
              · exact .inl (haq.out b' h).1
              · exact .inr (Nat.le_trans hwd.out h)
            · rcases hfresh b' hb' with h | h
              · exact (haq.out b' h).2.2
              · intro hx; have := hslt.out b' hx; omega
        have HE := Lib.hid HEND
        clear HEND k7p own7 own6 hng hfresh k6p k6 row6 k7 hqd hsd rowD kd row7 rowT7 rowT6 rowT hgq
        generalize w6.setCell ⟨g, 1, none⟩ (.slice aN (Q.length + 1) cN) = w7 at *
        cases y3 with
        | true =>
          go_wp2_with fail
          go_ret
          exact HE.out 3 rfl
        | false =>
          go_wp2_with fail
          go_ret
          exact HE.out 0 rfl
end
end Go.Proofs.Ytdnbpfohmhhmkaa
