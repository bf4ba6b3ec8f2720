/- PAGES: the laws' own list: CopyPair, Put. Printed by mac.py. -/
import Derived.Test.YthkocgpbpgfocaaPgH
namespace Go.Proofs.Ythkocgpbpgfocaa
open Go.RowKit

theorem step_app {P : Program} {ops : Array Oper} {o : Oper} {a : Act} {K : Act → World → Prop} {Q : Exit → Act → World → Prop} {E : Prop} {w w' : World} {t : TypeId} {v y r : Value} (hw : Region.wanted o (yielded ops a.tmps) = true) (s x : Operand)
    (ho : o.op = .call { callee := .builtin .append, args := #[s, x], argTypes := #[t, t] }) (hs : a.eval s = v) (hx : a.eval x = y) (hrun : (Builtin.append_ #[t, t] o.type #[v, y]).run P w = .ok r w') (h : K (a.put o.dst r) w') :
    if Region.wanted o (yielded ops a.tmps) = true then Oper.wp P o a w K Q else E := by
  rw [if_pos hw]
  unfold Oper.wp
  simp only [execOp, ho, resolve, invoke, builtin, List.map_toArray, List.map_cons, List.map_nil, hs, hx, hrun, Sem.run_bind, Sem.run_pure, Result.andThen_ok]
  exact h
theorem appN_run {P : Program} {t e sz bytes : Nat} (T : SliceT P t e sz bytes) {w : World} (ty : TypeId) (base : Nat) {v : Value} {n : Nat} {xs : List Value} (hown : w.ownsRow base e sz v n xs)
    {p : Nat → Prop} {ad : Option Addr} {m c : Nat} (news : List Value) (hl : news.length = m * sz) (hlies : Lies w p ad news) (h1 : ∀ u ∈ news, u.oneCell' = true)
    (h63 : n + m ≤ maxLen) (hbytes : (n + m) * bytes ≤ 140737488355328) (hbase : base ≤ w.heap.size) :
    ∃ a' cap' w', (Builtin.append_ #[t, t] ty #[v, .slice ad m c]).run P w = .ok (.slice a' (n + m) cap') w' ∧ w'.ownsRow base e sz (.slice a' (n + m) cap') (n + m) (xs ++ news) ∧ Keep (OwnB v) w w' := by
  obtain ⟨i, z, hi, hz, hsz, hby, hzs⟩ := T.info
  by_cases hm : m = 0
  · subst hm
    have hn : news = [] := List.eq_nil_of_length_eq_zero (by simpa using hl)
    subst hn
    have hrun : (Builtin.append_ #[t, t] ty #[v, .slice ad 0 c]).run P w = .ok v w := by
      rcases hown.2 with ⟨rfl, rfl⟩ | ⟨g, cap, cur, rfl, _, _, hnc, _⟩
      · cases ad <;> simp [Builtin.append_, run_underlying T.under, sizeOf, typeInfo, hi, Builtin.lenOf, Builtin.firstCells, loadCells, loadCellsFrom]
      · cases ad <;> simp [Builtin.append_, run_underlying T.under, sizeOf, typeInfo, hi, Builtin.lenOf, Builtin.firstCells, loadCells, loadCellsFrom, hnc, storeCells]
    obtain ⟨a', cap', rfl⟩ := owned_shape hown
    exact ⟨a', cap', w, hrun, by simpa using hown, Keep.refl _ _⟩
  · have hne : news ≠ [] := fun e => by subst e; have := Nat.mul_pos (Nat.pos_of_ne_zero hm) T.pos; simp at hl; omega
    obtain ⟨b, off, rfl, hp, hb, hc⟩ := hlies hne
    obtain ⟨v', w', hrun, hown', hg, -, -⟩ := run_append_own_at (P := P) w base t ty e i z sz bytes T.under hi hz hsz hby hzs T.pos v n xs hown ⟨b, off, none⟩ m c news hl (fun j u hu => by rw [Addr.add_lit]; exact hc j u hu) h1 h63 hbytes hbase
    obtain ⟨a', cap', rfl⟩ := owned_shape hown'
    exact ⟨a', cap', w', hrun, hown', (Keep.refl _ w).grown hg (fun _ hk _ => hk)⟩
set_option maxRecDepth 100000 in
theorem copyBytes_c {p : Nat → Prop} (a : Option Addr) (c : Nat) (l : List UInt8) (w : World) (hl : Lies w p a (l.map bv)) (hr : l.length ≤ 140737488351232) :
    Calls Try.prog 41 #[.slice a l.length c] w fun e w' => ∃ a' c', e = .returned (.slice a' l.length c') ∧ w'.ownsRow w.heap.size 5 1 (.slice a' l.length c') l.length (l.map bv) ∧ Keep Nix w w' := by
  have HL := Lib.hid hl
  clear hl
  go_enter Try.func41, Try.ntmps41
  go_wp2_with (at_builtin; refine wpl_append (m := l.length) (c := c) T_bytes ?hgd (.const (.slice none 0 0)) (.tmp 3) ?ho w.heap.size ?hs (World.ownsRow_nil w w.heap.size 5 1) (l.map bv) ?hx ?c0 HL.out ?c1 ?c2 ?c3 ?c4 ?_)
  case hgd => rfl
  case ho => rfl
  case hs => rfl
  case hx => rfl
  case c0 => simp
  case c1 => exact bv_one l
  case c2 => unfold maxLen; omega
  case c3 => omega
  case c4 => exact Nat.le_refl _
  intro a' cap' w2 own2 hg2
  have k2 : Keep Nix w w2 := (Keep.refl _ w).grown hg2 (fun k h => by cases h)
  clear hg2
  go_wp2_with fail
  go_ret
  exact ⟨a', cap', rfl, own2, k2⟩
set_option maxRecDepth 100000 in
set_option maxHeartbeats 1000000 in
theorem copyPair_c {p : Nat → Prop} (x : GPair) (cs : List Value) (w : World) (hx : rGPair w p cs x) :
    Calls Try.prog 27 #[.agg cs.toArray] w fun e w' => ∃ cn : List Value, e = .returned (.agg cn.toArray) ∧ OwnP w' w.heap.size cn x ∧ Keep Nix w w' := by
  obtain ⟨aK, cK, aV, cV, rfl, hk, hv, hz, -⟩ := rGPair_open hx
  have k0 : Keep Nix w ((w.alloc (.cells #[.slice aK x.fKey.length cK, .slice aV x.fValue.length cV, .int .i64 x.fVersion] 29)).alloc (.cells #[.slice none 0 0, .slice none 0 0, .int .i64 0] 29)) := ((Keep.refl Nix w).alloc _).alloc _
  have rowP : RowIs ((w.alloc (.cells #[.slice aK x.fKey.length cK, .slice aV x.fValue.length cV, .int .i64 x.fVersion] 29)).alloc (.cells #[.slice none 0 0, .slice none 0 0, .int .i64 0] 29)) w.heap.size 29 [.slice aK x.fKey.length cK, .slice aV x.fValue.length cV, .int .i64 x.fVersion] := (RowIs.alloc w #[.slice aK x.fKey.length cK, .slice aV x.fValue.length cV, .int .i64 x.fVersion] 29).keep ((Keep.refl Nix _).alloc _) id
  have rowZ : RowIs ((w.alloc (.cells #[.slice aK x.fKey.length cK, .slice aV x.fValue.length cV, .int .i64 x.fVersion] 29)).alloc (.cells #[.slice none 0 0, .slice none 0 0, .int .i64 0] 29)) (w.heap.size + 1) 29 [.slice none 0 0, .slice none 0 0, .int .i64 0] := by
    have h := RowIs.alloc (w.alloc (.cells #[.slice aK x.fKey.length cK, .slice aV x.fValue.length cV, .int .i64 x.fVersion] 29)) #[.slice none 0 0, .slice none 0 0, .int .i64 0] 29
    simpa using h
  have hs0 : Hid ((((w.alloc (.cells #[.slice aK x.fKey.length cK, .slice aV x.fValue.length cV, .int .i64 x.fVersion] 29)).alloc (.cells #[.slice none 0 0, .slice none 0 0, .int .i64 0] 29))).heap.size = w.heap.size + 2) := by show _ = _; simp
  have HK := Lib.hid (hk.1.keep k0 (fun _ _ h => h))
  have HV := Lib.hid (hv.1.keep k0 (fun _ _ h => h))
  have hkf := hk.2.2
  have hvf := hv.2.2
  have HZ := Lib.hid hz
  have hinfo : (Try.prog.info? 29).map (·.size) = some 3 := by kernel_rfl
  unfold far at hkf hvf
  clear hx hk hv hz
  go_enter Try.func27, Try.ntmps27
  go_upto_region 1 with fail
  generalize ((w.alloc (.cells #[.slice aK x.fKey.length cK, .slice aV x.fValue.length cV, .int .i64 x.fVersion] 29)).alloc (.cells #[.slice none 0 0, .slice none 0 0, .int .i64 0] 29)) = w0 at *
  have x0 := rowP.cell 0
  (try simp only [List.getElem?_cons_zero] at x0)
  have x1 := rowP.cell 1
  (try simp only [List.getElem?_cons_succ] at x1); (try simp only [List.getElem?_cons_zero] at x1)
  have x2 := rowP.cell 2
  (try simp only [List.getElem?_cons_succ] at x2); (try simp only [List.getElem?_cons_zero] at x2)
  have kd : Keep Nix w0 w0.drew := (Keep.refl Nix w0).drew
  refine wp_region_held_drew (S := (fun w' => w'.cell? ⟨w.heap.size, 0, none⟩ = some (.slice aK x.fKey.length cK) ∧ w'.cell? ⟨w.heap.size, 1, none⟩ = some (.slice aV x.fValue.length cV) ∧ w'.cell? ⟨w.heap.size, 2, none⟩ = some (.int .i64 x.fVersion))) (by kernel_rfl) (⟨x0, x1, x2⟩) (fun hHeld => ?_)
  clear x0 x1 x2
  have hpl := rowP.lt
  generalize w0.drew = wd at *
  refine wpAnyH_take (i := 0) (v := ?_) rfl (by kernel_rfl) (by kernel_rfl) (by kernel_rfl) (fun _ _ _ h => h) (Or.inl ⟨by kernel_rfl, ?_⟩) hHeld ?_
  rotate_left
  · intro w' hSw
    (try dsimp only at hSw)
    (try simp only [List.getElem_toArray]); (try simp only [List.getElem_cons_succ]); (try simp only [List.getElem_cons_zero])
    go_simp
    try with_reducible rfl
  (try simp only [Act.put]); (try simp only [List.getElem_toArray]); (try simp only [List.getElem_cons_succ]); (try simp only [List.getElem_cons_zero]); (try simp only [List.setIfInBounds_toArray]); (try simp only [List.set_cons_succ]); (try simp only [List.set_cons_zero])
  refine wpAnyH_take (i := 1) (v := ?_) rfl (by kernel_rfl) (by kernel_rfl) (by kernel_rfl) (fun _ _ _ h => h) (Or.inl ⟨by kernel_rfl, ?_⟩) hHeld ?_
  rotate_left
  · intro w' hSw
    (try dsimp only at hSw)
    (try simp only [List.getElem_toArray]); (try simp only [List.getElem_cons_succ]); (try simp only [List.getElem_cons_zero])
    go_simp
    try with_reducible rfl
  (try simp only [Act.put]); (try simp only [List.getElem_toArray]); (try simp only [List.getElem_cons_succ]); (try simp only [List.getElem_cons_zero]); (try simp only [List.setIfInBounds_toArray]); (try simp only [List.set_cons_succ]); (try simp only [List.set_cons_zero])
  refine wpAnyH_take (i := 3) (v := ?_) rfl (by kernel_rfl) (by kernel_rfl) (by kernel_rfl) (fun _ _ _ h => h) (Or.inl ⟨by kernel_rfl, ?_⟩) hHeld ?_
  rotate_left
  · intro w' hSw
    (try dsimp only at hSw)
    (try simp only [List.getElem_toArray]); (try simp only [List.getElem_cons_succ]); (try simp only [List.getElem_cons_zero])
    go_simp
    try with_reducible rfl
  (try simp only [Act.put]); (try simp only [List.getElem_toArray]); (try simp only [List.getElem_cons_succ]); (try simp only [List.getElem_cons_zero]); (try simp only [List.setIfInBounds_toArray]); (try simp only [List.set_cons_succ]); (try simp only [List.set_cons_zero])
  refine wpAnyH_take (i := 4) (v := ?_) rfl (by kernel_rfl) (by kernel_rfl) (by kernel_rfl) (fun _ _ _ h => h) (Or.inl ⟨by kernel_rfl, ?_⟩) hHeld ?_
  rotate_left
  · intro w' hSw
    (try dsimp only at hSw)
    (try simp only [List.getElem_toArray]); (try simp only [List.getElem_cons_succ]); (try simp only [List.getElem_cons_zero])
    go_simp
    try with_reducible rfl
  (try simp only [Act.put]); (try simp only [List.getElem_toArray]); (try simp only [List.getElem_cons_succ]); (try simp only [List.getElem_cons_zero]); (try simp only [List.setIfInBounds_toArray]); (try simp only [List.set_cons_succ]); (try simp only [List.set_cons_zero])
  refine wpAnyH_take (i := 6) (v := ?_) rfl (by kernel_rfl) (by kernel_rfl) (by kernel_rfl) (fun _ _ _ h => h) (Or.inl ⟨by kernel_rfl, ?_⟩) hHeld ?_
  rotate_left
  · intro w' hSw
    (try dsimp only at hSw)
    (try simp only [List.getElem_toArray]); (try simp only [List.getElem_cons_succ]); (try simp only [List.getElem_cons_zero])
    go_simp
    try with_reducible rfl
  (try simp only [Act.put]); (try simp only [List.getElem_toArray]); (try simp only [List.getElem_cons_succ]); (try simp only [List.getElem_cons_zero]); (try simp only [List.setIfInBounds_toArray]); (try simp only [List.set_cons_succ]); (try simp only [List.set_cons_zero])
  refine wpAnyH_take (i := 7) (v := ?_) rfl (by kernel_rfl) (by kernel_rfl) (by kernel_rfl) (fun _ _ _ h => h) (Or.inl ⟨by kernel_rfl, ?_⟩) hHeld ?_
  rotate_left
  · intro w' hSw
    (try dsimp only at hSw)
    (try simp only [List.getElem_toArray]); (try simp only [List.getElem_cons_succ]); (try simp only [List.getElem_cons_zero])
    go_simp
    try with_reducible rfl
  (try simp only [Act.put]); (try simp only [List.getElem_toArray]); (try simp only [List.getElem_cons_succ]); (try simp only [List.getElem_cons_zero]); (try simp only [List.setIfInBounds_toArray]); (try simp only [List.set_cons_succ]); (try simp only [List.set_cons_zero])
  refine wpAnyH_ready (rs := [2]) (by kernel_rfl) (by simp) ?_
  refine AllReadyH.cons rfl (fun K hK => ?_) AllReadyH.nil
  go_simp
  go_fit (copyBytes_c aK cK x.fKey wd (HK.out.keep kd (fun _ _ h => h)) hkf)
  rintro e w1 ⟨a1, c1, rfl, own1, k1⟩
  go_wp2_with fail
  have kB := kd.trans k1
  have hp1 := Nat.lt_of_lt_of_le hpl kd.size
  refine hK.out _ _ (⟨(k1.cell (p := ⟨w.heap.size, 0, none⟩) hp1 id).trans hHeld.1, (k1.cell (p := ⟨w.heap.size, 1, none⟩) hp1 id).trans hHeld.2.1, (k1.cell (p := ⟨w.heap.size, 2, none⟩) hp1 id).trans hHeld.2.2⟩) (fun hHeld => ?_)
  clear hK K
  (try simp only [Act.put]); (try simp only [List.getElem_toArray]); (try simp only [List.getElem_cons_succ]); (try simp only [List.getElem_cons_zero]); (try simp only [List.setIfInBounds_toArray]); (try simp only [List.set_cons_succ]); (try simp only [List.set_cons_zero])
  refine wpAnyH_ready (rs := [5]) (by kernel_rfl) (by simp) ?_
  refine AllReadyH.cons rfl (fun K hK => ?_) AllReadyH.nil
  go_simp
  go_fit (copyBytes_c aV cV x.fValue w1 (HV.out.keep kB (fun _ _ h => h)) hvf)
  rintro e w2 ⟨a2, c2, rfl, own2, k2⟩
  go_wp2_with fail
  have kC := kB.trans k2
  have hp2 := Nat.lt_of_lt_of_le hpl kB.size
  refine hK.out _ _ (⟨(k2.cell (p := ⟨w.heap.size, 0, none⟩) hp2 id).trans hHeld.1, (k2.cell (p := ⟨w.heap.size, 1, none⟩) hp2 id).trans hHeld.2.1, (k2.cell (p := ⟨w.heap.size, 2, none⟩) hp2 id).trans hHeld.2.2⟩) (fun hHeld => ?_)
  clear hK K
  (try simp only [Act.put]); (try simp only [List.getElem_toArray]); (try simp only [List.getElem_cons_succ]); (try simp only [List.getElem_cons_zero]); (try simp only [List.setIfInBounds_toArray]); (try simp only [List.set_cons_succ]); (try simp only [List.set_cons_zero])
  refine wpAnyH_take (i := 8) (v := ?_) rfl (by kernel_rfl) (by kernel_rfl) (by kernel_rfl) (fun _ _ _ h => h) (Or.inl ⟨by kernel_rfl, ?_⟩) hHeld ?_
  rotate_left
  · intro w' hSw
    (try dsimp only at hSw)
    (try simp only [List.getElem_toArray]); (try simp only [List.getElem_cons_succ]); (try simp only [List.getElem_cons_zero])
    go_simp
    try with_reducible rfl
  (try simp only [Act.put]); (try simp only [List.getElem_toArray]); (try simp only [List.getElem_cons_succ]); (try simp only [List.getElem_cons_zero]); (try simp only [List.setIfInBounds_toArray]); (try simp only [List.set_cons_succ]); (try simp only [List.set_cons_zero])
  have rowZ2 := rowZ.keep kC id
  have z0 := rowZ2.cell 0
  (try simp only [List.getElem?_cons_zero] at z0)
  have z1 := rowZ2.cell 1
  (try simp only [List.getElem?_cons_succ] at z1); (try simp only [List.getElem?_cons_zero] at z1)
  have z2 := rowZ2.cell 2
  (try simp only [List.getElem?_cons_succ] at z2); (try simp only [List.getElem?_cons_zero] at z2)
  have zf0 := rowZ2.frozen 0
  have zf1 := rowZ2.frozen 1
  have zf2 := rowZ2.frozen 2
  refine wpAnyH_ready (rs := [9]) (by kernel_rfl) (by simp) ?_
  refine AllReadyH.cons rfl (fun K hK => ?_) AllReadyH.nil
  go_simp
  have kS : Keep (· = w.heap.size + 1) w2 (((w2.setCell ⟨w.heap.size + 1, 0, none⟩ (.slice a1 x.fKey.length c1)).setCell ⟨w.heap.size + 1, 1, none⟩ (.slice a2 x.fValue.length c2)).setCell ⟨w.heap.size + 1, 2, none⟩ (.int .i64 x.fVersion)) := (((Keep.refl (· = w.heap.size + 1) w2).setCell (p := ⟨w.heap.size + 1, 0, none⟩) (fun _ => rfl) _).setCell (p := ⟨w.heap.size + 1, 1, none⟩) (fun _ => rfl) _).setCell (p := ⟨w.heap.size + 1, 2, none⟩) (fun _ => rfl) _
  have hp3 := Nat.lt_of_lt_of_le hpl kC.size
  have hne : w.heap.size ≠ w.heap.size + 1 := by omega
  refine hK.out _ _ (⟨(kS.cell (p := ⟨w.heap.size, 0, none⟩) hp3 hne).trans hHeld.1, (kS.cell (p := ⟨w.heap.size, 1, none⟩) hp3 hne).trans hHeld.2.1, (kS.cell (p := ⟨w.heap.size, 2, none⟩) hp3 hne).trans hHeld.2.2⟩) (fun hHeld => ?_)
  clear hK K
  (try simp only [Act.put]); (try simp only [List.getElem_toArray]); (try simp only [List.getElem_cons_succ]); (try simp only [List.getElem_cons_zero]); (try simp only [List.setIfInBounds_toArray]); (try simp only [List.set_cons_succ]); (try simp only [List.set_cons_zero])
  refine wpAnyH_done (by kernel_rfl) ?_ _
  clear hHeld z0 z1 z2 zf0 zf1 zf2
  have rowR : RowIs (((w2.setCell ⟨w.heap.size + 1, 0, none⟩ (.slice a1 x.fKey.length c1)).setCell ⟨w.heap.size + 1, 1, none⟩ (.slice a2 x.fValue.length c2)).setCell ⟨w.heap.size + 1, 2, none⟩ (.int .i64 x.fVersion)) (w.heap.size + 1) 29 [.slice a1 x.fKey.length c1, .slice a2 x.fValue.length c2, .int .i64 x.fVersion] := ((rowZ2.set 0 (.slice a1 x.fKey.length c1)).set 1 (.slice a2 x.fValue.length c2)).set 2 (.int .i64 x.fVersion)
  go_wp2_with fail
  refine bodyPost_ret (results_cell_row (by rfl) _ _ _ _ _ _ _ (by rfl) rowR Try.underlying29 (by rfl) hinfo) rfl ?_
  have h01 := k0.size
  have hkd := kd.size
  have hw0 := hs0.out
  refine ⟨[.slice a1 x.fKey.length c1, .slice a2 x.fValue.length c2, .int .i64 x.fVersion], rfl, ⟨a1, c1, a2, c2, rfl, ?_, ?_, ?_, HZ.out, by unfold far; exact hkf, by unfold far; exact hvf⟩, (k0.trans kC).then kS (fun i hi e => by omega)⟩
  · exact owned_keep (own_from (owned_keep own1 k2 (fun _ _ h => h)) (by omega)) kS (fun b hb e => by have := (own1.lt b hb).1; omega)
  · exact owned_keep (own_from own2 (by have := kB.size; omega)) kS (fun b hb e => by have := (own2.lt b hb).1; have := kB.size; omega)
  · intro b h1 h2
    have := (own1.lt b h1).2
    have := (own2.lt b h2).1
    omega
end Go.Proofs.Ythkocgpbpgfocaa
