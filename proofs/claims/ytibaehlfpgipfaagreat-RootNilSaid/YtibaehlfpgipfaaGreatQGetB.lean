/- LISTS OF A READER: package wire's items[T]. Printed by gen8.py. -/
import Derived.Test.YtibaehlfpgipfaaGreatQItems
import Derived.Deep.RegionHeld3
namespace Go.Proofs.YtibaehlfpgipfaaGreat
open Go.RowKit

def pGPair : Ps GPair := fun s0 =>
  let a0 := pBytes s0
  let a1 := pBytes a0.2
  let a2 := pInt a1.2
  (⟨a0.1, a1.1, a2.1⟩, a2.2)
theorem S_Pair : StructT Tryz.prog 114 3 := ⟨⟨_, Tryz.underlying114⟩, by kernel_rfl⟩
theorem B_Pair : BuildT Tryz.prog 114 [1, 1, 1] := by
  obtain ⟨i, hi, hz, -, -⟩ := info_parts (by kernel_rfl : (Tryz.prog.info? 114).map (fun i => (i.zero, i.size, i.bytes)) = some (some (.agg #[.slice none 0 0, .slice none 0 0, .int .i64 0]), 3, 56))
  exact ⟨_, i, _, [(0, 1), (1, 1), (2, 1)], Tryz.underlying114, hi, hz, rfl, by kernel_rfl, rfl, by decide⟩
theorem bd_Pair (a : Act) (dst : Option Tmp) (ty : TypeId) (pos : String) (after : Array Edge) (guard : Option (Nat × Bool)) (parts : Array (Nat × Operand)) : execOp a.eval { dst := dst, op := .build 114 parts, type := ty, pos := pos, after := after, guard := guard } = buildSem 114 (parts.map fun x => (x.1, a.eval x.2)) := rfl
theorem st_Pair (a : Act) (dst : Option Tmp) (ty : TypeId) (pos : String) (after : Array Edge) (guard : Option (Nat × Bool)) (x y : Operand) : execOp a.eval { dst := dst, op := .store 114 x y, type := ty, pos := pos, after := after, guard := guard } = storeSem 114 (a.eval x) (a.eval y) := rfl
section
attribute [local go_sem ↓] bd_Pair st_Pair
set_option maxRecDepth 100000 in
set_option maxHeartbeats 8000000 in
theorem gPair_c (rd : Nat) (p : Nat → Prop) (s : RdS) (w : World) (h : IsRd w 151 rd p s) (hpl : ∀ b, p b → b < w.heap.size) :
    Calls Tryz.prog 134 #[.agg #[.pointer (some ⟨rd, 0, none⟩)]] w (GetsS wGPair 151 rd p w (pGPair s)) := by
  have hlt := h.lt
  have hmf : ∀ (fn : Fn) (first cap : Array Value) (w : World), (Instr.makeFunc fn first cap).run Tryz.prog w = .ok (.func fn first cap) w := fun _ _ _ _ => rfl
  have hsz : (w.alloc (.cells #[.pointer (some ⟨rd, 0, none⟩)] 154)).heap.size = w.heap.size + 1 := by simp
  have rowB : RowIs ((w.alloc (.cells #[.pointer (some ⟨rd, 0, none⟩)] 154)).alloc (.cells #[.slice none 0 0, .slice none 0 0, .int .i64 0] 114)) w.heap.size 154 [.pointer (some ⟨rd, 0, none⟩)] := (RowIs.alloc w _ _).keep ((Keep.refl Nix _).alloc _) id
  have rowR : RowIs ((w.alloc (.cells #[.pointer (some ⟨rd, 0, none⟩)] 154)).alloc (.cells #[.slice none 0 0, .slice none 0 0, .int .i64 0] 114)) (w.heap.size + 1) 114 [.slice none 0 0, .slice none 0 0, .int .i64 0] := by
    rw [← hsz]
    exact RowIs.alloc (w.alloc (.cells #[.pointer (some ⟨rd, 0, none⟩)] 154)) _ _
  have hr := h.nix (((Keep.refl Nix w).alloc (.cells #[.pointer (some ⟨rd, 0, none⟩)] 154)).alloc (.cells #[.slice none 0 0, .slice none 0 0, .int .i64 0] 114))
  have kk : Keep (· = rd) w ((w.alloc (.cells #[.pointer (some ⟨rd, 0, none⟩)] 154)).alloc (.cells #[.slice none 0 0, .slice none 0 0, .int .i64 0] 114)) := ((Keep.refl (· = rd) w).alloc _).alloc _
  clear h hsz
  replace rowB := rowB.same (w' := ((w.alloc (.cells #[.pointer (some ⟨rd, 0, none⟩)] 154)).alloc (.cells #[.slice none 0 0, .slice none 0 0, .int .i64 0] 114)).drew)
  replace rowR := rowR.same (w' := ((w.alloc (.cells #[.pointer (some ⟨rd, 0, none⟩)] 154)).alloc (.cells #[.slice none 0 0, .slice none 0 0, .int .i64 0] 114)).drew)
  replace hr := hr.same (w' := ((w.alloc (.cells #[.pointer (some ⟨rd, 0, none⟩)] 154)).alloc (.cells #[.slice none 0 0, .slice none 0 0, .int .i64 0] 114)).drew)
  replace kk := kk.drew
  go_enter Tryz.func134, Tryz.ntmps134
  go_wp2_with fail
  refine wp_region_held_drew (S := (fun w' => w'.cell? ⟨w.heap.size, 0, none⟩ = some (.pointer (some ⟨rd, 0, none⟩)))) (by kernel_rfl) (rowB.cell 0) (fun hHeld => ?_)
  refine wpAnyH_take (i := 0) (v := ?_) rfl (by kernel_rfl) (by kernel_rfl) (by kernel_rfl) (fun _ _ _ h => h) (Or.inl ⟨by rfl, ?_⟩) hHeld ?_
  rotate_left
  · intro w' hSw
    (try dsimp only at hSw)
    go_simp
    try with_reducible rfl
  (try simp only [Act.put]); (try simp only [List.setIfInBounds_toArray]); (try simp only [List.set_cons_succ]); (try simp only [List.set_cons_zero])
  refine wpAnyH_take (i := 2) (v := ?_) rfl (by kernel_rfl) (by kernel_rfl) (by kernel_rfl) (fun _ _ _ h => h) (Or.inl ⟨by rfl, ?_⟩) hHeld ?_
  rotate_left
  · intro w' hSw
    (try dsimp only at hSw)
    go_simp
    try with_reducible rfl
  (try simp only [Act.put]); (try simp only [List.setIfInBounds_toArray]); (try simp only [List.set_cons_succ]); (try simp only [List.set_cons_zero])
  refine wpAnyH_take (i := 4) (v := ?_) rfl (by kernel_rfl) (by kernel_rfl) (by kernel_rfl) (fun _ _ _ h => h) (Or.inl ⟨by rfl, ?_⟩) hHeld ?_
  rotate_left
  · intro w' hSw
    (try dsimp only at hSw)
    go_simp
    try with_reducible rfl
  (try simp only [Act.put]); (try simp only [List.setIfInBounds_toArray]); (try simp only [List.set_cons_succ]); (try simp only [List.set_cons_zero])
  refine wpAnyH_ready (rs := [1]) (by kernel_rfl) (by simp) ?_
  refine AllReadyH.cons rfl (fun K hK => ?_) AllReadyH.nil
  go_simp
  go_fit (rbytes_g rd p _ _ hr)
  rintro e w1 ⟨v, rfl, q0, hr', k0⟩
  generalize hy0 : pBytes s = y0 at hr' q0
  replace hy0 := Lib.hid hy0
  obtain ⟨a0, cc0, hv, q0'⟩ := rBytesW_open q0
  simp only [List.cons.injEq, and_true] at hv
  subst hv
  clear q0
  have q0 := q0'
  clear q0'
  have rowRl := rowR.lt
  replace rowB := rowB.keep k0 (by omega)
  replace rowR := rowR.keep k0 (by omega)
  have hRl := rowRl
  replace kk := kk.trans k0
  replace q0 := rBytesW_lawful.mono q0 (fun b hb => (⟨by have := hb.1; omega, hb.2⟩ : NewAt (w.heap.size + 2) w1 b))
  clear hRl
  replace hr := hr'
  clear hr' k0 rowRl
  go_wp2_with fail
  refine hK.out _ _ (rowB.cell 0) (fun hHeld => ?_)
  clear hK K
  (try simp only [Act.put]); (try simp only [List.setIfInBounds_toArray]); (try simp only [List.set_cons_succ]); (try simp only [List.set_cons_zero])
  refine wpAnyH_ready (rs := [3]) (by kernel_rfl) (by simp) ?_
  refine AllReadyH.cons rfl (fun K hK => ?_) AllReadyH.nil
  go_simp
  go_fit (rbytes_g rd p _ _ hr)
  rintro e w2 ⟨v, rfl, q1, hr', k1⟩
  generalize hy1 : pBytes y0.2 = y1 at hr' q1
  replace hy1 := Lib.hid hy1
  obtain ⟨a1, cc1, hv, q1'⟩ := rBytesW_open q1
  simp only [List.cons.injEq, and_true] at hv
  subst hv
  clear q1
  have q1 := q1'
  clear q1'
  have rowRl := rowR.lt
  replace q0 := rBytesW_lawful.mono (rBytesW_lawful.keep q0 k1 (fun b hb e => by have := hb.1; omega)) (fun b hb => (⟨hb.1, Nat.lt_of_lt_of_le hb.2 k1.size⟩ : NewAt (w.heap.size + 2) w2 b))
  replace rowB := rowB.keep k1 (by omega)
  replace rowR := rowR.keep k1 (by omega)
  have hRl := rowRl
  replace kk := kk.trans k1
  replace q1 := rBytesW_lawful.mono q1 (fun b hb => (⟨by have := hb.1; omega, hb.2⟩ : NewAt (w.heap.size + 2) w2 b))
  clear hRl
  replace hr := hr'
  clear hr' k1 rowRl
  go_wp2_with fail
  refine hK.out _ _ (rowB.cell 0) (fun hHeld => ?_)
  clear hK K
  (try simp only [Act.put]); (try simp only [List.setIfInBounds_toArray]); (try simp only [List.set_cons_succ]); (try simp only [List.set_cons_zero])
  refine wpAnyH_ready (rs := [5]) (by kernel_rfl) (by simp) ?_
  refine AllReadyH.cons rfl (fun K hK => ?_) AllReadyH.nil
  go_simp
  go_fit (rint_g rd p _ _ hr)
  rintro e w3 ⟨rfl, hr', k2⟩
  have wf2 : Hid ((Lit.int .i64 (pInt y1.2).1).wf = true) := zag_wf (numS_lt maxU _)
  generalize hy2 : pInt y1.2 = y2 at hr' wf2 ⊢
  replace hy2 := Lib.hid hy2
  have rowRl := rowR.lt
  replace q0 := rBytesW_lawful.mono (rBytesW_lawful.keep q0 k2 (fun b hb e => by have := hb.1; omega)) (fun b hb => (⟨hb.1, Nat.lt_of_lt_of_le hb.2 k2.size⟩ : NewAt (w.heap.size + 2) w3 b))
  replace q1 := rBytesW_lawful.mono (rBytesW_lawful.keep q1 k2 (fun b hb e => by have := hb.1; omega)) (fun b hb => (⟨hb.1, Nat.lt_of_lt_of_le hb.2 k2.size⟩ : NewAt (w.heap.size + 2) w3 b))
  replace rowB := rowB.keep k2 (by omega)
  replace rowR := rowR.keep k2 (by omega)
  replace kk := kk.trans k2
  replace hr := hr'
  clear hr' k2 rowRl
  go_wp2_with fail
  refine hK.out _ _ (rowB.cell 0) (fun hHeld => ?_)
  clear hK K
  (try simp only [Act.put]); (try simp only [List.setIfInBounds_toArray]); (try simp only [List.set_cons_succ]); (try simp only [List.set_cons_zero])
  have hbd := fun w' => build_run (P := Tryz.prog) B_Pair [.slice a0 y0.1.length cc0, .slice a1 y1.1.length cc1, .int .i64 y2.1] (by simp only [List.map_cons, List.map_nil, size_int, size_slice]) w'
  simp only [numbered, Nat.reduceAdd] at hbd
  refine wpAnyH_take (i := 6) (v := ?_) rfl (by kernel_rfl) (by kernel_rfl) (by kernel_rfl) (fun _ _ _ h => h) (Or.inl ⟨by rfl, ?_⟩) hHeld ?_
  rotate_left
  · intro w' hSw
    (try dsimp only at hSw)
    (try simp only [List.getElem_toArray]); (try simp only [List.getElem_cons_succ]); (try simp only [List.getElem_cons_zero])
    go_simp
    try with_reducible rfl
  (try simp only [Act.put]); (try simp only [List.setIfInBounds_toArray]); (try simp only [List.set_cons_succ]); (try simp only [List.set_cons_zero])
  refine wpAnyH_ready (rs := [7]) (by kernel_rfl) (by simp) ?_
  refine AllReadyH.cons rfl (fun K hK => ?_) AllReadyH.nil
  have hjl : (joined [.slice a0 y0.1.length cc0, .slice a1 y1.1.length cc1, .int .i64 y2.1]).length = 3 := by simp only [joined_len, joined_len0, size_int, size_slice]
  have hjo : ones (joined [.slice a0 y0.1.length cc0, .slice a1 y1.1.length cc1, .int .i64 y2.1]) = true := by simp only [joined_ones, joined_ones0, ones_int, ones_slice, Bool.and_self]
  have hst := store_run (P := Tryz.prog) S_Pair rowR rfl hjl hjo
  have rowF := rowR.setRow (joined [.slice a0 y0.1.length cc0, .slice a1 y1.1.length cc1, .int .i64 y2.1])
  have kS := (Keep.refl (· = w.heap.size + 1) w3).setRow (fun _ => rfl) (joined [.slice a0 y0.1.length cc0, .slice a1 y1.1.length cc1, .int .i64 y2.1]).toArray
  replace rowB := rowB.keep kS (by omega)
  have HJL := Lib.hid hjl
  have HJO := Lib.hid hjo
  clear hjl hjo
  (try simp only [List.getElem_toArray]); (try simp only [List.getElem_cons_succ]); (try simp only [List.getElem_cons_zero])
  go_simp
  clear hst
  refine hK.out _ _ (rowB.cell 0) (fun hHeld => ?_)
  clear hK K
  (try simp only [Act.put]); (try simp only [List.setIfInBounds_toArray]); (try simp only [List.set_cons_succ]); (try simp only [List.set_cons_zero])
  refine wpAnyH_done (by kernel_rfl) ?_ _
  clear hbd hmf hHeld
  go_wp2_with fail
  have hinfo : (Tryz.prog.info? 114).map (·.size) = some (joined [.slice a0 y0.1.length cc0, .slice a1 y1.1.length cc1, .int .i64 y2.1]).toArray.size := by rw [List.size_toArray, HJL.out]; exact S_Pair.info
  refine bodyPost_ret (results_cell_row (by rfl) _ _ _ _ _ _ _ (by rfl) rowF Tryz.underlying114 (by rfl) hinfo) rfl ?_
  replace q0 := rBytesW_lawful.mono (rBytesW_lawful.keep q0 kS (fun b hb e => by have := hb.1; omega)) (fun b hb => (⟨by have := hb.1; omega, Nat.lt_of_lt_of_le hb.2 kS.size⟩ : NewIn w (w3.setRow (w.heap.size + 1) (joined [.slice a0 y0.1.length cc0, .slice a1 y1.1.length cc1, .int .i64 y2.1]).toArray) b))
  replace q1 := rBytesW_lawful.mono (rBytesW_lawful.keep q1 kS (fun b hb e => by have := hb.1; omega)) (fun b hb => (⟨by have := hb.1; omega, Nat.lt_of_lt_of_le hb.2 kS.size⟩ : NewIn w (w3.setRow (w.heap.size + 1) (joined [.slice a0 y0.1.length cc0, .slice a1 y1.1.length cc1, .int .i64 y2.1]).toArray) b))
  have HE : pGPair s = (⟨y0.1, y1.1, y2.1⟩, y2.2) := by simp only [pGPair, hy0.out, hy1.out, hy2.out]
  rw [HE]
  refine ⟨_, rfl, ⟨[_], [_], [_], by simp [joined, Value.cells], q0, q1, ⟨rfl, wf2.out⟩⟩, HJO.out, hr.keep kS (by omega) (fun b hb e => by have := hpl b hb; omega), kk.then kS (fun i hi e => by omega)⟩
end
theorem T_lPair : SliceT Tryz.prog 33 114 3 56 := SliceT.mk' Tryz.underlying33 (z := .agg #[.slice none 0 0, .slice none 0 0, .int .i64 0]) (by kernel_rfl) rfl (by decide)
theorem ls_Pair (a : Act) (dst : Option Tmp) (parts : Array (Nat × Operand)) (ty : TypeId) (pos : String) (after : Array Edge) (guard : Option (Nat × Bool)) : execOp a.eval { dst := dst, op := .buildSlice 33 1 parts, type := ty, pos := pos, after := after, guard := guard } = listSem 33 1 (parts.map fun x => (x.1, a.eval x.2)) := rfl
attribute [local go_sem ↓] ls_Pair
set_option maxRecDepth 100000 in
set_option maxHeartbeats 4000000 in
theorem itPair_c (rd : Nat) (p : Nat → Prop) (s : RdS) (w : World) (h : IsRd w 151 rd p s) (hpl : ∀ b, p b → b < w.heap.size) :
    Calls Tryz.prog 133 #[.agg #[.pointer (some ⟨rd, 0, none⟩)], .func (.func 134) #[.agg #[.pointer (some ⟨rd, 0, none⟩)]] #[]] w (GetsV (rList wGPair) 151 rd p w (pList pGPair s)) := by
  have hlt := h.lt
  have h0 := h.nix ((Keep.refl Nix w).alloc (.cells #[.pointer (some ⟨rd, 0, none⟩)] 154))
  have row0 : RowIs (w.alloc (.cells #[.pointer (some ⟨rd, 0, none⟩)] 154)) w.heap.size 154 [.pointer (some ⟨rd, 0, none⟩)] := RowIs.alloc w _ _
  have hle := numS_le 5000 s
  clear h
  go_enter Tryz.func133, Tryz.ntmps133
  go_wp2_with fail
  go_fit (Small_rd rd p s _ h0 5000 (by unfold isI64; omega))
  rintro e w1 ⟨rfl, h1, k1⟩
  have row1 := row0.keep k1 (by omega)
  have kk1 : Keep (· = rd) w w1 := ((Keep.refl (· = rd) w).alloc (.cells #[.pointer (some ⟨rd, 0, none⟩)] 154)).trans (k1.mono fun _ h => h)
  have HP : Hid (pList pGPair s = pMany pGPair (numS (5000 : Int).toNat s).1 (numS (5000 : Int).toNat s).2) := rfl
  have hle' : (numS (5000 : Int).toNat s).1 ≤ 5000 := hle
  clear h0 row0 k1 hle
  generalize numS (5000 : Int).toNat s = N at h1 HP hle' ⊢
  go_wp2_with fail
  go_loopw [5, 6] (fun l n wr => ∃ (xs : List GPair) (css : List (List Value)) (m : Nat) (s' : RdS) (a : Option Addr) (cap : Nat), l = .slice a xs.length cap ∧ n = .int .i64 m ∧ Hid (pMany pGPair N.1 N.2 = (xs ++ (pMany pGPair m s').1, (pMany pGPair m s').2)) ∧
      wr.ownsRow (w.heap.size + 1) 114 3 (.slice a xs.length cap) xs.length css.flatten ∧ Els wGPair wr (fun b => NewIn w wr b ∧ ¬ OwnB (.slice a xs.length cap) b) css xs ∧ IsRd wr 151 rd p s' ∧ RowIs wr w.heap.size 154 [.pointer (some ⟨rd, 0, none⟩)] ∧ Keep (· = rd) w wr ∧ xs.length + m ≤ 5000) (fun _ n _ => (intOf n).toNat)
  case atStart => exact ⟨[], [], N.1, N.2, none, 0, rfl, rfl, rfl, World.ownsRow_nil _ _ _ _, Els.nil _ _ _, h1, row1, kk1, by simpa using hle'⟩
  case round =>
    clear h1 row1 kk1 hle'
    obtain ⟨xs, css, m, s', a, cap, rfl, rfl, hp, own, els, hr, row, kk, hm⟩ := hrel
    have x0 : wr.cell? ⟨w.heap.size, 0, none⟩ = some (.pointer (some ⟨rd, 0, none⟩)) := row.cell 0
    have hfar : xs.length ≤ far := by unfold far; omega
    by_cases hm0 : m = 0
    · subst hm0
      clear hm
      go_wp2_with fail
      go_ret
      refine ⟨_, rfl, ?_, ?_, kk⟩
      · rw [HP.out, hp.out]; exact Els.list (Nat.le_succ _) own els wGPair_lawful (by simp [pMany]) hfar
      · rw [HP.out, hp.out]; exact hr
    · obtain ⟨m, rfl⟩ : ∃ m', m = m' + 1 := ⟨m - 1, by omega⟩
      have hpos : (0 : Int) < ((m + 1 : Nat) : Int) := by omega
      clear hm0
      go_wp2_with fail
      go_fit (Err_rd rd p s' wr hr)
      rintro e w2 ⟨rfl, k2⟩
      have own2 := owned_keep own k2 (fun _ _ h => h)
      have els2 := (els.keep wGPair_lawful (k2.nix (S := (· = rd))) (fun b hb e => by have := hb.1.1; omega)).mono (q := fun b => NewIn w w2 b ∧ ¬ OwnB (.slice a xs.length cap) b) wGPair_lawful (fun b hb => ⟨⟨hb.1.1, Nat.lt_of_lt_of_le hb.1.2 k2.size⟩, hb.2⟩)
      have hr2 := hr.nix k2
      have row2 := row.keep k2 (fun h => h)
      have kk2 : Keep (· = rd) w w2 := kk.trans (k2.nix)
      have hwr := kk.size
      have hsz2 := k2.size
      clear own els hr row kk x0
      have x0 : w2.cell? ⟨w.heap.size, 0, none⟩ = some (.pointer (some ⟨rd, 0, none⟩)) := row2.cell 0
      rcases test_eq s'.e 0 with ⟨ht, he⟩ | ⟨ht, he⟩
      · go_wp2_with fail
        go_fit (gPair_c rd p s' w2 hr2 (fun b hb => Nat.lt_of_lt_of_le (hpl b hb) (by omega)))
        rintro e w3 ⟨c, rfl, hc, h1c, hr3, k3⟩
        have hlc := wGPair_lawful.len hc
        have hls := list_run (P := Tryz.prog) T_lPair (by decide) c hlc w3
        have own3 := owned_keep own2 k3 (fun b hb e => by have := (own2.lt b hb).1; omega)
        have row3 := row2.keep k3 (by omega)
        have kk3 := kk2.trans k3
        have hB := row3.lt
        have hsz3 := k3.size
        have hol : ∀ b, OwnB (.slice a xs.length cap) b → b < w2.heap.size := fun b hb => (own2.lt b hb).2
        have hlen := xs.length
        have hHP : Hid (pMany pGPair (m + 1) s' = ((pGPair s').1 :: (pMany pGPair m (pGPair s').2).1, (pMany pGPair m (pGPair s').2).2)) := by show _ = _; rw [pMany, if_pos he.out]
        clear own2 hr2 row2 kk2 x0 hlen
        go_wp2_with (at_builtin; refine wpl_append1_at T_lPair rfl (.tmp 20) (.tmp 23) rfl (w.heap.size + 1) rfl own3 rfl ?c0 ?c1 ?c2 ?c3 ?c4 ?_)
        case c0 => simpa using hlc
        case c1 => first | (simpa [ones] using h1c) | (intro u hu; exact (List.all_eq_true.1 h1c) u (by simpa using hu))
        case c2 => unfold maxLen; omega
        case c3 => omega
        case c4 => omega
        intro a' cap' w4 own4 k4 hfresh
        have els4 := els2.push wGPair_lawful hc k3 k4 hlt (by omega) hol hfresh
        have row4 : RowIs w4 w.heap.size 154 [.pointer (some ⟨rd, 0, none⟩)] := row3.keep k4 (fun hb => by have := hol _ hb; have := (own3.lt _ hb).1; omega)
        have hr4 : IsRd w4 151 rd p (pGPair s').2 := hr3.keep k4 (fun hb => by have := (own3.lt _ hb).1; omega) (fun b hb hb2 => by have := (own3.lt _ hb2).1; have := hpl b hb; omega)
        have kk4 : Keep (· = rd) w w4 := kk3.then k4 (fun i hi hb => by have := (own3.lt _ hb).1; omega)
        clear own3 els2 row3 hr3 kk3 k3 k4 hfresh
        go_wp2
        go_roundw
        case rel => exact ⟨xs ++ [(pGPair s').1], css ++ [c], m, (pGPair s').2, a', cap', by simp, by go_num, by show _ = _; rw [hp.out, hHP.out]; simp, by simpa using own4, by simpa using els4, hr4, row4, kk4, by simp; omega⟩
        case measure => simp [intOf] <;> omega
      · go_wp2_with fail
        go_ret
        have hHP : pMany pGPair (m + 1) s' = ([], s') := by rw [pMany, if_neg he]
        refine ⟨_, rfl, ?_, ?_, kk2⟩
        · rw [HP.out, hp.out, hHP]; exact Els.list (Nat.le_succ _) own2 els2 wGPair_lawful (by simp) hfar
        · rw [HP.out, hp.out, hHP]; exact hr2
def pGWrite : Ps GWrite := fun s0 =>
  let a0 := pBytes s0
  let a1 := pBytes a0.2
  let a2 := pFlag a1.2
  (⟨a0.1, a1.1, a2.1⟩, a2.2)
theorem S_Write : StructT Tryz.prog 216 3 := ⟨⟨_, Tryz.underlying216⟩, by kernel_rfl⟩
theorem B_Write : BuildT Tryz.prog 216 [1, 1, 1] := by
  obtain ⟨i, hi, hz, -, -⟩ := info_parts (by kernel_rfl : (Tryz.prog.info? 216).map (fun i => (i.zero, i.size, i.bytes)) = some (some (.agg #[.slice none 0 0, .slice none 0 0, .bool false]), 3, 56))
  exact ⟨_, i, _, [(0, 1), (1, 1), (2, 1)], Tryz.underlying216, hi, hz, rfl, by kernel_rfl, rfl, by decide⟩
theorem bd_Write (a : Act) (dst : Option Tmp) (ty : TypeId) (pos : String) (after : Array Edge) (guard : Option (Nat × Bool)) (parts : Array (Nat × Operand)) : execOp a.eval { dst := dst, op := .build 216 parts, type := ty, pos := pos, after := after, guard := guard } = buildSem 216 (parts.map fun x => (x.1, a.eval x.2)) := rfl
theorem st_Write (a : Act) (dst : Option Tmp) (ty : TypeId) (pos : String) (after : Array Edge) (guard : Option (Nat × Bool)) (x y : Operand) : execOp a.eval { dst := dst, op := .store 216 x y, type := ty, pos := pos, after := after, guard := guard } = storeSem 216 (a.eval x) (a.eval y) := rfl
section
attribute [local go_sem ↓] bd_Write st_Write
set_option maxRecDepth 100000 in
set_option maxHeartbeats 8000000 in
theorem gWrite_c (rd : Nat) (p : Nat → Prop) (s : RdS) (w : World) (h : IsRd w 151 rd p s) (hpl : ∀ b, p b → b < w.heap.size) :
    Calls Tryz.prog 150 #[.agg #[.pointer (some ⟨rd, 0, none⟩)]] w (GetsS wGWrite 151 rd p w (pGWrite s)) := by
  have hlt := h.lt
  have hmf : ∀ (fn : Fn) (first cap : Array Value) (w : World), (Instr.makeFunc fn first cap).run Tryz.prog w = .ok (.func fn first cap) w := fun _ _ _ _ => rfl
  have hsz : (w.alloc (.cells #[.pointer (some ⟨rd, 0, none⟩)] 154)).heap.size = w.heap.size + 1 := by simp
  have rowB : RowIs ((w.alloc (.cells #[.pointer (some ⟨rd, 0, none⟩)] 154)).alloc (.cells #[.slice none 0 0, .slice none 0 0, .bool false] 216)) w.heap.size 154 [.pointer (some ⟨rd, 0, none⟩)] := (RowIs.alloc w _ _).keep ((Keep.refl Nix _).alloc _) id
  have rowR : RowIs ((w.alloc (.cells #[.pointer (some ⟨rd, 0, none⟩)] 154)).alloc (.cells #[.slice none 0 0, .slice none 0 0, .bool false] 216)) (w.heap.size + 1) 216 [.slice none 0 0, .slice none 0 0, .bool false] := by
    rw [← hsz]
    exact RowIs.alloc (w.alloc (.cells #[.pointer (some ⟨rd, 0, none⟩)] 154)) _ _
  have hr := h.nix (((Keep.refl Nix w).alloc (.cells #[.pointer (some ⟨rd, 0, none⟩)] 154)).alloc (.cells #[.slice none 0 0, .slice none 0 0, .bool false] 216))
  have kk : Keep (· = rd) w ((w.alloc (.cells #[.pointer (some ⟨rd, 0, none⟩)] 154)).alloc (.cells #[.slice none 0 0, .slice none 0 0, .bool false] 216)) := ((Keep.refl (· = rd) w).alloc _).alloc _
  clear h hsz
  replace rowB := rowB.same (w' := ((w.alloc (.cells #[.pointer (some ⟨rd, 0, none⟩)] 154)).alloc (.cells #[.slice none 0 0, .slice none 0 0, .bool false] 216)).drew)
  replace rowR := rowR.same (w' := ((w.alloc (.cells #[.pointer (some ⟨rd, 0, none⟩)] 154)).alloc (.cells #[.slice none 0 0, .slice none 0 0, .bool false] 216)).drew)
  replace hr := hr.same (w' := ((w.alloc (.cells #[.pointer (some ⟨rd, 0, none⟩)] 154)).alloc (.cells #[.slice none 0 0, .slice none 0 0, .bool false] 216)).drew)
  replace kk := kk.drew
  go_enter Tryz.func150, Tryz.ntmps150
  go_wp2_with fail
  refine wp_region_held_drew (S := (fun w' => w'.cell? ⟨w.heap.size, 0, none⟩ = some (.pointer (some ⟨rd, 0, none⟩)))) (by kernel_rfl) (rowB.cell 0) (fun hHeld => ?_)
  refine wpAnyH_take (i := 0) (v := ?_) rfl (by kernel_rfl) (by kernel_rfl) (by kernel_rfl) (fun _ _ _ h => h) (Or.inl ⟨by rfl, ?_⟩) hHeld ?_
  rotate_left
  · intro w' hSw
    (try dsimp only at hSw)
    go_simp
    try with_reducible rfl
  (try simp only [Act.put]); (try simp only [List.setIfInBounds_toArray]); (try simp only [List.set_cons_succ]); (try simp only [List.set_cons_zero])
  refine wpAnyH_take (i := 2) (v := ?_) rfl (by kernel_rfl) (by kernel_rfl) (by kernel_rfl) (fun _ _ _ h => h) (Or.inl ⟨by rfl, ?_⟩) hHeld ?_
  rotate_left
  · intro w' hSw
    (try dsimp only at hSw)
    go_simp
    try with_reducible rfl
  (try simp only [Act.put]); (try simp only [List.setIfInBounds_toArray]); (try simp only [List.set_cons_succ]); (try simp only [List.set_cons_zero])
  refine wpAnyH_take (i := 4) (v := ?_) rfl (by kernel_rfl) (by kernel_rfl) (by kernel_rfl) (fun _ _ _ h => h) (Or.inl ⟨by rfl, ?_⟩) hHeld ?_
  rotate_left
  · intro w' hSw
    (try dsimp only at hSw)
    go_simp
    try with_reducible rfl
  (try simp only [Act.put]); (try simp only [List.setIfInBounds_toArray]); (try simp only [List.set_cons_succ]); (try simp only [List.set_cons_zero])
  refine wpAnyH_ready (rs := [1]) (by kernel_rfl) (by simp) ?_
  refine AllReadyH.cons rfl (fun K hK => ?_) AllReadyH.nil
  go_simp
  go_fit (rbytes_g rd p _ _ hr)
  rintro e w1 ⟨v, rfl, q0, hr', k0⟩
  generalize hy0 : pBytes s = y0 at hr' q0
  replace hy0 := Lib.hid hy0
  obtain ⟨a0, cc0, hv, q0'⟩ := rBytesW_open q0
  simp only [List.cons.injEq, and_true] at hv
  subst hv
  clear q0
  have q0 := q0'
  clear q0'
  have rowRl := rowR.lt
  replace rowB := rowB.keep k0 (by omega)
  replace rowR := rowR.keep k0 (by omega)
  have hRl := rowRl
  replace kk := kk.trans k0
  replace q0 := rBytesW_lawful.mono q0 (fun b hb => (⟨by have := hb.1; omega, hb.2⟩ : NewAt (w.heap.size + 2) w1 b))
  clear hRl
  replace hr := hr'
  clear hr' k0 rowRl
  go_wp2_with fail
  refine hK.out _ _ (rowB.cell 0) (fun hHeld => ?_)
  clear hK K
  (try simp only [Act.put]); (try simp only [List.setIfInBounds_toArray]); (try simp only [List.set_cons_succ]); (try simp only [List.set_cons_zero])
  refine wpAnyH_ready (rs := [3]) (by kernel_rfl) (by simp) ?_
  refine AllReadyH.cons rfl (fun K hK => ?_) AllReadyH.nil
  go_simp
  go_fit (rbytes_g rd p _ _ hr)
  rintro e w2 ⟨v, rfl, q1, hr', k1⟩
  generalize hy1 : pBytes y0.2 = y1 at hr' q1
  replace hy1 := Lib.hid hy1
  obtain ⟨a1, cc1, hv, q1'⟩ := rBytesW_open q1
  simp only [List.cons.injEq, and_true] at hv
  subst hv
  clear q1
  have q1 := q1'
  clear q1'
  have rowRl := rowR.lt
  replace q0 := rBytesW_lawful.mono (rBytesW_lawful.keep q0 k1 (fun b hb e => by have := hb.1; omega)) (fun b hb => (⟨hb.1, Nat.lt_of_lt_of_le hb.2 k1.size⟩ : NewAt (w.heap.size + 2) w2 b))
  replace rowB := rowB.keep k1 (by omega)
  replace rowR := rowR.keep k1 (by omega)
  have hRl := rowRl
  replace kk := kk.trans k1
  replace q1 := rBytesW_lawful.mono q1 (fun b hb => (⟨by have := hb.1; omega, hb.2⟩ : NewAt (w.heap.size + 2) w2 b))
  clear hRl
  replace hr := hr'
  clear hr' k1 rowRl
  go_wp2_with fail
  refine hK.out _ _ (rowB.cell 0) (fun hHeld => ?_)
  clear hK K
  (try simp only [Act.put]); (try simp only [List.setIfInBounds_toArray]); (try simp only [List.set_cons_succ]); (try simp only [List.set_cons_zero])
  refine wpAnyH_ready (rs := [5]) (by kernel_rfl) (by simp) ?_
  refine AllReadyH.cons rfl (fun K hK => ?_) AllReadyH.nil
  go_simp
  go_fit (rflag_g rd p _ _ hr)
  rintro e w3 ⟨rfl, hr', k2⟩
  generalize hy2 : pFlag y1.2 = y2 at hr' ⊢
  replace hy2 := Lib.hid hy2
  have rowRl := rowR.lt
  replace q0 := rBytesW_lawful.mono (rBytesW_lawful.keep q0 k2 (fun b hb e => by have := hb.1; omega)) (fun b hb => (⟨hb.1, Nat.lt_of_lt_of_le hb.2 k2.size⟩ : NewAt (w.heap.size + 2) w3 b))
  replace q1 := rBytesW_lawful.mono (rBytesW_lawful.keep q1 k2 (fun b hb e => by have := hb.1; omega)) (fun b hb => (⟨hb.1, Nat.lt_of_lt_of_le hb.2 k2.size⟩ : NewAt (w.heap.size + 2) w3 b))
  replace rowB := rowB.keep k2 (by omega)
  replace rowR := rowR.keep k2 (by omega)
  replace kk := kk.trans k2
  replace hr := hr'
  clear hr' k2 rowRl
  go_wp2_with fail
  refine hK.out _ _ (rowB.cell 0) (fun hHeld => ?_)
  clear hK K
  (try simp only [Act.put]); (try simp only [List.setIfInBounds_toArray]); (try simp only [List.set_cons_succ]); (try simp only [List.set_cons_zero])
  have hbd := fun w' => build_run (P := Tryz.prog) B_Write [.slice a0 y0.1.length cc0, .slice a1 y1.1.length cc1, .bool y2.1] (by simp only [List.map_cons, List.map_nil, size_bool, size_slice]) w'
  simp only [numbered, Nat.reduceAdd] at hbd
  refine wpAnyH_take (i := 6) (v := ?_) rfl (by kernel_rfl) (by kernel_rfl) (by kernel_rfl) (fun _ _ _ h => h) (Or.inl ⟨by rfl, ?_⟩) hHeld ?_
  rotate_left
  · intro w' hSw
    (try dsimp only at hSw)
    (try simp only [List.getElem_toArray]); (try simp only [List.getElem_cons_succ]); (try simp only [List.getElem_cons_zero])
    go_simp
    try with_reducible rfl
  (try simp only [Act.put]); (try simp only [List.setIfInBounds_toArray]); (try simp only [List.set_cons_succ]); (try simp only [List.set_cons_zero])
  refine wpAnyH_ready (rs := [7]) (by kernel_rfl) (by simp) ?_
  refine AllReadyH.cons rfl (fun K hK => ?_) AllReadyH.nil
  have hjl : (joined [.slice a0 y0.1.length cc0, .slice a1 y1.1.length cc1, .bool y2.1]).length = 3 := by simp only [joined_len, joined_len0, size_bool, size_slice]
  have hjo : ones (joined [.slice a0 y0.1.length cc0, .slice a1 y1.1.length cc1, .bool y2.1]) = true := by simp only [joined_ones, joined_ones0, ones_bool, ones_slice, Bool.and_self]
  have hst := store_run (P := Tryz.prog) S_Write rowR rfl hjl hjo
  have rowF := rowR.setRow (joined [.slice a0 y0.1.length cc0, .slice a1 y1.1.length cc1, .bool y2.1])
  have kS := (Keep.refl (· = w.heap.size + 1) w3).setRow (fun _ => rfl) (joined [.slice a0 y0.1.length cc0, .slice a1 y1.1.length cc1, .bool y2.1]).toArray
  replace rowB := rowB.keep kS (by omega)
  have HJL := Lib.hid hjl
  have HJO := Lib.hid hjo
  clear hjl hjo
  (try simp only [List.getElem_toArray]); (try simp only [List.getElem_cons_succ]); (try simp only [List.getElem_cons_zero])
  go_simp
  clear hst
  refine hK.out _ _ (rowB.cell 0) (fun hHeld => ?_)
  clear hK K
  (try simp only [Act.put]); (try simp only [List.setIfInBounds_toArray]); (try simp only [List.set_cons_succ]); (try simp only [List.set_cons_zero])
  refine wpAnyH_done (by kernel_rfl) ?_ _
  clear hbd hmf hHeld
  go_wp2_with fail
  have hinfo : (Tryz.prog.info? 216).map (·.size) = some (joined [.slice a0 y0.1.length cc0, .slice a1 y1.1.length cc1, .bool y2.1]).toArray.size := by rw [List.size_toArray, HJL.out]; exact S_Write.info
  refine bodyPost_ret (results_cell_row (by rfl) _ _ _ _ _ _ _ (by rfl) rowF Tryz.underlying216 (by rfl) hinfo) rfl ?_
  replace q0 := rBytesW_lawful.mono (rBytesW_lawful.keep q0 kS (fun b hb e => by have := hb.1; omega)) (fun b hb => (⟨by have := hb.1; omega, Nat.lt_of_lt_of_le hb.2 kS.size⟩ : NewIn w (w3.setRow (w.heap.size + 1) (joined [.slice a0 y0.1.length cc0, .slice a1 y1.1.length cc1, .bool y2.1]).toArray) b))
  replace q1 := rBytesW_lawful.mono (rBytesW_lawful.keep q1 kS (fun b hb e => by have := hb.1; omega)) (fun b hb => (⟨by have := hb.1; omega, Nat.lt_of_lt_of_le hb.2 kS.size⟩ : NewIn w (w3.setRow (w.heap.size + 1) (joined [.slice a0 y0.1.length cc0, .slice a1 y1.1.length cc1, .bool y2.1]).toArray) b))
  have HE : pGWrite s = (⟨y0.1, y1.1, y2.1⟩, y2.2) := by simp only [pGWrite, hy0.out, hy1.out, hy2.out]
  rw [HE]
  refine ⟨_, rfl, ⟨[_], [_], [_], by simp [joined, Value.cells], q0, q1, rfl⟩, HJO.out, hr.keep kS (by omega) (fun b hb e => by have := hpl b hb; omega), kk.then kS (fun i hi e => by omega)⟩
end
theorem T_lWrite : SliceT Tryz.prog 35 216 3 56 := SliceT.mk' Tryz.underlying35 (z := .agg #[.slice none 0 0, .slice none 0 0, .bool false]) (by kernel_rfl) rfl (by decide)
theorem ls_Write (a : Act) (dst : Option Tmp) (parts : Array (Nat × Operand)) (ty : TypeId) (pos : String) (after : Array Edge) (guard : Option (Nat × Bool)) : execOp a.eval { dst := dst, op := .buildSlice 35 1 parts, type := ty, pos := pos, after := after, guard := guard } = listSem 35 1 (parts.map fun x => (x.1, a.eval x.2)) := rfl
attribute [local go_sem ↓] ls_Write
set_option maxRecDepth 100000 in
set_option maxHeartbeats 4000000 in
theorem itWrite_c (rd : Nat) (p : Nat → Prop) (s : RdS) (w : World) (h : IsRd w 151 rd p s) (hpl : ∀ b, p b → b < w.heap.size) :
    Calls Tryz.prog 149 #[.agg #[.pointer (some ⟨rd, 0, none⟩)], .func (.func 150) #[.agg #[.pointer (some ⟨rd, 0, none⟩)]] #[]] w (GetsV (rList wGWrite) 151 rd p w (pList pGWrite s)) := by
  have hlt := h.lt
  have h0 := h.nix ((Keep.refl Nix w).alloc (.cells #[.pointer (some ⟨rd, 0, none⟩)] 154))
  have row0 : RowIs (w.alloc (.cells #[.pointer (some ⟨rd, 0, none⟩)] 154)) w.heap.size 154 [.pointer (some ⟨rd, 0, none⟩)] := RowIs.alloc w _ _
  have hle := numS_le 5000 s
  clear h
  go_enter Tryz.func149, Tryz.ntmps149
  go_wp2_with fail
  go_fit (Small_rd rd p s _ h0 5000 (by unfold isI64; omega))
  rintro e w1 ⟨rfl, h1, k1⟩
  have row1 := row0.keep k1 (by omega)
  have kk1 : Keep (· = rd) w w1 := ((Keep.refl (· = rd) w).alloc (.cells #[.pointer (some ⟨rd, 0, none⟩)] 154)).trans (k1.mono fun _ h => h)
  have HP : Hid (pList pGWrite s = pMany pGWrite (numS (5000 : Int).toNat s).1 (numS (5000 : Int).toNat s).2) := rfl
  have hle' : (numS (5000 : Int).toNat s).1 ≤ 5000 := hle
  clear h0 row0 k1 hle
  generalize numS (5000 : Int).toNat s = N at h1 HP hle' ⊢
  go_wp2_with fail
  go_loopw [5, 6] (fun l n wr => ∃ (xs : List GWrite) (css : List (List Value)) (m : Nat) (s' : RdS) (a : Option Addr) (cap : Nat), l = .slice a xs.length cap ∧ n = .int .i64 m ∧ Hid (pMany pGWrite N.1 N.2 = (xs ++ (pMany pGWrite m s').1, (pMany pGWrite m s').2)) ∧
      wr.ownsRow (w.heap.size + 1) 216 3 (.slice a xs.length cap) xs.length css.flatten ∧ Els wGWrite wr (fun b => NewIn w wr b ∧ ¬ OwnB (.slice a xs.length cap) b) css xs ∧ IsRd wr 151 rd p s' ∧ RowIs wr w.heap.size 154 [.pointer (some ⟨rd, 0, none⟩)] ∧ Keep (· = rd) w wr ∧ xs.length + m ≤ 5000) (fun _ n _ => (intOf n).toNat)
  case atStart => exact ⟨[], [], N.1, N.2, none, 0, rfl, rfl, rfl, World.ownsRow_nil _ _ _ _, Els.nil _ _ _, h1, row1, kk1, by simpa using hle'⟩
  case round =>
    clear h1 row1 kk1 hle'
    obtain ⟨xs, css, m, s', a, cap, rfl, rfl, hp, own, els, hr, row, kk, hm⟩ := hrel
    have x0 : wr.cell? ⟨w.heap.size, 0, none⟩ = some (.pointer (some ⟨rd, 0, none⟩)) := row.cell 0
    have hfar : xs.length ≤ far := by unfold far; omega
    by_cases hm0 : m = 0
    · subst hm0
      clear hm
      go_wp2_with fail
      go_ret
      refine ⟨_, rfl, ?_, ?_, kk⟩
      · rw [HP.out, hp.out]; exact Els.list (Nat.le_succ _) own els wGWrite_lawful (by simp [pMany]) hfar
      · rw [HP.out, hp.out]; exact hr
    · obtain ⟨m, rfl⟩ : ∃ m', m = m' + 1 := ⟨m - 1, by omega⟩
      have hpos : (0 : Int) < ((m + 1 : Nat) : Int) := by omega
      clear hm0
      go_wp2_with fail
      go_fit (Err_rd rd p s' wr hr)
      rintro e w2 ⟨rfl, k2⟩
      have own2 := owned_keep own k2 (fun _ _ h => h)
      have els2 := (els.keep wGWrite_lawful (k2.nix (S := (· = rd))) (fun b hb e => by have := hb.1.1; omega)).mono (q := fun b => NewIn w w2 b ∧ ¬ OwnB (.slice a xs.length cap) b) wGWrite_lawful (fun b hb => ⟨⟨hb.1.1, Nat.lt_of_lt_of_le hb.1.2 k2.size⟩, hb.2⟩)
      have hr2 := hr.nix k2
      have row2 := row.keep k2 (fun h => h)
      have kk2 : Keep (· = rd) w w2 := kk.trans (k2.nix)
      have hwr := kk.size
      have hsz2 := k2.size
      clear own els hr row kk x0
      have x0 : w2.cell? ⟨w.heap.size, 0, none⟩ = some (.pointer (some ⟨rd, 0, none⟩)) := row2.cell 0
      rcases test_eq s'.e 0 with ⟨ht, he⟩ | ⟨ht, he⟩
      · go_wp2_with fail
        go_fit (gWrite_c rd p s' w2 hr2 (fun b hb => Nat.lt_of_lt_of_le (hpl b hb) (by omega)))
        rintro e w3 ⟨c, rfl, hc, h1c, hr3, k3⟩
        have hlc := wGWrite_lawful.len hc
        have hls := list_run (P := Tryz.prog) T_lWrite (by decide) c hlc w3
        have own3 := owned_keep own2 k3 (fun b hb e => by have := (own2.lt b hb).1; omega)
        have row3 := row2.keep k3 (by omega)
        have kk3 := kk2.trans k3
        have hB := row3.lt
        have hsz3 := k3.size
        have hol : ∀ b, OwnB (.slice a xs.length cap) b → b < w2.heap.size := fun b hb => (own2.lt b hb).2
        have hlen := xs.length
        have hHP : Hid (pMany pGWrite (m + 1) s' = ((pGWrite s').1 :: (pMany pGWrite m (pGWrite s').2).1, (pMany pGWrite m (pGWrite s').2).2)) := by show _ = _; rw [pMany, if_pos he.out]
        clear own2 hr2 row2 kk2 x0 hlen
        go_wp2_with (at_builtin; refine wpl_append1_at T_lWrite rfl (.tmp 20) (.tmp 23) rfl (w.heap.size + 1) rfl own3 rfl ?c0 ?c1 ?c2 ?c3 ?c4 ?_)
        case c0 => simpa using hlc
        case c1 => first | (simpa [ones] using h1c) | (intro u hu; exact (List.all_eq_true.1 h1c) u (by simpa using hu))
        case c2 => unfold maxLen; omega
        case c3 => omega
        case c4 => omega
        intro a' cap' w4 own4 k4 hfresh
        have els4 := els2.push wGWrite_lawful hc k3 k4 hlt (by omega) hol hfresh
        have row4 : RowIs w4 w.heap.size 154 [.pointer (some ⟨rd, 0, none⟩)] := row3.keep k4 (fun hb => by have := hol _ hb; have := (own3.lt _ hb).1; omega)
        have hr4 : IsRd w4 151 rd p (pGWrite s').2 := hr3.keep k4 (fun hb => by have := (own3.lt _ hb).1; omega) (fun b hb hb2 => by have := (own3.lt _ hb2).1; have := hpl b hb; omega)
        have kk4 : Keep (· = rd) w w4 := kk3.then k4 (fun i hi hb => by have := (own3.lt _ hb).1; omega)
        clear own3 els2 row3 hr3 kk3 k3 k4 hfresh
        go_wp2
        go_roundw
        case rel => exact ⟨xs ++ [(pGWrite s').1], css ++ [c], m, (pGWrite s').2, a', cap', by simp, by go_num, by show _ = _; rw [hp.out, hHP.out]; simp, by simpa using own4, by simpa using els4, hr4, row4, kk4, by simp; omega⟩
        case measure => simp [intOf] <;> omega
      · go_wp2_with fail
        go_ret
        have hHP : pMany pGWrite (m + 1) s' = ([], s') := by rw [pMany, if_neg he]
        refine ⟨_, rfl, ?_, ?_, kk2⟩
        · rw [HP.out, hp.out, hHP]; exact Els.list (Nat.le_succ _) own2 els2 wGWrite_lawful (by simp) hfar
        · rw [HP.out, hp.out, hHP]; exact hr2
def pGSpan : Ps GSpan := fun s0 =>
  let a0 := pBytes s0
  let a1 := pBytes a0.2
  (⟨a0.1, a1.1⟩, a1.2)
theorem S_Span : StructT Tryz.prog 32 2 := ⟨⟨_, Tryz.underlying32⟩, by kernel_rfl⟩
theorem B_Span : BuildT Tryz.prog 32 [1, 1] := by
  obtain ⟨i, hi, hz, -, -⟩ := info_parts (by kernel_rfl : (Tryz.prog.info? 32).map (fun i => (i.zero, i.size, i.bytes)) = some (some (.agg #[.slice none 0 0, .slice none 0 0]), 2, 48))
  exact ⟨_, i, _, [(0, 1), (1, 1)], Tryz.underlying32, hi, hz, rfl, by kernel_rfl, rfl, by decide⟩
theorem bd_Span (a : Act) (dst : Option Tmp) (ty : TypeId) (pos : String) (after : Array Edge) (guard : Option (Nat × Bool)) (parts : Array (Nat × Operand)) : execOp a.eval { dst := dst, op := .build 32 parts, type := ty, pos := pos, after := after, guard := guard } = buildSem 32 (parts.map fun x => (x.1, a.eval x.2)) := rfl
theorem st_Span (a : Act) (dst : Option Tmp) (ty : TypeId) (pos : String) (after : Array Edge) (guard : Option (Nat × Bool)) (x y : Operand) : execOp a.eval { dst := dst, op := .store 32 x y, type := ty, pos := pos, after := after, guard := guard } = storeSem 32 (a.eval x) (a.eval y) := rfl
section
attribute [local go_sem ↓] bd_Span st_Span
set_option maxRecDepth 100000 in
set_option maxHeartbeats 8000000 in
theorem gSpan_c (rd : Nat) (p : Nat → Prop) (s : RdS) (w : World) (h : IsRd w 151 rd p s) (hpl : ∀ b, p b → b < w.heap.size) :
    Calls Tryz.prog 146 #[.agg #[.pointer (some ⟨rd, 0, none⟩)]] w (GetsS wGSpan 151 rd p w (pGSpan s)) := by
  have hlt := h.lt
  have hmf : ∀ (fn : Fn) (first cap : Array Value) (w : World), (Instr.makeFunc fn first cap).run Tryz.prog w = .ok (.func fn first cap) w := fun _ _ _ _ => rfl
  have hsz : (w.alloc (.cells #[.pointer (some ⟨rd, 0, none⟩)] 154)).heap.size = w.heap.size + 1 := by simp
  have rowB : RowIs ((w.alloc (.cells #[.pointer (some ⟨rd, 0, none⟩)] 154)).alloc (.cells #[.slice none 0 0, .slice none 0 0] 32)) w.heap.size 154 [.pointer (some ⟨rd, 0, none⟩)] := (RowIs.alloc w _ _).keep ((Keep.refl Nix _).alloc _) id
  have rowR : RowIs ((w.alloc (.cells #[.pointer (some ⟨rd, 0, none⟩)] 154)).alloc (.cells #[.slice none 0 0, .slice none 0 0] 32)) (w.heap.size + 1) 32 [.slice none 0 0, .slice none 0 0] := by
    rw [← hsz]
    exact RowIs.alloc (w.alloc (.cells #[.pointer (some ⟨rd, 0, none⟩)] 154)) _ _
  have hr := h.nix (((Keep.refl Nix w).alloc (.cells #[.pointer (some ⟨rd, 0, none⟩)] 154)).alloc (.cells #[.slice none 0 0, .slice none 0 0] 32))
  have kk : Keep (· = rd) w ((w.alloc (.cells #[.pointer (some ⟨rd, 0, none⟩)] 154)).alloc (.cells #[.slice none 0 0, .slice none 0 0] 32)) := ((Keep.refl (· = rd) w).alloc _).alloc _
  clear h hsz
  replace rowB := rowB.same (w' := ((w.alloc (.cells #[.pointer (some ⟨rd, 0, none⟩)] 154)).alloc (.cells #[.slice none 0 0, .slice none 0 0] 32)).drew)
  replace rowR := rowR.same (w' := ((w.alloc (.cells #[.pointer (some ⟨rd, 0, none⟩)] 154)).alloc (.cells #[.slice none 0 0, .slice none 0 0] 32)).drew)
  replace hr := hr.same (w' := ((w.alloc (.cells #[.pointer (some ⟨rd, 0, none⟩)] 154)).alloc (.cells #[.slice none 0 0, .slice none 0 0] 32)).drew)
  replace kk := kk.drew
  go_enter Tryz.func146, Tryz.ntmps146
  go_wp2_with fail
  refine wp_region_held_drew (S := (fun w' => w'.cell? ⟨w.heap.size, 0, none⟩ = some (.pointer (some ⟨rd, 0, none⟩)))) (by kernel_rfl) (rowB.cell 0) (fun hHeld => ?_)
  refine wpAnyH_take (i := 0) (v := ?_) rfl (by kernel_rfl) (by kernel_rfl) (by kernel_rfl) (fun _ _ _ h => h) (Or.inl ⟨by rfl, ?_⟩) hHeld ?_
  rotate_left
  · intro w' hSw
    (try dsimp only at hSw)
    go_simp
    try with_reducible rfl
  (try simp only [Act.put]); (try simp only [List.setIfInBounds_toArray]); (try simp only [List.set_cons_succ]); (try simp only [List.set_cons_zero])
  refine wpAnyH_take (i := 2) (v := ?_) rfl (by kernel_rfl) (by kernel_rfl) (by kernel_rfl) (fun _ _ _ h => h) (Or.inl ⟨by rfl, ?_⟩) hHeld ?_
  rotate_left
  · intro w' hSw
    (try dsimp only at hSw)
    go_simp
    try with_reducible rfl
  (try simp only [Act.put]); (try simp only [List.setIfInBounds_toArray]); (try simp only [List.set_cons_succ]); (try simp only [List.set_cons_zero])
  refine wpAnyH_ready (rs := [1]) (by kernel_rfl) (by simp) ?_
  refine AllReadyH.cons rfl (fun K hK => ?_) AllReadyH.nil
  go_simp
  go_fit (rbytes_g rd p _ _ hr)
  rintro e w1 ⟨v, rfl, q0, hr', k0⟩
  generalize hy0 : pBytes s = y0 at hr' q0
  replace hy0 := Lib.hid hy0
  obtain ⟨a0, cc0, hv, q0'⟩ := rBytesW_open q0
  simp only [List.cons.injEq, and_true] at hv
  subst hv
  clear q0
  have q0 := q0'
  clear q0'
  have rowRl := rowR.lt
  replace rowB := rowB.keep k0 (by omega)
  replace rowR := rowR.keep k0 (by omega)
  have hRl := rowRl
  replace kk := kk.trans k0
  replace q0 := rBytesW_lawful.mono q0 (fun b hb => (⟨by have := hb.1; omega, hb.2⟩ : NewAt (w.heap.size + 2) w1 b))
  clear hRl
  replace hr := hr'
  clear hr' k0 rowRl
  go_wp2_with fail
  refine hK.out _ _ (rowB.cell 0) (fun hHeld => ?_)
  clear hK K
  (try simp only [Act.put]); (try simp only [List.setIfInBounds_toArray]); (try simp only [List.set_cons_succ]); (try simp only [List.set_cons_zero])
  refine wpAnyH_ready (rs := [3]) (by kernel_rfl) (by simp) ?_
  refine AllReadyH.cons rfl (fun K hK => ?_) AllReadyH.nil
  go_simp
  go_fit (rbytes_g rd p _ _ hr)
  rintro e w2 ⟨v, rfl, q1, hr', k1⟩
  generalize hy1 : pBytes y0.2 = y1 at hr' q1
  replace hy1 := Lib.hid hy1
  obtain ⟨a1, cc1, hv, q1'⟩ := rBytesW_open q1
  simp only [List.cons.injEq, and_true] at hv
  subst hv
  clear q1
  have q1 := q1'
  clear q1'
  have rowRl := rowR.lt
  replace q0 := rBytesW_lawful.mono (rBytesW_lawful.keep q0 k1 (fun b hb e => by have := hb.1; omega)) (fun b hb => (⟨hb.1, Nat.lt_of_lt_of_le hb.2 k1.size⟩ : NewAt (w.heap.size + 2) w2 b))
  replace rowB := rowB.keep k1 (by omega)
  replace rowR := rowR.keep k1 (by omega)
  have hRl := rowRl
  replace kk := kk.trans k1
  replace q1 := rBytesW_lawful.mono q1 (fun b hb => (⟨by have := hb.1; omega, hb.2⟩ : NewAt (w.heap.size + 2) w2 b))
  clear hRl
  replace hr := hr'
  clear hr' k1 rowRl
  go_wp2_with fail
  refine hK.out _ _ (rowB.cell 0) (fun hHeld => ?_)
  clear hK K
  (try simp only [Act.put]); (try simp only [List.setIfInBounds_toArray]); (try simp only [List.set_cons_succ]); (try simp only [List.set_cons_zero])
  have hbd := fun w' => build_run (P := Tryz.prog) B_Span [.slice a0 y0.1.length cc0, .slice a1 y1.1.length cc1] (by simp only [List.map_cons, List.map_nil, size_slice]) w'
  simp only [numbered, Nat.reduceAdd] at hbd
  refine wpAnyH_take (i := 4) (v := ?_) rfl (by kernel_rfl) (by kernel_rfl) (by kernel_rfl) (fun _ _ _ h => h) (Or.inl ⟨by rfl, ?_⟩) hHeld ?_
  rotate_left
  · intro w' hSw
    (try dsimp only at hSw)
    (try simp only [List.getElem_toArray]); (try simp only [List.getElem_cons_succ]); (try simp only [List.getElem_cons_zero])
    go_simp
    try with_reducible rfl
  (try simp only [Act.put]); (try simp only [List.setIfInBounds_toArray]); (try simp only [List.set_cons_succ]); (try simp only [List.set_cons_zero])
  refine wpAnyH_ready (rs := [5]) (by kernel_rfl) (by simp) ?_
  refine AllReadyH.cons rfl (fun K hK => ?_) AllReadyH.nil
  have hjl : (joined [.slice a0 y0.1.length cc0, .slice a1 y1.1.length cc1]).length = 2 := by simp only [joined_len, joined_len0, size_slice]
  have hjo : ones (joined [.slice a0 y0.1.length cc0, .slice a1 y1.1.length cc1]) = true := by simp only [joined_ones, joined_ones0, ones_slice, Bool.and_self]
  have hst := store_run (P := Tryz.prog) S_Span rowR rfl hjl hjo
  have rowF := rowR.setRow (joined [.slice a0 y0.1.length cc0, .slice a1 y1.1.length cc1])
  have kS := (Keep.refl (· = w.heap.size + 1) w2).setRow (fun _ => rfl) (joined [.slice a0 y0.1.length cc0, .slice a1 y1.1.length cc1]).toArray
  replace rowB := rowB.keep kS (by omega)
  have HJL := Lib.hid hjl
  have HJO := Lib.hid hjo
  clear hjl hjo
  (try simp only [List.getElem_toArray]); (try simp only [List.getElem_cons_succ]); (try simp only [List.getElem_cons_zero])
  go_simp
  clear hst
  refine hK.out _ _ (rowB.cell 0) (fun hHeld => ?_)
  clear hK K
  (try simp only [Act.put]); (try simp only [List.setIfInBounds_toArray]); (try simp only [List.set_cons_succ]); (try simp only [List.set_cons_zero])
  refine wpAnyH_done (by kernel_rfl) ?_ _
  clear hbd hmf hHeld
  go_wp2_with fail
  have hinfo : (Tryz.prog.info? 32).map (·.size) = some (joined [.slice a0 y0.1.length cc0, .slice a1 y1.1.length cc1]).toArray.size := by rw [List.size_toArray, HJL.out]; exact S_Span.info
  refine bodyPost_ret (results_cell_row (by rfl) _ _ _ _ _ _ _ (by rfl) rowF Tryz.underlying32 (by rfl) hinfo) rfl ?_
  replace q0 := rBytesW_lawful.mono (rBytesW_lawful.keep q0 kS (fun b hb e => by have := hb.1; omega)) (fun b hb => (⟨by have := hb.1; omega, Nat.lt_of_lt_of_le hb.2 kS.size⟩ : NewIn w (w2.setRow (w.heap.size + 1) (joined [.slice a0 y0.1.length cc0, .slice a1 y1.1.length cc1]).toArray) b))
  replace q1 := rBytesW_lawful.mono (rBytesW_lawful.keep q1 kS (fun b hb e => by have := hb.1; omega)) (fun b hb => (⟨by have := hb.1; omega, Nat.lt_of_lt_of_le hb.2 kS.size⟩ : NewIn w (w2.setRow (w.heap.size + 1) (joined [.slice a0 y0.1.length cc0, .slice a1 y1.1.length cc1]).toArray) b))
  have HE : pGSpan s = (⟨y0.1, y1.1⟩, y1.2) := by simp only [pGSpan, hy0.out, hy1.out]
  rw [HE]
  refine ⟨_, rfl, ⟨[_], [_], by simp [joined, Value.cells], q0, q1⟩, HJO.out, hr.keep kS (by omega) (fun b hb e => by have := hpl b hb; omega), kk.then kS (fun i hi e => by omega)⟩
end
def pGSeen : Ps GSeen := fun s0 =>
  let a0 := pGSpan s0
  let a1 := (pList pGPair) a0.2
  (⟨a0.1, a1.1⟩, a1.2)
theorem S_Seen : StructT Tryz.prog 212 3 := ⟨⟨_, Tryz.underlying212⟩, by kernel_rfl⟩
theorem B_Seen : BuildT Tryz.prog 212 [2, 1] := by
  obtain ⟨i, hi, hz, -, -⟩ := info_parts (by kernel_rfl : (Tryz.prog.info? 212).map (fun i => (i.zero, i.size, i.bytes)) = some (some (.agg #[.slice none 0 0, .slice none 0 0, .slice none 0 0]), 3, 72))
  exact ⟨_, i, _, [(0, 2), (2, 1)], Tryz.underlying212, hi, hz, rfl, by kernel_rfl, rfl, by decide⟩
theorem bd_Seen (a : Act) (dst : Option Tmp) (ty : TypeId) (pos : String) (after : Array Edge) (guard : Option (Nat × Bool)) (parts : Array (Nat × Operand)) : execOp a.eval { dst := dst, op := .build 212 parts, type := ty, pos := pos, after := after, guard := guard } = buildSem 212 (parts.map fun x => (x.1, a.eval x.2)) := rfl
theorem st_Seen (a : Act) (dst : Option Tmp) (ty : TypeId) (pos : String) (after : Array Edge) (guard : Option (Nat × Bool)) (x y : Operand) : execOp a.eval { dst := dst, op := .store 212 x y, type := ty, pos := pos, after := after, guard := guard } = storeSem 212 (a.eval x) (a.eval y) := rfl
section
attribute [local go_sem ↓] bd_Seen st_Seen
set_option maxRecDepth 100000 in
set_option maxHeartbeats 8000000 in
theorem gSeen_c (rd : Nat) (p : Nat → Prop) (s : RdS) (w : World) (h : IsRd w 151 rd p s) (hpl : ∀ b, p b → b < w.heap.size) :
    Calls Tryz.prog 148 #[.agg #[.pointer (some ⟨rd, 0, none⟩)]] w (GetsS wGSeen 151 rd p w (pGSeen s)) := by
  have hlt := h.lt
  have hmf : ∀ (fn : Fn) (first cap : Array Value) (w : World), (Instr.makeFunc fn first cap).run Tryz.prog w = .ok (.func fn first cap) w := fun _ _ _ _ => rfl
  have hsz : (w.alloc (.cells #[.pointer (some ⟨rd, 0, none⟩)] 154)).heap.size = w.heap.size + 1 := by simp
  have rowB : RowIs ((w.alloc (.cells #[.pointer (some ⟨rd, 0, none⟩)] 154)).alloc (.cells #[.slice none 0 0, .slice none 0 0, .slice none 0 0] 212)) w.heap.size 154 [.pointer (some ⟨rd, 0, none⟩)] := (RowIs.alloc w _ _).keep ((Keep.refl Nix _).alloc _) id
  have rowR : RowIs ((w.alloc (.cells #[.pointer (some ⟨rd, 0, none⟩)] 154)).alloc (.cells #[.slice none 0 0, .slice none 0 0, .slice none 0 0] 212)) (w.heap.size + 1) 212 [.slice none 0 0, .slice none 0 0, .slice none 0 0] := by
    rw [← hsz]
    exact RowIs.alloc (w.alloc (.cells #[.pointer (some ⟨rd, 0, none⟩)] 154)) _ _
  have hr := h.nix (((Keep.refl Nix w).alloc (.cells #[.pointer (some ⟨rd, 0, none⟩)] 154)).alloc (.cells #[.slice none 0 0, .slice none 0 0, .slice none 0 0] 212))
  have kk : Keep (· = rd) w ((w.alloc (.cells #[.pointer (some ⟨rd, 0, none⟩)] 154)).alloc (.cells #[.slice none 0 0, .slice none 0 0, .slice none 0 0] 212)) := ((Keep.refl (· = rd) w).alloc _).alloc _
  clear h hsz
  replace rowB := rowB.same (w' := ((w.alloc (.cells #[.pointer (some ⟨rd, 0, none⟩)] 154)).alloc (.cells #[.slice none 0 0, .slice none 0 0, .slice none 0 0] 212)).drew)
  replace rowR := rowR.same (w' := ((w.alloc (.cells #[.pointer (some ⟨rd, 0, none⟩)] 154)).alloc (.cells #[.slice none 0 0, .slice none 0 0, .slice none 0 0] 212)).drew)
  replace hr := hr.same (w' := ((w.alloc (.cells #[.pointer (some ⟨rd, 0, none⟩)] 154)).alloc (.cells #[.slice none 0 0, .slice none 0 0, .slice none 0 0] 212)).drew)
  replace kk := kk.drew
  go_enter Tryz.func148, Tryz.ntmps148
  go_wp2_with fail
  refine wp_region_held_drew (S := (fun w' => w'.cell? ⟨w.heap.size, 0, none⟩ = some (.pointer (some ⟨rd, 0, none⟩)))) (by kernel_rfl) (rowB.cell 0) (fun hHeld => ?_)
  refine wpAnyH_take (i := 0) (v := ?_) rfl (by kernel_rfl) (by kernel_rfl) (by kernel_rfl) (fun _ _ _ h => h) (Or.inl ⟨by rfl, ?_⟩) hHeld ?_
  rotate_left
  · intro w' hSw
    (try dsimp only at hSw)
    go_simp
    try with_reducible rfl
  (try simp only [Act.put]); (try simp only [List.setIfInBounds_toArray]); (try simp only [List.set_cons_succ]); (try simp only [List.set_cons_zero])
  refine wpAnyH_take (i := 2) (v := ?_) rfl (by kernel_rfl) (by kernel_rfl) (by kernel_rfl) (fun _ _ _ h => h) (Or.inl ⟨by rfl, ?_⟩) hHeld ?_
  rotate_left
  · intro w' hSw
    (try dsimp only at hSw)
    go_simp
    try with_reducible rfl
  (try simp only [Act.put]); (try simp only [List.setIfInBounds_toArray]); (try simp only [List.set_cons_succ]); (try simp only [List.set_cons_zero])
  refine wpAnyH_take (i := 3) (v := ?_) rfl (by kernel_rfl) (by kernel_rfl) (by kernel_rfl) (fun _ _ _ h => h) (Or.inl ⟨by rfl, ?_⟩) hHeld ?_
  rotate_left
  · intro w' hSw
    (try dsimp only at hSw)
    go_simp
    try with_reducible rfl
  (try simp only [Act.put]); (try simp only [List.setIfInBounds_toArray]); (try simp only [List.set_cons_succ]); (try simp only [List.set_cons_zero])
  refine wpAnyH_take (i := 4) (v := ?_) rfl (by kernel_rfl) (by kernel_rfl) (by kernel_rfl) (fun _ _ _ h => h) (Or.inl ⟨by rfl, ?_⟩) hHeld ?_
  rotate_left
  · intro w' hSw
    (try dsimp only at hSw)
    go_simp
    try with_reducible rfl
  (try simp only [Act.put]); (try simp only [List.setIfInBounds_toArray]); (try simp only [List.set_cons_succ]); (try simp only [List.set_cons_zero])
  refine wpAnyH_ready (rs := [1]) (by kernel_rfl) (by simp) ?_
  refine AllReadyH.cons rfl (fun K hK => ?_) AllReadyH.nil
  go_simp
  go_fit (gSpan_c rd p _ _ hr (fun b hb => Nat.lt_of_lt_of_le (hpl b hb) kk.size))
  rintro e w1 ⟨c0, rfl, q0, ho0, hr', k0⟩
  have hl0 := Lib.hid (wGSpan_lawful.len q0)
  replace ho0 := Lib.hid ho0
  generalize hy0 : pGSpan s = y0 at hr' q0
  replace hy0 := Lib.hid hy0
  have rowRl := rowR.lt
  replace rowB := rowB.keep k0 (by omega)
  replace rowR := rowR.keep k0 (by omega)
  have hRl := rowRl
  replace kk := kk.trans k0
  replace q0 := wGSpan_lawful.mono q0 (fun b hb => (⟨by have := hb.1; omega, hb.2⟩ : NewAt (w.heap.size + 2) w1 b))
  clear hRl
  replace hr := hr'
  clear hr' k0 rowRl
  go_wp2_with fail
  refine hK.out _ _ (rowB.cell 0) (fun hHeld => ?_)
  clear hK K
  (try simp only [Act.put]); (try simp only [List.setIfInBounds_toArray]); (try simp only [List.set_cons_succ]); (try simp only [List.set_cons_zero])
  refine wpAnyH_ready (rs := [5]) (by kernel_rfl) (by simp) ?_
  refine AllReadyH.cons rfl (fun K hK => ?_) AllReadyH.nil
  go_simp
  go_fit (itPair_c rd p _ _ hr (fun b hb => Nat.lt_of_lt_of_le (hpl b hb) kk.size))
  rintro e w2 ⟨v, rfl, q1, hr', k1⟩
  generalize hy1 : (pList pGPair) y0.2 = y1 at hr' q1
  replace hy1 := Lib.hid hy1
  obtain ⟨a1, cc1, hv, q1'⟩ := rList_open q1
  simp only [List.cons.injEq, and_true] at hv
  subst hv
  clear q1
  have q1 := q1'
  clear q1'
  have rowRl := rowR.lt
  replace q0 := wGSpan_lawful.mono (wGSpan_lawful.keep q0 k1 (fun b hb e => by have := hb.1; omega)) (fun b hb => (⟨hb.1, Nat.lt_of_lt_of_le hb.2 k1.size⟩ : NewAt (w.heap.size + 2) w2 b))
  replace rowB := rowB.keep k1 (by omega)
  replace rowR := rowR.keep k1 (by omega)
  have hRl := rowRl
  replace kk := kk.trans k1
  replace q1 := (rList_lawful wGPair_lawful).mono q1 (fun b hb => (⟨by have := hb.1; omega, hb.2⟩ : NewAt (w.heap.size + 2) w2 b))
  clear hRl
  replace hr := hr'
  clear hr' k1 rowRl
  go_wp2_with fail
  refine hK.out _ _ (rowB.cell 0) (fun hHeld => ?_)
  clear hK K
  (try simp only [Act.put]); (try simp only [List.setIfInBounds_toArray]); (try simp only [List.set_cons_succ]); (try simp only [List.set_cons_zero])
  have hbd := fun w' => build_run (P := Tryz.prog) B_Seen [.agg c0.toArray, .slice a1 y1.1.length cc1] (by simp only [List.map_cons, List.map_nil, size_slice, size_agg, hl0.out]) w'
  simp only [numbered, Nat.reduceAdd] at hbd
  refine wpAnyH_take (i := 6) (v := ?_) rfl (by kernel_rfl) (by kernel_rfl) (by kernel_rfl) (fun _ _ _ h => h) (Or.inl ⟨by rfl, ?_⟩) hHeld ?_
  rotate_left
  · intro w' hSw
    (try dsimp only at hSw)
    (try simp only [List.getElem_toArray]); (try simp only [List.getElem_cons_succ]); (try simp only [List.getElem_cons_zero])
    go_simp
    try with_reducible rfl
  (try simp only [Act.put]); (try simp only [List.setIfInBounds_toArray]); (try simp only [List.set_cons_succ]); (try simp only [List.set_cons_zero])
  refine wpAnyH_ready (rs := [7]) (by kernel_rfl) (by simp) ?_
  refine AllReadyH.cons rfl (fun K hK => ?_) AllReadyH.nil
  have hjl : (joined [.agg c0.toArray, .slice a1 y1.1.length cc1]).length = 3 := by simp only [joined_len, joined_len0, size_slice, size_agg, hl0.out]
  have hjo : ones (joined [.agg c0.toArray, .slice a1 y1.1.length cc1]) = true := by simp only [joined_ones, joined_ones0, ones_slice, ones_agg, ho0.out, Bool.and_self]
  have hst := store_run (P := Tryz.prog) S_Seen rowR rfl hjl hjo
  have rowF := rowR.setRow (joined [.agg c0.toArray, .slice a1 y1.1.length cc1])
  have kS := (Keep.refl (· = w.heap.size + 1) w2).setRow (fun _ => rfl) (joined [.agg c0.toArray, .slice a1 y1.1.length cc1]).toArray
  replace rowB := rowB.keep kS (by omega)
  have HJL := Lib.hid hjl
  have HJO := Lib.hid hjo
  clear hjl hjo
  (try simp only [List.getElem_toArray]); (try simp only [List.getElem_cons_succ]); (try simp only [List.getElem_cons_zero])
  go_simp
  clear hst
  refine hK.out _ _ (rowB.cell 0) (fun hHeld => ?_)
  clear hK K
  (try simp only [Act.put]); (try simp only [List.setIfInBounds_toArray]); (try simp only [List.set_cons_succ]); (try simp only [List.set_cons_zero])
  refine wpAnyH_done (by kernel_rfl) ?_ _
  clear hbd hmf hHeld
  go_wp2_with fail
  have hinfo : (Tryz.prog.info? 212).map (·.size) = some (joined [.agg c0.toArray, .slice a1 y1.1.length cc1]).toArray.size := by rw [List.size_toArray, HJL.out]; exact S_Seen.info
  refine bodyPost_ret (results_cell_row (by rfl) _ _ _ _ _ _ _ (by rfl) rowF Tryz.underlying212 (by rfl) hinfo) rfl ?_
  replace q0 := wGSpan_lawful.mono (wGSpan_lawful.keep q0 kS (fun b hb e => by have := hb.1; omega)) (fun b hb => (⟨by have := hb.1; omega, Nat.lt_of_lt_of_le hb.2 kS.size⟩ : NewIn w (w2.setRow (w.heap.size + 1) (joined [.agg c0.toArray, .slice a1 y1.1.length cc1]).toArray) b))
  replace q1 := (rList_lawful wGPair_lawful).mono ((rList_lawful wGPair_lawful).keep q1 kS (fun b hb e => by have := hb.1; omega)) (fun b hb => (⟨by have := hb.1; omega, Nat.lt_of_lt_of_le hb.2 kS.size⟩ : NewIn w (w2.setRow (w.heap.size + 1) (joined [.agg c0.toArray, .slice a1 y1.1.length cc1]).toArray) b))
  have HE : pGSeen s = (⟨y0.1, y1.1⟩, y1.2) := by simp only [pGSeen, hy0.out, hy1.out]
  rw [HE]
  refine ⟨_, rfl, ⟨c0, [_], by simp [joined, Value.cells], q0, q1⟩, HJO.out, hr.keep kS (by omega) (fun b hb e => by have := hpl b hb; omega), kk.then kS (fun i hi e => by omega)⟩
end
theorem T_lSeen : SliceT Tryz.prog 34 212 3 72 := SliceT.mk' Tryz.underlying34 (z := .agg #[.slice none 0 0, .slice none 0 0, .slice none 0 0]) (by kernel_rfl) rfl (by decide)
theorem ls_Seen (a : Act) (dst : Option Tmp) (parts : Array (Nat × Operand)) (ty : TypeId) (pos : String) (after : Array Edge) (guard : Option (Nat × Bool)) : execOp a.eval { dst := dst, op := .buildSlice 34 1 parts, type := ty, pos := pos, after := after, guard := guard } = listSem 34 1 (parts.map fun x => (x.1, a.eval x.2)) := rfl
attribute [local go_sem ↓] ls_Seen
set_option maxRecDepth 100000 in
set_option maxHeartbeats 4000000 in
theorem itSeen_c (rd : Nat) (p : Nat → Prop) (s : RdS) (w : World) (h : IsRd w 151 rd p s) (hpl : ∀ b, p b → b < w.heap.size) :
    Calls Tryz.prog 147 #[.agg #[.pointer (some ⟨rd, 0, none⟩)], .func (.func 148) #[.agg #[.pointer (some ⟨rd, 0, none⟩)]] #[]] w (GetsV (rList wGSeen) 151 rd p w (pList pGSeen s)) := by
  have hlt := h.lt
  have h0 := h.nix ((Keep.refl Nix w).alloc (.cells #[.pointer (some ⟨rd, 0, none⟩)] 154))
  have row0 : RowIs (w.alloc (.cells #[.pointer (some ⟨rd, 0, none⟩)] 154)) w.heap.size 154 [.pointer (some ⟨rd, 0, none⟩)] := RowIs.alloc w _ _
  have hle := numS_le 5000 s
  clear h
  go_enter Tryz.func147, Tryz.ntmps147
  go_wp2_with fail
  go_fit (Small_rd rd p s _ h0 5000 (by unfold isI64; omega))
  rintro e w1 ⟨rfl, h1, k1⟩
  have row1 := row0.keep k1 (by omega)
  have kk1 : Keep (· = rd) w w1 := ((Keep.refl (· = rd) w).alloc (.cells #[.pointer (some ⟨rd, 0, none⟩)] 154)).trans (k1.mono fun _ h => h)
  have HP : Hid (pList pGSeen s = pMany pGSeen (numS (5000 : Int).toNat s).1 (numS (5000 : Int).toNat s).2) := rfl
  have hle' : (numS (5000 : Int).toNat s).1 ≤ 5000 := hle
  clear h0 row0 k1 hle
  generalize numS (5000 : Int).toNat s = N at h1 HP hle' ⊢
  go_wp2_with fail
  go_loopw [5, 6] (fun l n wr => ∃ (xs : List GSeen) (css : List (List Value)) (m : Nat) (s' : RdS) (a : Option Addr) (cap : Nat), l = .slice a xs.length cap ∧ n = .int .i64 m ∧ Hid (pMany pGSeen N.1 N.2 = (xs ++ (pMany pGSeen m s').1, (pMany pGSeen m s').2)) ∧
      wr.ownsRow (w.heap.size + 1) 212 3 (.slice a xs.length cap) xs.length css.flatten ∧ Els wGSeen wr (fun b => NewIn w wr b ∧ ¬ OwnB (.slice a xs.length cap) b) css xs ∧ IsRd wr 151 rd p s' ∧ RowIs wr w.heap.size 154 [.pointer (some ⟨rd, 0, none⟩)] ∧ Keep (· = rd) w wr ∧ xs.length + m ≤ 5000) (fun _ n _ => (intOf n).toNat)
  case atStart => exact ⟨[], [], N.1, N.2, none, 0, rfl, rfl, rfl, World.ownsRow_nil _ _ _ _, Els.nil _ _ _, h1, row1, kk1, by simpa using hle'⟩
  case round =>
    clear h1 row1 kk1 hle'
    obtain ⟨xs, css, m, s', a, cap, rfl, rfl, hp, own, els, hr, row, kk, hm⟩ := hrel
    have x0 : wr.cell? ⟨w.heap.size, 0, none⟩ = some (.pointer (some ⟨rd, 0, none⟩)) := row.cell 0
    have hfar : xs.length ≤ far := by unfold far; omega
    by_cases hm0 : m = 0
    · subst hm0
      clear hm
      go_wp2_with fail
      go_ret
      refine ⟨_, rfl, ?_, ?_, kk⟩
      · rw [HP.out, hp.out]; exact Els.list (Nat.le_succ _) own els wGSeen_lawful (by simp [pMany]) hfar
      · rw [HP.out, hp.out]; exact hr
    · obtain ⟨m, rfl⟩ : ∃ m', m = m' + 1 := ⟨m - 1, by omega⟩
      have hpos : (0 : Int) < ((m + 1 : Nat) : Int) := by omega
      clear hm0
      go_wp2_with fail
      go_fit (Err_rd rd p s' wr hr)
      rintro e w2 ⟨rfl, k2⟩
      have own2 := owned_keep own k2 (fun _ _ h => h)
      have els2 := (els.keep wGSeen_lawful (k2.nix (S := (· = rd))) (fun b hb e => by have := hb.1.1; omega)).mono (q := fun b => NewIn w w2 b ∧ ¬ OwnB (.slice a xs.length cap) b) wGSeen_lawful (fun b hb => ⟨⟨hb.1.1, Nat.lt_of_lt_of_le hb.1.2 k2.size⟩, hb.2⟩)
      have hr2 := hr.nix k2
      have row2 := row.keep k2 (fun h => h)
      have kk2 : Keep (· = rd) w w2 := kk.trans (k2.nix)
      have hwr := kk.size
      have hsz2 := k2.size
      clear own els hr row kk x0
      have x0 : w2.cell? ⟨w.heap.size, 0, none⟩ = some (.pointer (some ⟨rd, 0, none⟩)) := row2.cell 0
      rcases test_eq s'.e 0 with ⟨ht, he⟩ | ⟨ht, he⟩
      · go_wp2_with fail
        go_fit (gSeen_c rd p s' w2 hr2 (fun b hb => Nat.lt_of_lt_of_le (hpl b hb) (by omega)))
        rintro e w3 ⟨c, rfl, hc, h1c, hr3, k3⟩
        have hlc := wGSeen_lawful.len hc
        have hls := list_run (P := Tryz.prog) T_lSeen (by decide) c hlc w3
        have own3 := owned_keep own2 k3 (fun b hb e => by have := (own2.lt b hb).1; omega)
        have row3 := row2.keep k3 (by omega)
        have kk3 := kk2.trans k3
        have hB := row3.lt
        have hsz3 := k3.size
        have hol : ∀ b, OwnB (.slice a xs.length cap) b → b < w2.heap.size := fun b hb => (own2.lt b hb).2
        have hlen := xs.length
        have hHP : Hid (pMany pGSeen (m + 1) s' = ((pGSeen s').1 :: (pMany pGSeen m (pGSeen s').2).1, (pMany pGSeen m (pGSeen s').2).2)) := by show _ = _; rw [pMany, if_pos he.out]
        clear own2 hr2 row2 kk2 x0 hlen
        go_wp2_with (at_builtin; refine wpl_append1_at T_lSeen rfl (.tmp 20) (.tmp 23) rfl (w.heap.size + 1) rfl own3 rfl ?c0 ?c1 ?c2 ?c3 ?c4 ?_)
        case c0 => simpa using hlc
        case c1 => first | (simpa [ones] using h1c) | (intro u hu; exact (List.all_eq_true.1 h1c) u (by simpa using hu))
        case c2 => unfold maxLen; omega
        case c3 => omega
        case c4 => omega
        intro a' cap' w4 own4 k4 hfresh
        have els4 := els2.push wGSeen_lawful hc k3 k4 hlt (by omega) hol hfresh
        have row4 : RowIs w4 w.heap.size 154 [.pointer (some ⟨rd, 0, none⟩)] := row3.keep k4 (fun hb => by have := hol _ hb; have := (own3.lt _ hb).1; omega)
        have hr4 : IsRd w4 151 rd p (pGSeen s').2 := hr3.keep k4 (fun hb => by have := (own3.lt _ hb).1; omega) (fun b hb hb2 => by have := (own3.lt _ hb2).1; have := hpl b hb; omega)
        have kk4 : Keep (· = rd) w w4 := kk3.then k4 (fun i hi hb => by have := (own3.lt _ hb).1; omega)
        clear own3 els2 row3 hr3 kk3 k3 k4 hfresh
        go_wp2
        go_roundw
        case rel => exact ⟨xs ++ [(pGSeen s').1], css ++ [c], m, (pGSeen s').2, a', cap', by simp, by go_num, by show _ = _; rw [hp.out, hHP.out]; simp, by simpa using own4, by simpa using els4, hr4, row4, kk4, by simp; omega⟩
        case measure => simp [intOf] <;> omega
      · go_wp2_with fail
        go_ret
        have hHP : pMany pGSeen (m + 1) s' = ([], s') := by rw [pMany, if_neg he]
        refine ⟨_, rfl, ?_, ?_, kk2⟩
        · rw [HP.out, hp.out, hHP]; exact Els.list (Nat.le_succ _) own2 els2 wGSeen_lawful (by simp) hfar
        · rw [HP.out, hp.out, hHP]; exact hr2
def pGOwner : Ps GOwner := fun s0 =>
  let a0 := pInt s0
  let a1 := pBytes a0.2
  (⟨a0.1, a1.1⟩, a1.2)
theorem S_Owner : StructT Tryz.prog 97 2 := ⟨⟨_, Tryz.underlying97⟩, by kernel_rfl⟩
theorem B_Owner : BuildT Tryz.prog 97 [1, 1] := by
  obtain ⟨i, hi, hz, -, -⟩ := info_parts (by kernel_rfl : (Tryz.prog.info? 97).map (fun i => (i.zero, i.size, i.bytes)) = some (some (.agg #[.int .i64 0, .slice none 0 0]), 2, 32))
  exact ⟨_, i, _, [(0, 1), (1, 1)], Tryz.underlying97, hi, hz, rfl, by kernel_rfl, rfl, by decide⟩
theorem bd_Owner (a : Act) (dst : Option Tmp) (ty : TypeId) (pos : String) (after : Array Edge) (guard : Option (Nat × Bool)) (parts : Array (Nat × Operand)) : execOp a.eval { dst := dst, op := .build 97 parts, type := ty, pos := pos, after := after, guard := guard } = buildSem 97 (parts.map fun x => (x.1, a.eval x.2)) := rfl
theorem st_Owner (a : Act) (dst : Option Tmp) (ty : TypeId) (pos : String) (after : Array Edge) (guard : Option (Nat × Bool)) (x y : Operand) : execOp a.eval { dst := dst, op := .store 97 x y, type := ty, pos := pos, after := after, guard := guard } = storeSem 97 (a.eval x) (a.eval y) := rfl
section
attribute [local go_sem ↓] bd_Owner st_Owner
set_option maxRecDepth 100000 in
set_option maxHeartbeats 8000000 in
theorem gOwner_c (rd : Nat) (p : Nat → Prop) (s : RdS) (w : World) (h : IsRd w 151 rd p s) (hpl : ∀ b, p b → b < w.heap.size) :
    Calls Tryz.prog 193 #[.agg #[.pointer (some ⟨rd, 0, none⟩)]] w (GetsS wGOwner 151 rd p w (pGOwner s)) := by
  have hlt := h.lt
  have hmf : ∀ (fn : Fn) (first cap : Array Value) (w : World), (Instr.makeFunc fn first cap).run Tryz.prog w = .ok (.func fn first cap) w := fun _ _ _ _ => rfl
  have hsz : (w.alloc (.cells #[.pointer (some ⟨rd, 0, none⟩)] 154)).heap.size = w.heap.size + 1 := by simp
  have rowB : RowIs ((w.alloc (.cells #[.pointer (some ⟨rd, 0, none⟩)] 154)).alloc (.cells #[.int .i64 0, .slice none 0 0] 97)) w.heap.size 154 [.pointer (some ⟨rd, 0, none⟩)] := (RowIs.alloc w _ _).keep ((Keep.refl Nix _).alloc _) id
  have rowR : RowIs ((w.alloc (.cells #[.pointer (some ⟨rd, 0, none⟩)] 154)).alloc (.cells #[.int .i64 0, .slice none 0 0] 97)) (w.heap.size + 1) 97 [.int .i64 0, .slice none 0 0] := by
    rw [← hsz]
    exact RowIs.alloc (w.alloc (.cells #[.pointer (some ⟨rd, 0, none⟩)] 154)) _ _
  have hr := h.nix (((Keep.refl Nix w).alloc (.cells #[.pointer (some ⟨rd, 0, none⟩)] 154)).alloc (.cells #[.int .i64 0, .slice none 0 0] 97))
  have kk : Keep (· = rd) w ((w.alloc (.cells #[.pointer (some ⟨rd, 0, none⟩)] 154)).alloc (.cells #[.int .i64 0, .slice none 0 0] 97)) := ((Keep.refl (· = rd) w).alloc _).alloc _
  clear h hsz
  replace rowB := rowB.same (w' := ((w.alloc (.cells #[.pointer (some ⟨rd, 0, none⟩)] 154)).alloc (.cells #[.int .i64 0, .slice none 0 0] 97)).drew)
  replace rowR := rowR.same (w' := ((w.alloc (.cells #[.pointer (some ⟨rd, 0, none⟩)] 154)).alloc (.cells #[.int .i64 0, .slice none 0 0] 97)).drew)
  replace hr := hr.same (w' := ((w.alloc (.cells #[.pointer (some ⟨rd, 0, none⟩)] 154)).alloc (.cells #[.int .i64 0, .slice none 0 0] 97)).drew)
  replace kk := kk.drew
  go_enter Tryz.func193, Tryz.ntmps193
  go_wp2_with fail
  refine wp_region_held_drew (S := (fun w' => w'.cell? ⟨w.heap.size, 0, none⟩ = some (.pointer (some ⟨rd, 0, none⟩)))) (by kernel_rfl) (rowB.cell 0) (fun hHeld => ?_)
  refine wpAnyH_take (i := 0) (v := ?_) rfl (by kernel_rfl) (by kernel_rfl) (by kernel_rfl) (fun _ _ _ h => h) (Or.inl ⟨by rfl, ?_⟩) hHeld ?_
  rotate_left
  · intro w' hSw
    (try dsimp only at hSw)
    go_simp
    try with_reducible rfl
  (try simp only [Act.put]); (try simp only [List.setIfInBounds_toArray]); (try simp only [List.set_cons_succ]); (try simp only [List.set_cons_zero])
  refine wpAnyH_take (i := 2) (v := ?_) rfl (by kernel_rfl) (by kernel_rfl) (by kernel_rfl) (fun _ _ _ h => h) (Or.inl ⟨by rfl, ?_⟩) hHeld ?_
  rotate_left
  · intro w' hSw
    (try dsimp only at hSw)
    go_simp
    try with_reducible rfl
  (try simp only [Act.put]); (try simp only [List.setIfInBounds_toArray]); (try simp only [List.set_cons_succ]); (try simp only [List.set_cons_zero])
  refine wpAnyH_ready (rs := [1]) (by kernel_rfl) (by simp) ?_
  refine AllReadyH.cons rfl (fun K hK => ?_) AllReadyH.nil
  go_simp
  go_fit (rint_g rd p _ _ hr)
  rintro e w1 ⟨rfl, hr', k0⟩
  have wf0 : Hid ((Lit.int .i64 (pInt s).1).wf = true) := zag_wf (numS_lt maxU _)
  generalize hy0 : pInt s = y0 at hr' wf0 ⊢
  replace hy0 := Lib.hid hy0
  have rowRl := rowR.lt
  replace rowB := rowB.keep k0 (by omega)
  replace rowR := rowR.keep k0 (by omega)
  replace kk := kk.trans k0
  replace hr := hr'
  clear hr' k0 rowRl
  go_wp2_with fail
  refine hK.out _ _ (rowB.cell 0) (fun hHeld => ?_)
  clear hK K
  (try simp only [Act.put]); (try simp only [List.setIfInBounds_toArray]); (try simp only [List.set_cons_succ]); (try simp only [List.set_cons_zero])
  refine wpAnyH_ready (rs := [3]) (by kernel_rfl) (by simp) ?_
  refine AllReadyH.cons rfl (fun K hK => ?_) AllReadyH.nil
  go_simp
  go_fit (rbytes_g rd p _ _ hr)
  rintro e w2 ⟨v, rfl, q1, hr', k1⟩
  generalize hy1 : pBytes y0.2 = y1 at hr' q1
  replace hy1 := Lib.hid hy1
  obtain ⟨a1, cc1, hv, q1'⟩ := rBytesW_open q1
  simp only [List.cons.injEq, and_true] at hv
  subst hv
  clear q1
  have q1 := q1'
  clear q1'
  have rowRl := rowR.lt
  replace rowB := rowB.keep k1 (by omega)
  replace rowR := rowR.keep k1 (by omega)
  have hRl := rowRl
  replace kk := kk.trans k1
  replace q1 := rBytesW_lawful.mono q1 (fun b hb => (⟨by have := hb.1; omega, hb.2⟩ : NewAt (w.heap.size + 2) w2 b))
  clear hRl
  replace hr := hr'
  clear hr' k1 rowRl
  go_wp2_with fail
  refine hK.out _ _ (rowB.cell 0) (fun hHeld => ?_)
  clear hK K
  (try simp only [Act.put]); (try simp only [List.setIfInBounds_toArray]); (try simp only [List.set_cons_succ]); (try simp only [List.set_cons_zero])
  have hbd := fun w' => build_run (P := Tryz.prog) B_Owner [.int .i64 y0.1, .slice a1 y1.1.length cc1] (by simp only [List.map_cons, List.map_nil, size_int, size_slice]) w'
  simp only [numbered, Nat.reduceAdd] at hbd
  refine wpAnyH_take (i := 4) (v := ?_) rfl (by kernel_rfl) (by kernel_rfl) (by kernel_rfl) (fun _ _ _ h => h) (Or.inl ⟨by rfl, ?_⟩) hHeld ?_
  rotate_left
  · intro w' hSw
    (try dsimp only at hSw)
    (try simp only [List.getElem_toArray]); (try simp only [List.getElem_cons_succ]); (try simp only [List.getElem_cons_zero])
    go_simp
    try with_reducible rfl
  (try simp only [Act.put]); (try simp only [List.setIfInBounds_toArray]); (try simp only [List.set_cons_succ]); (try simp only [List.set_cons_zero])
  refine wpAnyH_ready (rs := [5]) (by kernel_rfl) (by simp) ?_
  refine AllReadyH.cons rfl (fun K hK => ?_) AllReadyH.nil
  have hjl : (joined [.int .i64 y0.1, .slice a1 y1.1.length cc1]).length = 2 := by simp only [joined_len, joined_len0, size_int, size_slice]
  have hjo : ones (joined [.int .i64 y0.1, .slice a1 y1.1.length cc1]) = true := by simp only [joined_ones, joined_ones0, ones_int, ones_slice, Bool.and_self]
  have hst := store_run (P := Tryz.prog) S_Owner rowR rfl hjl hjo
  have rowF := rowR.setRow (joined [.int .i64 y0.1, .slice a1 y1.1.length cc1])
  have kS := (Keep.refl (· = w.heap.size + 1) w2).setRow (fun _ => rfl) (joined [.int .i64 y0.1, .slice a1 y1.1.length cc1]).toArray
  replace rowB := rowB.keep kS (by omega)
  have HJL := Lib.hid hjl
  have HJO := Lib.hid hjo
  clear hjl hjo
  (try simp only [List.getElem_toArray]); (try simp only [List.getElem_cons_succ]); (try simp only [List.getElem_cons_zero])
  go_simp
  clear hst
  refine hK.out _ _ (rowB.cell 0) (fun hHeld => ?_)
  clear hK K
  (try simp only [Act.put]); (try simp only [List.setIfInBounds_toArray]); (try simp only [List.set_cons_succ]); (try simp only [List.set_cons_zero])
  refine wpAnyH_done (by kernel_rfl) ?_ _
  clear hbd hmf hHeld
  go_wp2_with fail
  have hinfo : (Tryz.prog.info? 97).map (·.size) = some (joined [.int .i64 y0.1, .slice a1 y1.1.length cc1]).toArray.size := by rw [List.size_toArray, HJL.out]; exact S_Owner.info
  refine bodyPost_ret (results_cell_row (by rfl) _ _ _ _ _ _ _ (by rfl) rowF Tryz.underlying97 (by rfl) hinfo) rfl ?_
  replace q1 := rBytesW_lawful.mono (rBytesW_lawful.keep q1 kS (fun b hb e => by have := hb.1; omega)) (fun b hb => (⟨by have := hb.1; omega, Nat.lt_of_lt_of_le hb.2 kS.size⟩ : NewIn w (w2.setRow (w.heap.size + 1) (joined [.int .i64 y0.1, .slice a1 y1.1.length cc1]).toArray) b))
  have HE : pGOwner s = (⟨y0.1, y1.1⟩, y1.2) := by simp only [pGOwner, hy0.out, hy1.out]
  rw [HE]
  refine ⟨_, rfl, ⟨[_], [_], by simp [joined, Value.cells], ⟨rfl, wf0.out⟩, q1⟩, HJO.out, hr.keep kS (by omega) (fun b hb e => by have := hpl b hb; omega), kk.then kS (fun i hi e => by omega)⟩
end
theorem T_lOwner : SliceT Tryz.prog 51 97 2 32 := SliceT.mk' Tryz.underlying51 (z := .agg #[.int .i64 0, .slice none 0 0]) (by kernel_rfl) rfl (by decide)
theorem ls_Owner (a : Act) (dst : Option Tmp) (parts : Array (Nat × Operand)) (ty : TypeId) (pos : String) (after : Array Edge) (guard : Option (Nat × Bool)) : execOp a.eval { dst := dst, op := .buildSlice 51 1 parts, type := ty, pos := pos, after := after, guard := guard } = listSem 51 1 (parts.map fun x => (x.1, a.eval x.2)) := rfl
attribute [local go_sem ↓] ls_Owner
set_option maxRecDepth 100000 in
set_option maxHeartbeats 4000000 in
theorem itOwner_c (rd : Nat) (p : Nat → Prop) (s : RdS) (w : World) (h : IsRd w 151 rd p s) (hpl : ∀ b, p b → b < w.heap.size) :
    Calls Tryz.prog 192 #[.agg #[.pointer (some ⟨rd, 0, none⟩)], .func (.func 193) #[.agg #[.pointer (some ⟨rd, 0, none⟩)]] #[]] w (GetsV (rList wGOwner) 151 rd p w (pList pGOwner s)) := by
  have hlt := h.lt
  have h0 := h.nix ((Keep.refl Nix w).alloc (.cells #[.pointer (some ⟨rd, 0, none⟩)] 154))
  have row0 : RowIs (w.alloc (.cells #[.pointer (some ⟨rd, 0, none⟩)] 154)) w.heap.size 154 [.pointer (some ⟨rd, 0, none⟩)] := RowIs.alloc w _ _
  have hle := numS_le 5000 s
  clear h
  go_enter Tryz.func192, Tryz.ntmps192
  go_wp2_with fail
  go_fit (Small_rd rd p s _ h0 5000 (by unfold isI64; omega))
  rintro e w1 ⟨rfl, h1, k1⟩
  have row1 := row0.keep k1 (by omega)
  have kk1 : Keep (· = rd) w w1 := ((Keep.refl (· = rd) w).alloc (.cells #[.pointer (some ⟨rd, 0, none⟩)] 154)).trans (k1.mono fun _ h => h)
  have HP : Hid (pList pGOwner s = pMany pGOwner (numS (5000 : Int).toNat s).1 (numS (5000 : Int).toNat s).2) := rfl
  have hle' : (numS (5000 : Int).toNat s).1 ≤ 5000 := hle
  clear h0 row0 k1 hle
  generalize numS (5000 : Int).toNat s = N at h1 HP hle' ⊢
  go_wp2_with fail
  go_loopw [5, 6] (fun l n wr => ∃ (xs : List GOwner) (css : List (List Value)) (m : Nat) (s' : RdS) (a : Option Addr) (cap : Nat), l = .slice a xs.length cap ∧ n = .int .i64 m ∧ Hid (pMany pGOwner N.1 N.2 = (xs ++ (pMany pGOwner m s').1, (pMany pGOwner m s').2)) ∧
      wr.ownsRow (w.heap.size + 1) 97 2 (.slice a xs.length cap) xs.length css.flatten ∧ Els wGOwner wr (fun b => NewIn w wr b ∧ ¬ OwnB (.slice a xs.length cap) b) css xs ∧ IsRd wr 151 rd p s' ∧ RowIs wr w.heap.size 154 [.pointer (some ⟨rd, 0, none⟩)] ∧ Keep (· = rd) w wr ∧ xs.length + m ≤ 5000) (fun _ n _ => (intOf n).toNat)
  case atStart => exact ⟨[], [], N.1, N.2, none, 0, rfl, rfl, rfl, World.ownsRow_nil _ _ _ _, Els.nil _ _ _, h1, row1, kk1, by simpa using hle'⟩
  case round =>
    clear h1 row1 kk1 hle'
    obtain ⟨xs, css, m, s', a, cap, rfl, rfl, hp, own, els, hr, row, kk, hm⟩ := hrel
    have x0 : wr.cell? ⟨w.heap.size, 0, none⟩ = some (.pointer (some ⟨rd, 0, none⟩)) := row.cell 0
    have hfar : xs.length ≤ far := by unfold far; omega
    by_cases hm0 : m = 0
    · subst hm0
      clear hm
      go_wp2_with fail
      go_ret
      refine ⟨_, rfl, ?_, ?_, kk⟩
      · rw [HP.out, hp.out]; exact Els.list (Nat.le_succ _) own els wGOwner_lawful (by simp [pMany]) hfar
      · rw [HP.out, hp.out]; exact hr
    · obtain ⟨m, rfl⟩ : ∃ m', m = m' + 1 := ⟨m - 1, by omega⟩
      have hpos : (0 : Int) < ((m + 1 : Nat) : Int) := by omega
      clear hm0
      go_wp2_with fail
      go_fit (Err_rd rd p s' wr hr)
      rintro e w2 ⟨rfl, k2⟩
      have own2 := owned_keep own k2 (fun _ _ h => h)
      have els2 := (els.keep wGOwner_lawful (k2.nix (S := (· = rd))) (fun b hb e => by have := hb.1.1; omega)).mono (q := fun b => NewIn w w2 b ∧ ¬ OwnB (.slice a xs.length cap) b) wGOwner_lawful (fun b hb => ⟨⟨hb.1.1, Nat.lt_of_lt_of_le hb.1.2 k2.size⟩, hb.2⟩)
      have hr2 := hr.nix k2
      have row2 := row.keep k2 (fun h => h)
      have kk2 : Keep (· = rd) w w2 := kk.trans (k2.nix)
      have hwr := kk.size
      have hsz2 := k2.size
      clear own els hr row kk x0
      have x0 : w2.cell? ⟨w.heap.size, 0, none⟩ = some (.pointer (some ⟨rd, 0, none⟩)) := row2.cell 0
      rcases test_eq s'.e 0 with ⟨ht, he⟩ | ⟨ht, he⟩
      · go_wp2_with fail
        go_fit (gOwner_c rd p s' w2 hr2 (fun b hb => Nat.lt_of_lt_of_le (hpl b hb) (by omega)))
        rintro e w3 ⟨c, rfl, hc, h1c, hr3, k3⟩
        have hlc := wGOwner_lawful.len hc
        have hls := list_run (P := Tryz.prog) T_lOwner (by decide) c hlc w3
        have own3 := owned_keep own2 k3 (fun b hb e => by have := (own2.lt b hb).1; omega)
        have row3 := row2.keep k3 (by omega)
        have kk3 := kk2.trans k3
        have hB := row3.lt
        have hsz3 := k3.size
        have hol : ∀ b, OwnB (.slice a xs.length cap) b → b < w2.heap.size := fun b hb => (own2.lt b hb).2
        have hlen := xs.length
        have hHP : Hid (pMany pGOwner (m + 1) s' = ((pGOwner s').1 :: (pMany pGOwner m (pGOwner s').2).1, (pMany pGOwner m (pGOwner s').2).2)) := by show _ = _; rw [pMany, if_pos he.out]
        clear own2 hr2 row2 kk2 x0 hlen
        go_wp2_with (at_builtin; refine wpl_append1_at T_lOwner rfl (.tmp 20) (.tmp 23) rfl (w.heap.size + 1) rfl own3 rfl ?c0 ?c1 ?c2 ?c3 ?c4 ?_)
        case c0 => simpa using hlc
        case c1 => first | (simpa [ones] using h1c) | (intro u hu; exact (List.all_eq_true.1 h1c) u (by simpa using hu))
        case c2 => unfold maxLen; omega
        case c3 => omega
        case c4 => omega
        intro a' cap' w4 own4 k4 hfresh
        have els4 := els2.push wGOwner_lawful hc k3 k4 hlt (by omega) hol hfresh
        have row4 : RowIs w4 w.heap.size 154 [.pointer (some ⟨rd, 0, none⟩)] := row3.keep k4 (fun hb => by have := hol _ hb; have := (own3.lt _ hb).1; omega)
        have hr4 : IsRd w4 151 rd p (pGOwner s').2 := hr3.keep k4 (fun hb => by have := (own3.lt _ hb).1; omega) (fun b hb hb2 => by have := (own3.lt _ hb2).1; have := hpl b hb; omega)
        have kk4 : Keep (· = rd) w w4 := kk3.then k4 (fun i hi hb => by have := (own3.lt _ hb).1; omega)
        clear own3 els2 row3 hr3 kk3 k3 k4 hfresh
        go_wp2
        go_roundw
        case rel => exact ⟨xs ++ [(pGOwner s').1], css ++ [c], m, (pGOwner s').2, a', cap', by simp, by go_num, by show _ = _; rw [hp.out, hHP.out]; simp, by simpa using own4, by simpa using els4, hr4, row4, kk4, by simp; omega⟩
        case measure => simp [intOf] <;> omega
      · go_wp2_with fail
        go_ret
        have hHP : pMany pGOwner (m + 1) s' = ([], s') := by rw [pMany, if_neg he]
        refine ⟨_, rfl, ?_, ?_, kk2⟩
        · rw [HP.out, hp.out, hHP]; exact Els.list (Nat.le_succ _) own2 els2 wGOwner_lawful (by simp) hfar
        · rw [HP.out, hp.out, hHP]; exact hr2
def pGRoutes : Ps GRoutes := fun s0 =>
  let a0 := pInt s0
  let a1 := pInt a0.2
  let a2 := (pList pGOwner) a1.2
  let a3 := pInt a2.2
  let a4 := pBytes a3.2
  (⟨a0.1, a1.1, a2.1, a3.1, a4.1⟩, a4.2)
theorem S_Routes : StructT Tryz.prog 53 5 := ⟨⟨_, Tryz.underlying53⟩, by kernel_rfl⟩
theorem B_Routes : BuildT Tryz.prog 53 [1, 1, 1, 1, 1] := by
  obtain ⟨i, hi, hz, -, -⟩ := info_parts (by kernel_rfl : (Tryz.prog.info? 53).map (fun i => (i.zero, i.size, i.bytes)) = some (some (.agg #[.int .i64 0, .int .i64 0, .slice none 0 0, .int .i64 0, .slice none 0 0]), 5, 72))
  exact ⟨_, i, _, [(0, 1), (1, 1), (2, 1), (3, 1), (4, 1)], Tryz.underlying53, hi, hz, rfl, by kernel_rfl, rfl, by decide⟩
theorem bd_Routes (a : Act) (dst : Option Tmp) (ty : TypeId) (pos : String) (after : Array Edge) (guard : Option (Nat × Bool)) (parts : Array (Nat × Operand)) : execOp a.eval { dst := dst, op := .build 53 parts, type := ty, pos := pos, after := after, guard := guard } = buildSem 53 (parts.map fun x => (x.1, a.eval x.2)) := rfl
theorem st_Routes (a : Act) (dst : Option Tmp) (ty : TypeId) (pos : String) (after : Array Edge) (guard : Option (Nat × Bool)) (x y : Operand) : execOp a.eval { dst := dst, op := .store 53 x y, type := ty, pos := pos, after := after, guard := guard } = storeSem 53 (a.eval x) (a.eval y) := rfl
section
attribute [local go_sem ↓] bd_Routes st_Routes
set_option maxRecDepth 100000 in
set_option maxHeartbeats 8000000 in
theorem gRoutes_c (rd : Nat) (p : Nat → Prop) (s : RdS) (w : World) (h : IsRd w 151 rd p s) (hpl : ∀ b, p b → b < w.heap.size) :
    Calls Tryz.prog 137 #[.agg #[.pointer (some ⟨rd, 0, none⟩)]] w (GetsS wGRoutes 151 rd p w (pGRoutes s)) := by
  have hlt := h.lt
  have hmf : ∀ (fn : Fn) (first cap : Array Value) (w : World), (Instr.makeFunc fn first cap).run Tryz.prog w = .ok (.func fn first cap) w := fun _ _ _ _ => rfl
  have hsz : (w.alloc (.cells #[.pointer (some ⟨rd, 0, none⟩)] 154)).heap.size = w.heap.size + 1 := by simp
  have rowB : RowIs ((w.alloc (.cells #[.pointer (some ⟨rd, 0, none⟩)] 154)).alloc (.cells #[.int .i64 0, .int .i64 0, .slice none 0 0, .int .i64 0, .slice none 0 0] 53)) w.heap.size 154 [.pointer (some ⟨rd, 0, none⟩)] := (RowIs.alloc w _ _).keep ((Keep.refl Nix _).alloc _) id
  have rowR : RowIs ((w.alloc (.cells #[.pointer (some ⟨rd, 0, none⟩)] 154)).alloc (.cells #[.int .i64 0, .int .i64 0, .slice none 0 0, .int .i64 0, .slice none 0 0] 53)) (w.heap.size + 1) 53 [.int .i64 0, .int .i64 0, .slice none 0 0, .int .i64 0, .slice none 0 0] := by
    rw [← hsz]
    exact RowIs.alloc (w.alloc (.cells #[.pointer (some ⟨rd, 0, none⟩)] 154)) _ _
  have hr := h.nix (((Keep.refl Nix w).alloc (.cells #[.pointer (some ⟨rd, 0, none⟩)] 154)).alloc (.cells #[.int .i64 0, .int .i64 0, .slice none 0 0, .int .i64 0, .slice none 0 0] 53))
  have kk : Keep (· = rd) w ((w.alloc (.cells #[.pointer (some ⟨rd, 0, none⟩)] 154)).alloc (.cells #[.int .i64 0, .int .i64 0, .slice none 0 0, .int .i64 0, .slice none 0 0] 53)) := ((Keep.refl (· = rd) w).alloc _).alloc _
  clear h hsz
  replace rowB := rowB.same (w' := ((w.alloc (.cells #[.pointer (some ⟨rd, 0, none⟩)] 154)).alloc (.cells #[.int .i64 0, .int .i64 0, .slice none 0 0, .int .i64 0, .slice none 0 0] 53)).drew)
  replace rowR := rowR.same (w' := ((w.alloc (.cells #[.pointer (some ⟨rd, 0, none⟩)] 154)).alloc (.cells #[.int .i64 0, .int .i64 0, .slice none 0 0, .int .i64 0, .slice none 0 0] 53)).drew)
  replace hr := hr.same (w' := ((w.alloc (.cells #[.pointer (some ⟨rd, 0, none⟩)] 154)).alloc (.cells #[.int .i64 0, .int .i64 0, .slice none 0 0, .int .i64 0, .slice none 0 0] 53)).drew)
  replace kk := kk.drew
  go_enter Tryz.func137, Tryz.ntmps137
  go_wp2_with fail
  refine wp_region_held_drew (S := (fun w' => w'.cell? ⟨w.heap.size, 0, none⟩ = some (.pointer (some ⟨rd, 0, none⟩)))) (by kernel_rfl) (rowB.cell 0) (fun hHeld => ?_)
  refine wpAnyH_take (i := 0) (v := ?_) rfl (by kernel_rfl) (by kernel_rfl) (by kernel_rfl) (fun _ _ _ h => h) (Or.inl ⟨by rfl, ?_⟩) hHeld ?_
  rotate_left
  · intro w' hSw
    (try dsimp only at hSw)
    go_simp
    try with_reducible rfl
  (try simp only [Act.put]); (try simp only [List.setIfInBounds_toArray]); (try simp only [List.set_cons_succ]); (try simp only [List.set_cons_zero])
  refine wpAnyH_take (i := 2) (v := ?_) rfl (by kernel_rfl) (by kernel_rfl) (by kernel_rfl) (fun _ _ _ h => h) (Or.inl ⟨by rfl, ?_⟩) hHeld ?_
  rotate_left
  · intro w' hSw
    (try dsimp only at hSw)
    go_simp
    try with_reducible rfl
  (try simp only [Act.put]); (try simp only [List.setIfInBounds_toArray]); (try simp only [List.set_cons_succ]); (try simp only [List.set_cons_zero])
  refine wpAnyH_take (i := 4) (v := ?_) rfl (by kernel_rfl) (by kernel_rfl) (by kernel_rfl) (fun _ _ _ h => h) (Or.inl ⟨by rfl, ?_⟩) hHeld ?_
  rotate_left
  · intro w' hSw
    (try dsimp only at hSw)
    go_simp
    try with_reducible rfl
  (try simp only [Act.put]); (try simp only [List.setIfInBounds_toArray]); (try simp only [List.set_cons_succ]); (try simp only [List.set_cons_zero])
  refine wpAnyH_take (i := 5) (v := ?_) rfl (by kernel_rfl) (by kernel_rfl) (by kernel_rfl) (fun _ _ _ h => h) (Or.inl ⟨by rfl, ?_⟩) hHeld ?_
  rotate_left
  · intro w' hSw
    (try dsimp only at hSw)
    go_simp
    try with_reducible rfl
  (try simp only [Act.put]); (try simp only [List.setIfInBounds_toArray]); (try simp only [List.set_cons_succ]); (try simp only [List.set_cons_zero])
  refine wpAnyH_take (i := 6) (v := ?_) rfl (by kernel_rfl) (by kernel_rfl) (by kernel_rfl) (fun _ _ _ h => h) (Or.inl ⟨by rfl, ?_⟩) hHeld ?_
  rotate_left
  · intro w' hSw
    (try dsimp only at hSw)
    go_simp
    try with_reducible rfl
  (try simp only [Act.put]); (try simp only [List.setIfInBounds_toArray]); (try simp only [List.set_cons_succ]); (try simp only [List.set_cons_zero])
  refine wpAnyH_take (i := 8) (v := ?_) rfl (by kernel_rfl) (by kernel_rfl) (by kernel_rfl) (fun _ _ _ h => h) (Or.inl ⟨by rfl, ?_⟩) hHeld ?_
  rotate_left
  · intro w' hSw
    (try dsimp only at hSw)
    go_simp
    try with_reducible rfl
  (try simp only [Act.put]); (try simp only [List.setIfInBounds_toArray]); (try simp only [List.set_cons_succ]); (try simp only [List.set_cons_zero])
  refine wpAnyH_take (i := 10) (v := ?_) rfl (by kernel_rfl) (by kernel_rfl) (by kernel_rfl) (fun _ _ _ h => h) (Or.inl ⟨by rfl, ?_⟩) hHeld ?_
  rotate_left
  · intro w' hSw
    (try dsimp only at hSw)
    go_simp
    try with_reducible rfl
  (try simp only [Act.put]); (try simp only [List.setIfInBounds_toArray]); (try simp only [List.set_cons_succ]); (try simp only [List.set_cons_zero])
  refine wpAnyH_ready (rs := [1]) (by kernel_rfl) (by simp) ?_
  refine AllReadyH.cons rfl (fun K hK => ?_) AllReadyH.nil
  go_simp
  go_fit (rint_g rd p _ _ hr)
  rintro e w1 ⟨rfl, hr', k0⟩
  have wf0 : Hid ((Lit.int .i64 (pInt s).1).wf = true) := zag_wf (numS_lt maxU _)
  generalize hy0 : pInt s = y0 at hr' wf0 ⊢
  replace hy0 := Lib.hid hy0
  have rowRl := rowR.lt
  replace rowB := rowB.keep k0 (by omega)
  replace rowR := rowR.keep k0 (by omega)
  replace kk := kk.trans k0
  replace hr := hr'
  clear hr' k0 rowRl
  go_wp2_with fail
  refine hK.out _ _ (rowB.cell 0) (fun hHeld => ?_)
  clear hK K
  (try simp only [Act.put]); (try simp only [List.setIfInBounds_toArray]); (try simp only [List.set_cons_succ]); (try simp only [List.set_cons_zero])
  refine wpAnyH_ready (rs := [3]) (by kernel_rfl) (by simp) ?_
  refine AllReadyH.cons rfl (fun K hK => ?_) AllReadyH.nil
  go_simp
  go_fit (rint_g rd p _ _ hr)
  rintro e w2 ⟨rfl, hr', k1⟩
  have wf1 : Hid ((Lit.int .i64 (pInt y0.2).1).wf = true) := zag_wf (numS_lt maxU _)
  generalize hy1 : pInt y0.2 = y1 at hr' wf1 ⊢
  replace hy1 := Lib.hid hy1
  have rowRl := rowR.lt
  replace rowB := rowB.keep k1 (by omega)
  replace rowR := rowR.keep k1 (by omega)
  replace kk := kk.trans k1
  replace hr := hr'
  clear hr' k1 rowRl
  go_wp2_with fail
  refine hK.out _ _ (rowB.cell 0) (fun hHeld => ?_)
  clear hK K
  (try simp only [Act.put]); (try simp only [List.setIfInBounds_toArray]); (try simp only [List.set_cons_succ]); (try simp only [List.set_cons_zero])
  refine wpAnyH_ready (rs := [7]) (by kernel_rfl) (by simp) ?_
  refine AllReadyH.cons rfl (fun K hK => ?_) AllReadyH.nil
  go_simp
  go_fit (itOwner_c rd p _ _ hr (fun b hb => Nat.lt_of_lt_of_le (hpl b hb) kk.size))
  rintro e w3 ⟨v, rfl, q2, hr', k2⟩
  generalize hy2 : (pList pGOwner) y1.2 = y2 at hr' q2
  replace hy2 := Lib.hid hy2
  obtain ⟨a2, cc2, hv, q2'⟩ := rList_open q2
  simp only [List.cons.injEq, and_true] at hv
  subst hv
  clear q2
  have q2 := q2'
  clear q2'
  have rowRl := rowR.lt
  replace rowB := rowB.keep k2 (by omega)
  replace rowR := rowR.keep k2 (by omega)
  have hRl := rowRl
  replace kk := kk.trans k2
  replace q2 := (rList_lawful wGOwner_lawful).mono q2 (fun b hb => (⟨by have := hb.1; omega, hb.2⟩ : NewAt (w.heap.size + 2) w3 b))
  clear hRl
  replace hr := hr'
  clear hr' k2 rowRl
  go_wp2_with fail
  refine hK.out _ _ (rowB.cell 0) (fun hHeld => ?_)
  clear hK K
  (try simp only [Act.put]); (try simp only [List.setIfInBounds_toArray]); (try simp only [List.set_cons_succ]); (try simp only [List.set_cons_zero])
  refine wpAnyH_ready (rs := [9]) (by kernel_rfl) (by simp) ?_
  refine AllReadyH.cons rfl (fun K hK => ?_) AllReadyH.nil
  go_simp
  go_fit (rint_g rd p _ _ hr)
  rintro e w4 ⟨rfl, hr', k3⟩
  have wf3 : Hid ((Lit.int .i64 (pInt y2.2).1).wf = true) := zag_wf (numS_lt maxU _)
  generalize hy3 : pInt y2.2 = y3 at hr' wf3 ⊢
  replace hy3 := Lib.hid hy3
  have rowRl := rowR.lt
  replace q2 := (rList_lawful wGOwner_lawful).mono ((rList_lawful wGOwner_lawful).keep q2 k3 (fun b hb e => by have := hb.1; omega)) (fun b hb => (⟨hb.1, Nat.lt_of_lt_of_le hb.2 k3.size⟩ : NewAt (w.heap.size + 2) w4 b))
  replace rowB := rowB.keep k3 (by omega)
  replace rowR := rowR.keep k3 (by omega)
  replace kk := kk.trans k3
  replace hr := hr'
  clear hr' k3 rowRl
  go_wp2_with fail
  refine hK.out _ _ (rowB.cell 0) (fun hHeld => ?_)
  clear hK K
  (try simp only [Act.put]); (try simp only [List.setIfInBounds_toArray]); (try simp only [List.set_cons_succ]); (try simp only [List.set_cons_zero])
  refine wpAnyH_ready (rs := [11]) (by kernel_rfl) (by simp) ?_
  refine AllReadyH.cons rfl (fun K hK => ?_) AllReadyH.nil
  go_simp
  go_fit (rbytes_g rd p _ _ hr)
  rintro e w5 ⟨v, rfl, q4, hr', k4⟩
  generalize hy4 : pBytes y3.2 = y4 at hr' q4
  replace hy4 := Lib.hid hy4
  obtain ⟨a4, cc4, hv, q4'⟩ := rBytesW_open q4
  simp only [List.cons.injEq, and_true] at hv
  subst hv
  clear q4
  have q4 := q4'
  clear q4'
  have rowRl := rowR.lt
  replace q2 := (rList_lawful wGOwner_lawful).mono ((rList_lawful wGOwner_lawful).keep q2 k4 (fun b hb e => by have := hb.1; omega)) (fun b hb => (⟨hb.1, Nat.lt_of_lt_of_le hb.2 k4.size⟩ : NewAt (w.heap.size + 2) w5 b))
  replace rowB := rowB.keep k4 (by omega)
  replace rowR := rowR.keep k4 (by omega)
  have hRl := rowRl
  replace kk := kk.trans k4
  replace q4 := rBytesW_lawful.mono q4 (fun b hb => (⟨by have := hb.1; omega, hb.2⟩ : NewAt (w.heap.size + 2) w5 b))
  clear hRl
  replace hr := hr'
  clear hr' k4 rowRl
  go_wp2_with fail
  refine hK.out _ _ (rowB.cell 0) (fun hHeld => ?_)
  clear hK K
  (try simp only [Act.put]); (try simp only [List.setIfInBounds_toArray]); (try simp only [List.set_cons_succ]); (try simp only [List.set_cons_zero])
  have hbd := fun w' => build_run (P := Tryz.prog) B_Routes [.int .i64 y0.1, .int .i64 y1.1, .slice a2 y2.1.length cc2, .int .i64 y3.1, .slice a4 y4.1.length cc4] (by simp only [List.map_cons, List.map_nil, size_int, size_slice]) w'
  simp only [numbered, Nat.reduceAdd] at hbd
  refine wpAnyH_take (i := 12) (v := ?_) rfl (by kernel_rfl) (by kernel_rfl) (by kernel_rfl) (fun _ _ _ h => h) (Or.inl ⟨by rfl, ?_⟩) hHeld ?_
  rotate_left
  · intro w' hSw
    (try dsimp only at hSw)
    (try simp only [List.getElem_toArray]); (try simp only [List.getElem_cons_succ]); (try simp only [List.getElem_cons_zero])
    go_simp
    try with_reducible rfl
  (try simp only [Act.put]); (try simp only [List.setIfInBounds_toArray]); (try simp only [List.set_cons_succ]); (try simp only [List.set_cons_zero])
  refine wpAnyH_ready (rs := [13]) (by kernel_rfl) (by simp) ?_
  refine AllReadyH.cons rfl (fun K hK => ?_) AllReadyH.nil
  have hjl : (joined [.int .i64 y0.1, .int .i64 y1.1, .slice a2 y2.1.length cc2, .int .i64 y3.1, .slice a4 y4.1.length cc4]).length = 5 := by simp only [joined_len, joined_len0, size_int, size_slice]
  have hjo : ones (joined [.int .i64 y0.1, .int .i64 y1.1, .slice a2 y2.1.length cc2, .int .i64 y3.1, .slice a4 y4.1.length cc4]) = true := by simp only [joined_ones, joined_ones0, ones_int, ones_slice, Bool.and_self]
  have hst := store_run (P := Tryz.prog) S_Routes rowR rfl hjl hjo
  have rowF := rowR.setRow (joined [.int .i64 y0.1, .int .i64 y1.1, .slice a2 y2.1.length cc2, .int .i64 y3.1, .slice a4 y4.1.length cc4])
  have kS := (Keep.refl (· = w.heap.size + 1) w5).setRow (fun _ => rfl) (joined [.int .i64 y0.1, .int .i64 y1.1, .slice a2 y2.1.length cc2, .int .i64 y3.1, .slice a4 y4.1.length cc4]).toArray
  replace rowB := rowB.keep kS (by omega)
  have HJL := Lib.hid hjl
  have HJO := Lib.hid hjo
  clear hjl hjo
  (try simp only [List.getElem_toArray]); (try simp only [List.getElem_cons_succ]); (try simp only [List.getElem_cons_zero])
  go_simp
  clear hst
  refine hK.out _ _ (rowB.cell 0) (fun hHeld => ?_)
  clear hK K
  (try simp only [Act.put]); (try simp only [List.setIfInBounds_toArray]); (try simp only [List.set_cons_succ]); (try simp only [List.set_cons_zero])
  refine wpAnyH_done (by kernel_rfl) ?_ _
  clear hbd hmf hHeld
  go_wp2_with fail
  have hinfo : (Tryz.prog.info? 53).map (·.size) = some (joined [.int .i64 y0.1, .int .i64 y1.1, .slice a2 y2.1.length cc2, .int .i64 y3.1, .slice a4 y4.1.length cc4]).toArray.size := by rw [List.size_toArray, HJL.out]; exact S_Routes.info
  refine bodyPost_ret (results_cell_row (by rfl) _ _ _ _ _ _ _ (by rfl) rowF Tryz.underlying53 (by rfl) hinfo) rfl ?_
  replace q2 := (rList_lawful wGOwner_lawful).mono ((rList_lawful wGOwner_lawful).keep q2 kS (fun b hb e => by have := hb.1; omega)) (fun b hb => (⟨by have := hb.1; omega, Nat.lt_of_lt_of_le hb.2 kS.size⟩ : NewIn w (w5.setRow (w.heap.size + 1) (joined [.int .i64 y0.1, .int .i64 y1.1, .slice a2 y2.1.length cc2, .int .i64 y3.1, .slice a4 y4.1.length cc4]).toArray) b))
  replace q4 := rBytesW_lawful.mono (rBytesW_lawful.keep q4 kS (fun b hb e => by have := hb.1; omega)) (fun b hb => (⟨by have := hb.1; omega, Nat.lt_of_lt_of_le hb.2 kS.size⟩ : NewIn w (w5.setRow (w.heap.size + 1) (joined [.int .i64 y0.1, .int .i64 y1.1, .slice a2 y2.1.length cc2, .int .i64 y3.1, .slice a4 y4.1.length cc4]).toArray) b))
  have HE : pGRoutes s = (⟨y0.1, y1.1, y2.1, y3.1, y4.1⟩, y4.2) := by simp only [pGRoutes, hy0.out, hy1.out, hy2.out, hy3.out, hy4.out]
  rw [HE]
  refine ⟨_, rfl, ⟨[_], [_], [_], [_], [_], by simp [joined, Value.cells], ⟨rfl, wf0.out⟩, ⟨rfl, wf1.out⟩, q2, ⟨rfl, wf3.out⟩, q4⟩, HJO.out, hr.keep kS (by omega) (fun b hb e => by have := hpl b hb; omega), kk.then kS (fun i hi e => by omega)⟩
end
end Go.Proofs.YtibaehlfpgipfaaGreat
