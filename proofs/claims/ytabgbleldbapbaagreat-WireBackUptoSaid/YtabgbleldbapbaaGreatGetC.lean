/- LISTS OF A READER: package wire's items[T]. Printed by gen8.py. -/
import Derived.Test.YtabgbleldbapbaaGreatGetA
import Derived.Deep.RegionHeld3
namespace Go.Proofs.YtabgbleldbapbaaGreat
open Go.RowKit

def pGSet : Ps GSet := fun s0 =>
  let a0 := pInt s0
  let a1 := pGValue a0.2
  (⟨a0.1, a1.1⟩, a1.2)
theorem S_Set : StructT Tryz.prog 203 4 := ⟨⟨_, Tryz.underlying203⟩, by kernel_rfl⟩
theorem B_Set : BuildT Tryz.prog 203 [1, 3] := by
  obtain ⟨i, hi, hz, -, -⟩ := info_parts (by kernel_rfl : (Tryz.prog.info? 203).map (fun i => (i.zero, i.size, i.bytes)) = some (some (.agg #[.int .i64 0, .int .i64 0, .int .i64 0, .string ByteArray.empty]), 4, 40))
  exact ⟨_, i, _, [(0, 1), (1, 3)], Tryz.underlying203, hi, hz, rfl, by kernel_rfl, rfl, by decide⟩
theorem bd_Set (a : Act) (dst : Option Tmp) (ty : TypeId) (pos : String) (after : Array Edge) (guard : Option (Nat × Bool)) (parts : Array (Nat × Operand)) : execOp a.eval { dst := dst, op := .build 203 parts, type := ty, pos := pos, after := after, guard := guard } = buildSem 203 (parts.map fun x => (x.1, a.eval x.2)) := rfl
theorem st_Set (a : Act) (dst : Option Tmp) (ty : TypeId) (pos : String) (after : Array Edge) (guard : Option (Nat × Bool)) (x y : Operand) : execOp a.eval { dst := dst, op := .store 203 x y, type := ty, pos := pos, after := after, guard := guard } = storeSem 203 (a.eval x) (a.eval y) := rfl
section
attribute [local go_sem ↓] bd_Set st_Set
set_option maxRecDepth 100000 in
set_option maxHeartbeats 8000000 in
theorem gSet_c (rd : Nat) (p : Nat → Prop) (s : RdS) (w : World) (h : IsRd w 165 rd p s) (hpl : ∀ b, p b → b < w.heap.size) :
    Calls Tryz.prog 175 #[.agg #[.pointer (some ⟨rd, 0, none⟩)]] w (GetsS wGSet 165 rd p w (pGSet s)) := by
  have hlt := h.lt
  have hmf : ∀ (fn : Fn) (first cap : Array Value) (w : World), (Instr.makeFunc fn first cap).run Tryz.prog w = .ok (.func fn first cap) w := fun _ _ _ _ => rfl
  have hsz : (w.alloc (.cells #[.pointer (some ⟨rd, 0, none⟩)] 85)).heap.size = w.heap.size + 1 := by simp
  have rowB : RowIs ((w.alloc (.cells #[.pointer (some ⟨rd, 0, none⟩)] 85)).alloc (.cells #[.int .i64 0, .int .i64 0, .int .i64 0, .string ByteArray.empty] 203)) w.heap.size 85 [.pointer (some ⟨rd, 0, none⟩)] := (RowIs.alloc w _ _).keep ((Keep.refl Nix _).alloc _) id
  have rowR : RowIs ((w.alloc (.cells #[.pointer (some ⟨rd, 0, none⟩)] 85)).alloc (.cells #[.int .i64 0, .int .i64 0, .int .i64 0, .string ByteArray.empty] 203)) (w.heap.size + 1) 203 [.int .i64 0, .int .i64 0, .int .i64 0, .string ByteArray.empty] := by
    rw [← hsz]
    exact RowIs.alloc (w.alloc (.cells #[.pointer (some ⟨rd, 0, none⟩)] 85)) _ _
  have hr := h.nix (((Keep.refl Nix w).alloc (.cells #[.pointer (some ⟨rd, 0, none⟩)] 85)).alloc (.cells #[.int .i64 0, .int .i64 0, .int .i64 0, .string ByteArray.empty] 203))
  have kk : Keep (· = rd) w ((w.alloc (.cells #[.pointer (some ⟨rd, 0, none⟩)] 85)).alloc (.cells #[.int .i64 0, .int .i64 0, .int .i64 0, .string ByteArray.empty] 203)) := ((Keep.refl (· = rd) w).alloc _).alloc _
  clear h hsz
  replace rowB := rowB.same (w' := ((w.alloc (.cells #[.pointer (some ⟨rd, 0, none⟩)] 85)).alloc (.cells #[.int .i64 0, .int .i64 0, .int .i64 0, .string ByteArray.empty] 203)).drew)
  replace rowR := rowR.same (w' := ((w.alloc (.cells #[.pointer (some ⟨rd, 0, none⟩)] 85)).alloc (.cells #[.int .i64 0, .int .i64 0, .int .i64 0, .string ByteArray.empty] 203)).drew)
  replace hr := hr.same (w' := ((w.alloc (.cells #[.pointer (some ⟨rd, 0, none⟩)] 85)).alloc (.cells #[.int .i64 0, .int .i64 0, .int .i64 0, .string ByteArray.empty] 203)).drew)
  replace kk := kk.drew
  go_enter Tryz.func175, Tryz.ntmps175
  go_wp2_with fail
  refine wp_region_held_drew (S := (fun w' => w'.cell? ⟨w.heap.size, 0, none⟩ = some (.pointer (some ⟨rd, 0, none⟩)))) (by kernel_rfl) (rowB.cell 0) (fun hHeld => ?_)
  refine wpAnyH_take (i := 0) (v := ?_) rfl (by kernel_rfl) (by kernel_rfl) (by kernel_rfl) (fun _ _ _ h => h) (Or.inl ⟨by rfl, ?_⟩) hHeld ?_
  rotate_left
  · intro w' hSw
    (try dsimp only at hSw)
    go_simp
    try with_reducible rfl
  (try simp only [Act.put]); (try simp only [List.setIfInBounds_toArray]); (try simp only [List.set_cons_succ]); (try simp only [List.set_cons_zero])
  refine wpAnyH_take (i := 2) (v := ?_) rfl (by kernel_rfl) (by kernel_rfl) (by kernel_rfl) (fun _ _ _ h => h) (Or.inl ⟨by rfl, ?_⟩) hHeld ?_
  rotate_left
  · intro w' hSw
    (try dsimp only at hSw)
    go_simp
    try with_reducible rfl
  (try simp only [Act.put]); (try simp only [List.setIfInBounds_toArray]); (try simp only [List.set_cons_succ]); (try simp only [List.set_cons_zero])
  refine wpAnyH_ready (rs := [1]) (by kernel_rfl) (by simp) ?_
  refine AllReadyH.cons rfl (fun K hK => ?_) AllReadyH.nil
  go_simp
  go_fit (rint_g rd p _ _ hr)
  rintro e w1 ⟨rfl, hr', k0⟩
  have wf0 : Hid ((Lit.int .i64 (pInt s).1).wf = true) := zag_wf (numS_lt maxU _)
  generalize hy0 : pInt s = y0 at hr' wf0 ⊢
  replace hy0 := Lib.hid hy0
  have rowRl := rowR.lt
  replace rowB := rowB.keep k0 (by omega)
  replace rowR := rowR.keep k0 (by omega)
  replace kk := kk.trans k0
  replace hr := hr'
  clear hr' k0 rowRl
  go_wp2_with fail
  refine hK.out _ _ (rowB.cell 0) (fun hHeld => ?_)
  clear hK K
  (try simp only [Act.put]); (try simp only [List.setIfInBounds_toArray]); (try simp only [List.set_cons_succ]); (try simp only [List.set_cons_zero])
  refine wpAnyH_ready (rs := [3]) (by kernel_rfl) (by simp) ?_
  refine AllReadyH.cons rfl (fun K hK => ?_) AllReadyH.nil
  go_simp
  go_fit (gValue_c rd p _ _ hr (fun b hb => Nat.lt_of_lt_of_le (hpl b hb) kk.size))
  rintro e w2 ⟨c1, rfl, q1, ho1, hr', k1⟩
  have hl1 := Lib.hid (wGValue_lawful.len q1)
  replace ho1 := Lib.hid ho1
  generalize hy1 : pGValue y0.2 = y1 at hr' q1
  replace hy1 := Lib.hid hy1
  have rowRl := rowR.lt
  replace rowB := rowB.keep k1 (by omega)
  replace rowR := rowR.keep k1 (by omega)
  have hRl := rowRl
  replace kk := kk.trans k1
  replace q1 := wGValue_lawful.mono q1 (fun b hb => (⟨by have := hb.1; omega, hb.2⟩ : NewAt (w.heap.size + 2) w2 b))
  clear hRl
  replace hr := hr'
  clear hr' k1 rowRl
  go_wp2_with fail
  refine hK.out _ _ (rowB.cell 0) (fun hHeld => ?_)
  clear hK K
  (try simp only [Act.put]); (try simp only [List.setIfInBounds_toArray]); (try simp only [List.set_cons_succ]); (try simp only [List.set_cons_zero])
  have hbd := fun w' => build_run (P := Tryz.prog) B_Set [.int .i64 y0.1, .agg c1.toArray] (by simp only [List.map_cons, List.map_nil, size_int, size_agg, hl1.out]) w'
  simp only [numbered, Nat.reduceAdd] at hbd
  refine wpAnyH_take (i := 4) (v := ?_) rfl (by kernel_rfl) (by kernel_rfl) (by kernel_rfl) (fun _ _ _ h => h) (Or.inl ⟨by rfl, ?_⟩) hHeld ?_
  rotate_left
  · intro w' hSw
    (try dsimp only at hSw)
    (try simp only [List.getElem_toArray]); (try simp only [List.getElem_cons_succ]); (try simp only [List.getElem_cons_zero])
    go_simp
    try with_reducible rfl
  (try simp only [Act.put]); (try simp only [List.setIfInBounds_toArray]); (try simp only [List.set_cons_succ]); (try simp only [List.set_cons_zero])
  refine wpAnyH_ready (rs := [5]) (by kernel_rfl) (by simp) ?_
  refine AllReadyH.cons rfl (fun K hK => ?_) AllReadyH.nil
  have hjl : (joined [.int .i64 y0.1, .agg c1.toArray]).length = 4 := by simp only [joined_len, joined_len0, size_int, size_agg, hl1.out]
  have hjo : ones (joined [.int .i64 y0.1, .agg c1.toArray]) = true := by simp only [joined_ones, joined_ones0, ones_int, ones_agg, ho1.out, Bool.and_self]
  have hst := store_run (P := Tryz.prog) S_Set rowR rfl hjl hjo
  have rowF := rowR.setRow (joined [.int .i64 y0.1, .agg c1.toArray])
  have kS := (Keep.refl (· = w.heap.size + 1) w2).setRow (fun _ => rfl) (joined [.int .i64 y0.1, .agg c1.toArray]).toArray
  replace rowB := rowB.keep kS (by omega)
  have HJL := Lib.hid hjl
  have HJO := Lib.hid hjo
  clear hjl hjo
  (try simp only [List.getElem_toArray]); (try simp only [List.getElem_cons_succ]); (try simp only [List.getElem_cons_zero])
  go_simp
  clear hst
  refine hK.out _ _ (rowB.cell 0) (fun hHeld => ?_)
  clear hK K
  (try simp only [Act.put]); (try simp only [List.setIfInBounds_toArray]); (try simp only [List.set_cons_succ]); (try simp only [List.set_cons_zero])
  refine wpAnyH_done (by kernel_rfl) ?_ _
  clear hbd hmf hHeld
  go_wp2_with fail
  have hinfo : (Tryz.prog.info? 203).map (·.size) = some (joined [.int .i64 y0.1, .agg c1.toArray]).toArray.size := by rw [List.size_toArray, HJL.out]; exact S_Set.info
  refine bodyPost_ret (results_cell_row (by rfl) _ _ _ _ _ _ _ (by rfl) rowF Tryz.underlying203 (by rfl) hinfo) rfl ?_
  replace q1 := wGValue_lawful.mono (wGValue_lawful.keep q1 kS (fun b hb e => by have := hb.1; omega)) (fun b hb => (⟨by have := hb.1; omega, Nat.lt_of_lt_of_le hb.2 kS.size⟩ : NewIn w (w2.setRow (w.heap.size + 1) (joined [.int .i64 y0.1, .agg c1.toArray]).toArray) b))
  have HE : pGSet s = (⟨y0.1, y1.1⟩, y1.2) := by simp only [pGSet, hy0.out, hy1.out]
  rw [HE]
  refine ⟨_, rfl, ⟨[_], c1, by simp [joined, Value.cells], ⟨rfl, wf0.out⟩, q1⟩, HJO.out, hr.keep kS (by omega) (fun b hb e => by have := hpl b hb; omega), kk.then kS (fun i hi e => by omega)⟩
end
theorem T_lSet : SliceT Tryz.prog 132 203 4 40 := SliceT.mk' Tryz.underlying132 (z := .agg #[.int .i64 0, .int .i64 0, .int .i64 0, .string ByteArray.empty]) (by kernel_rfl) rfl (by decide)
theorem ls_Set (a : Act) (dst : Option Tmp) (parts : Array (Nat × Operand)) (ty : TypeId) (pos : String) (after : Array Edge) (guard : Option (Nat × Bool)) : execOp a.eval { dst := dst, op := .buildSlice 132 1 parts, type := ty, pos := pos, after := after, guard := guard } = listSem 132 1 (parts.map fun x => (x.1, a.eval x.2)) := rfl
attribute [local go_sem ↓] ls_Set
set_option maxRecDepth 100000 in
set_option maxHeartbeats 4000000 in
theorem itSet_c (rd : Nat) (p : Nat → Prop) (s : RdS) (w : World) (h : IsRd w 165 rd p s) (hpl : ∀ b, p b → b < w.heap.size) :
    Calls Tryz.prog 174 #[.agg #[.pointer (some ⟨rd, 0, none⟩)], .func (.func 175) #[.agg #[.pointer (some ⟨rd, 0, none⟩)]] #[]] w (GetsV (rList wGSet) 165 rd p w (pList pGSet s)) := by
  have hlt := h.lt
  have h0 := h.nix ((Keep.refl Nix w).alloc (.cells #[.pointer (some ⟨rd, 0, none⟩)] 85))
  have row0 : RowIs (w.alloc (.cells #[.pointer (some ⟨rd, 0, none⟩)] 85)) w.heap.size 85 [.pointer (some ⟨rd, 0, none⟩)] := RowIs.alloc w _ _
  have hle := numS_le 5000 s
  clear h
  go_enter Tryz.func174, Tryz.ntmps174
  go_wp2_with fail
  go_fit (Small_rd rd p s _ h0 5000 (by unfold isI64; omega))
  rintro e w1 ⟨rfl, h1, k1⟩
  have row1 := row0.keep k1 (by omega)
  have kk1 : Keep (· = rd) w w1 := ((Keep.refl (· = rd) w).alloc (.cells #[.pointer (some ⟨rd, 0, none⟩)] 85)).trans (k1.mono fun _ h => h)
  have HP : Hid (pList pGSet s = pMany pGSet (numS (5000 : Int).toNat s).1 (numS (5000 : Int).toNat s).2) := rfl
  have hle' : (numS (5000 : Int).toNat s).1 ≤ 5000 := hle
  clear h0 row0 k1 hle
  generalize numS (5000 : Int).toNat s = N at h1 HP hle' ⊢
  go_wp2_with fail
  go_loopw [5, 6] (fun l n wr => ∃ (xs : List GSet) (css : List (List Value)) (m : Nat) (s' : RdS) (a : Option Addr) (cap : Nat), l = .slice a xs.length cap ∧ n = .int .i64 m ∧ Hid (pMany pGSet N.1 N.2 = (xs ++ (pMany pGSet m s').1, (pMany pGSet m s').2)) ∧
      wr.ownsRow (w.heap.size + 1) 203 4 (.slice a xs.length cap) xs.length css.flatten ∧ Els wGSet wr (fun b => NewIn w wr b ∧ ¬ OwnB (.slice a xs.length cap) b) css xs ∧ IsRd wr 165 rd p s' ∧ RowIs wr w.heap.size 85 [.pointer (some ⟨rd, 0, none⟩)] ∧ Keep (· = rd) w wr ∧ xs.length + m ≤ 5000) (fun _ n _ => (intOf n).toNat)
  case atStart => exact ⟨[], [], N.1, N.2, none, 0, rfl, rfl, rfl, World.ownsRow_nil _ _ _ _, Els.nil _ _ _, h1, row1, kk1, by simpa using hle'⟩
  case round =>
    clear h1 row1 kk1 hle'
    obtain ⟨xs, css, m, s', a, cap, rfl, rfl, hp, own, els, hr, row, kk, hm⟩ := hrel
    have x0 : wr.cell? ⟨w.heap.size, 0, none⟩ = some (.pointer (some ⟨rd, 0, none⟩)) := row.cell 0
    have hfar : xs.length ≤ far := by unfold far; omega
    by_cases hm0 : m = 0
    · subst hm0
      clear hm
      go_wp2_with fail
      go_ret
      refine ⟨_, rfl, ?_, ?_, kk⟩
      · rw [HP.out, hp.out]; exact Els.list (Nat.le_succ _) own els wGSet_lawful (by simp [pMany]) hfar
      · rw [HP.out, hp.out]; exact hr
    · obtain ⟨m, rfl⟩ : ∃ m', m = m' + 1 := ⟨m - 1, by omega⟩
      have hpos : (0 : Int) < ((m + 1 : Nat) : Int) := by omega
      clear hm0
      go_wp2_with fail
      go_fit (Err_rd rd p s' wr hr)
      rintro e w2 ⟨rfl, k2⟩
      have own2 := owned_keep own k2 (fun _ _ h => h)
      have els2 := (els.keep wGSet_lawful (k2.nix (S := (· = rd))) (fun b hb e => by have := hb.1.1; omega)).mono (q := fun b => NewIn w w2 b ∧ ¬ OwnB (.slice a xs.length cap) b) wGSet_lawful (fun b hb => ⟨⟨hb.1.1, Nat.lt_of_lt_of_le hb.1.2 k2.size⟩, hb.2⟩)
      have hr2 := hr.nix k2
      have row2 := row.keep k2 (fun h => h)
      have kk2 : Keep (· = rd) w w2 := kk.trans (k2.nix)
      have hwr := kk.size
      have hsz2 := k2.size
      clear own els hr row kk x0
      have x0 : w2.cell? ⟨w.heap.size, 0, none⟩ = some (.pointer (some ⟨rd, 0, none⟩)) := row2.cell 0
      rcases test_eq s'.e 0 with ⟨ht, he⟩ | ⟨ht, he⟩
      · go_wp2_with fail
        go_fit (gSet_c rd p s' w2 hr2 (fun b hb => Nat.lt_of_lt_of_le (hpl b hb) (by omega)))
        rintro e w3 ⟨c, rfl, hc, h1c, hr3, k3⟩
        have hlc := wGSet_lawful.len hc
        have hls := list_run (P := Tryz.prog) T_lSet (by decide) c hlc w3
        have own3 := owned_keep own2 k3 (fun b hb e => by have := (own2.lt b hb).1; omega)
        have row3 := row2.keep k3 (by omega)
        have kk3 := kk2.trans k3
        have hB := row3.lt
        have hsz3 := k3.size
        have hol : ∀ b, OwnB (.slice a xs.length cap) b → b < w2.heap.size := fun b hb => (own2.lt b hb).2
        have hlen := xs.length
        have hHP : Hid (pMany pGSet (m + 1) s' = ((pGSet s').1 :: (pMany pGSet m (pGSet s').2).1, (pMany pGSet m (pGSet s').2).2)) := by show _ = _; rw [pMany, if_pos he.out]
        clear own2 hr2 row2 kk2 x0 hlen
        go_wp2_with (at_builtin; refine wpl_append1_at T_lSet rfl (.tmp 20) (.tmp 23) rfl (w.heap.size + 1) rfl own3 rfl ?c0 ?c1 ?c2 ?c3 ?c4 ?_)
        case c0 => simpa using hlc
        case c1 => first | (simpa [ones] using h1c) | (intro u hu; exact (List.all_eq_true.1 h1c) u (by simpa using hu))
        case c2 => unfold maxLen; omega
        case c3 => omega
        case c4 => omega
        intro a' cap' w4 own4 k4 hfresh
        have els4 := els2.push wGSet_lawful hc k3 k4 hlt (by omega) hol hfresh
        have row4 : RowIs w4 w.heap.size 85 [.pointer (some ⟨rd, 0, none⟩)] := row3.keep k4 (fun hb => by have := hol _ hb; have := (own3.lt _ hb).1; omega)
        have hr4 : IsRd w4 165 rd p (pGSet s').2 := hr3.keep k4 (fun hb => by have := (own3.lt _ hb).1; omega) (fun b hb hb2 => by have := (own3.lt _ hb2).1; have := hpl b hb; omega)
        have kk4 : Keep (· = rd) w w4 := kk3.then k4 (fun i hi hb => by have := (own3.lt _ hb).1; omega)
        clear own3 els2 row3 hr3 kk3 k3 k4 hfresh
        go_wp2
        go_roundw
        case rel => exact ⟨xs ++ [(pGSet s').1], css ++ [c], m, (pGSet s').2, a', cap', by simp, by go_num, by show _ = _; rw [hp.out, hHP.out]; simp, by simpa using own4, by simpa using els4, hr4, row4, kk4, by simp; omega⟩
        case measure => simp [intOf] <;> omega
      · go_wp2_with fail
        go_ret
        have hHP : pMany pGSet (m + 1) s' = ([], s') := by rw [pMany, if_neg he]
        refine ⟨_, rfl, ?_, ?_, kk2⟩
        · rw [HP.out, hp.out, hHP]; exact Els.list (Nat.le_succ _) own2 els2 wGSet_lawful (by simp) hfar
        · rw [HP.out, hp.out, hHP]; exact hr2
def pGOp : Ps GOp := fun s0 =>
  let a0 := pInt s0
  let a1 := pBytes a0.2
  let a2 := pBytes a1.2
  let a3 := (pList pGValue) a2.2
  let a4 := (pList pGValue) a3.2
  let a5 := (pList pGSet) a4.2
  let a6 := (pList pGValue) a5.2
  let a7 := (pList pGValue) a6.2
  let a8 := pInt a7.2
  let a9 := pFlag a8.2
  let a10 := (pList pBytes) a9.2
  (⟨a0.1, a1.1, a2.1, a3.1, a4.1, a5.1, a6.1, a7.1, a8.1, a9.1, a10.1⟩, a10.2)
theorem S_Op : StructT Tryz.prog 135 11 := ⟨⟨_, Tryz.underlying135⟩, by kernel_rfl⟩
theorem B_Op : BuildT Tryz.prog 135 [1, 1, 1, 1, 1, 1, 1, 1, 1, 1, 1] := by
  obtain ⟨i, hi, hz, -, -⟩ := info_parts (by kernel_rfl : (Tryz.prog.info? 135).map (fun i => (i.zero, i.size, i.bytes)) = some (some (.agg #[.int .i64 0, .string ByteArray.empty, .string ByteArray.empty, .slice none 0 0, .slice none 0 0, .slice none 0 0, .slice none 0 0, .slice none 0 0, .int .i64 0, .bool false, .slice none 0 0]), 11, 200))
  exact ⟨_, i, _, [(0, 1), (1, 1), (2, 1), (3, 1), (4, 1), (5, 1), (6, 1), (7, 1), (8, 1), (9, 1), (10, 1)], Tryz.underlying135, hi, hz, rfl, by kernel_rfl, rfl, by decide⟩
theorem bd_Op (a : Act) (dst : Option Tmp) (ty : TypeId) (pos : String) (after : Array Edge) (guard : Option (Nat × Bool)) (parts : Array (Nat × Operand)) : execOp a.eval { dst := dst, op := .build 135 parts, type := ty, pos := pos, after := after, guard := guard } = buildSem 135 (parts.map fun x => (x.1, a.eval x.2)) := rfl
theorem st_Op (a : Act) (dst : Option Tmp) (ty : TypeId) (pos : String) (after : Array Edge) (guard : Option (Nat × Bool)) (x y : Operand) : execOp a.eval { dst := dst, op := .store 135 x y, type := ty, pos := pos, after := after, guard := guard } = storeSem 135 (a.eval x) (a.eval y) := rfl
section
attribute [local go_sem ↓] bd_Op st_Op
set_option maxRecDepth 100000 in
set_option maxHeartbeats 8000000 in
theorem gOp_c (rd : Nat) (p : Nat → Prop) (s : RdS) (w : World) (h : IsRd w 165 rd p s) (hpl : ∀ b, p b → b < w.heap.size) :
    Calls Tryz.prog 128 #[.agg #[.pointer (some ⟨rd, 0, none⟩)]] w (GetsS wGOp 165 rd p w (pGOp s)) := by
  have hlt := h.lt
  have hmf : ∀ (fn : Fn) (first cap : Array Value) (w : World), (Instr.makeFunc fn first cap).run Tryz.prog w = .ok (.func fn first cap) w := fun _ _ _ _ => rfl
  have hsz : (w.alloc (.cells #[.pointer (some ⟨rd, 0, none⟩)] 85)).heap.size = w.heap.size + 1 := by simp
  have rowB : RowIs ((w.alloc (.cells #[.pointer (some ⟨rd, 0, none⟩)] 85)).alloc (.cells #[.int .i64 0, .string ByteArray.empty, .string ByteArray.empty, .slice none 0 0, .slice none 0 0, .slice none 0 0, .slice none 0 0, .slice none 0 0, .int .i64 0, .bool false, .slice none 0 0] 135)) w.heap.size 85 [.pointer (some ⟨rd, 0, none⟩)] := (RowIs.alloc w _ _).keep ((Keep.refl Nix _).alloc _) id
  have rowR : RowIs ((w.alloc (.cells #[.pointer (some ⟨rd, 0, none⟩)] 85)).alloc (.cells #[.int .i64 0, .string ByteArray.empty, .string ByteArray.empty, .slice none 0 0, .slice none 0 0, .slice none 0 0, .slice none 0 0, .slice none 0 0, .int .i64 0, .bool false, .slice none 0 0] 135)) (w.heap.size + 1) 135 [.int .i64 0, .string ByteArray.empty, .string ByteArray.empty, .slice none 0 0, .slice none 0 0, .slice none 0 0, .slice none 0 0, .slice none 0 0, .int .i64 0, .bool false, .slice none 0 0] := by
    rw [← hsz]
    exact RowIs.alloc (w.alloc (.cells #[.pointer (some ⟨rd, 0, none⟩)] 85)) _ _
  have hr := h.nix (((Keep.refl Nix w).alloc (.cells #[.pointer (some ⟨rd, 0, none⟩)] 85)).alloc (.cells #[.int .i64 0, .string ByteArray.empty, .string ByteArray.empty, .slice none 0 0, .slice none 0 0, .slice none 0 0, .slice none 0 0, .slice none 0 0, .int .i64 0, .bool false, .slice none 0 0] 135))
  have kk : Keep (· = rd) w ((w.alloc (.cells #[.pointer (some ⟨rd, 0, none⟩)] 85)).alloc (.cells #[.int .i64 0, .string ByteArray.empty, .string ByteArray.empty, .slice none 0 0, .slice none 0 0, .slice none 0 0, .slice none 0 0, .slice none 0 0, .int .i64 0, .bool false, .slice none 0 0] 135)) := ((Keep.refl (· = rd) w).alloc _).alloc _
  clear h hsz
  replace rowB := rowB.same (w' := ((w.alloc (.cells #[.pointer (some ⟨rd, 0, none⟩)] 85)).alloc (.cells #[.int .i64 0, .string ByteArray.empty, .string ByteArray.empty, .slice none 0 0, .slice none 0 0, .slice none 0 0, .slice none 0 0, .slice none 0 0, .int .i64 0, .bool false, .slice none 0 0] 135)).drew)
  replace rowR := rowR.same (w' := ((w.alloc (.cells #[.pointer (some ⟨rd, 0, none⟩)] 85)).alloc (.cells #[.int .i64 0, .string ByteArray.empty, .string ByteArray.empty, .slice none 0 0, .slice none 0 0, .slice none 0 0, .slice none 0 0, .slice none 0 0, .int .i64 0, .bool false, .slice none 0 0] 135)).drew)
  replace hr := hr.same (w' := ((w.alloc (.cells #[.pointer (some ⟨rd, 0, none⟩)] 85)).alloc (.cells #[.int .i64 0, .string ByteArray.empty, .string ByteArray.empty, .slice none 0 0, .slice none 0 0, .slice none 0 0, .slice none 0 0, .slice none 0 0, .int .i64 0, .bool false, .slice none 0 0] 135)).drew)
  replace kk := kk.drew
  go_enter Tryz.func128, Tryz.ntmps128
  go_wp2_with fail
  refine wp_region_held_drew (S := (fun w' => w'.cell? ⟨w.heap.size, 0, none⟩ = some (.pointer (some ⟨rd, 0, none⟩)))) (by kernel_rfl) (rowB.cell 0) (fun hHeld => ?_)
  refine wpAnyH_take (i := 0) (v := ?_) rfl (by kernel_rfl) (by kernel_rfl) (by kernel_rfl) (fun _ _ _ h => h) (Or.inl ⟨by rfl, ?_⟩) hHeld ?_
  rotate_left
  · intro w' hSw
    (try dsimp only at hSw)
    go_simp
    try with_reducible rfl
  (try simp only [Act.put]); (try simp only [List.setIfInBounds_toArray]); (try simp only [List.set_cons_succ]); (try simp only [List.set_cons_zero])
  refine wpAnyH_take (i := 2) (v := ?_) rfl (by kernel_rfl) (by kernel_rfl) (by kernel_rfl) (fun _ _ _ h => h) (Or.inl ⟨by rfl, ?_⟩) hHeld ?_
  rotate_left
  · intro w' hSw
    (try dsimp only at hSw)
    go_simp
    try with_reducible rfl
  (try simp only [Act.put]); (try simp only [List.setIfInBounds_toArray]); (try simp only [List.set_cons_succ]); (try simp only [List.set_cons_zero])
  refine wpAnyH_take (i := 4) (v := ?_) rfl (by kernel_rfl) (by kernel_rfl) (by kernel_rfl) (fun _ _ _ h => h) (Or.inl ⟨by rfl, ?_⟩) hHeld ?_
  rotate_left
  · intro w' hSw
    (try dsimp only at hSw)
    go_simp
    try with_reducible rfl
  (try simp only [Act.put]); (try simp only [List.setIfInBounds_toArray]); (try simp only [List.set_cons_succ]); (try simp only [List.set_cons_zero])
  refine wpAnyH_take (i := 6) (v := ?_) rfl (by kernel_rfl) (by kernel_rfl) (by kernel_rfl) (fun _ _ _ h => h) (Or.inl ⟨by rfl, ?_⟩) hHeld ?_
  rotate_left
  · intro w' hSw
    (try dsimp only at hSw)
    go_simp
    try with_reducible rfl
  (try simp only [Act.put]); (try simp only [List.setIfInBounds_toArray]); (try simp only [List.set_cons_succ]); (try simp only [List.set_cons_zero])
  refine wpAnyH_take (i := 7) (v := ?_) rfl (by kernel_rfl) (by kernel_rfl) (by kernel_rfl) (fun _ _ _ h => h) (Or.inl ⟨by rfl, ?_⟩) hHeld ?_
  rotate_left
  · intro w' hSw
    (try dsimp only at hSw)
    go_simp
    try with_reducible rfl
  (try simp only [Act.put]); (try simp only [List.setIfInBounds_toArray]); (try simp only [List.set_cons_succ]); (try simp only [List.set_cons_zero])
  refine wpAnyH_take (i := 8) (v := ?_) rfl (by kernel_rfl) (by kernel_rfl) (by kernel_rfl) (fun _ _ _ h => h) (Or.inl ⟨by rfl, ?_⟩) hHeld ?_
  rotate_left
  · intro w' hSw
    (try dsimp only at hSw)
    go_simp
    try with_reducible rfl
  (try simp only [Act.put]); (try simp only [List.setIfInBounds_toArray]); (try simp only [List.set_cons_succ]); (try simp only [List.set_cons_zero])
  refine wpAnyH_take (i := 10) (v := ?_) rfl (by kernel_rfl) (by kernel_rfl) (by kernel_rfl) (fun _ _ _ h => h) (Or.inl ⟨by rfl, ?_⟩) hHeld ?_
  rotate_left
  · intro w' hSw
    (try dsimp only at hSw)
    go_simp
    try with_reducible rfl
  (try simp only [Act.put]); (try simp only [List.setIfInBounds_toArray]); (try simp only [List.set_cons_succ]); (try simp only [List.set_cons_zero])
  refine wpAnyH_take (i := 11) (v := ?_) rfl (by kernel_rfl) (by kernel_rfl) (by kernel_rfl) (fun _ _ _ h => h) (Or.inl ⟨by rfl, ?_⟩) hHeld ?_
  rotate_left
  · intro w' hSw
    (try dsimp only at hSw)
    go_simp
    try with_reducible rfl
  (try simp only [Act.put]); (try simp only [List.setIfInBounds_toArray]); (try simp only [List.set_cons_succ]); (try simp only [List.set_cons_zero])
  refine wpAnyH_take (i := 12) (v := ?_) rfl (by kernel_rfl) (by kernel_rfl) (by kernel_rfl) (fun _ _ _ h => h) (Or.inl ⟨by rfl, ?_⟩) hHeld ?_
  rotate_left
  · intro w' hSw
    (try dsimp only at hSw)
    go_simp
    try with_reducible rfl
  (try simp only [Act.put]); (try simp only [List.setIfInBounds_toArray]); (try simp only [List.set_cons_succ]); (try simp only [List.set_cons_zero])
  refine wpAnyH_take (i := 14) (v := ?_) rfl (by kernel_rfl) (by kernel_rfl) (by kernel_rfl) (fun _ _ _ h => h) (Or.inl ⟨by rfl, ?_⟩) hHeld ?_
  rotate_left
  · intro w' hSw
    (try dsimp only at hSw)
    go_simp
    try with_reducible rfl
  (try simp only [Act.put]); (try simp only [List.setIfInBounds_toArray]); (try simp only [List.set_cons_succ]); (try simp only [List.set_cons_zero])
  refine wpAnyH_take (i := 15) (v := ?_) rfl (by kernel_rfl) (by kernel_rfl) (by kernel_rfl) (fun _ _ _ h => h) (Or.inl ⟨by rfl, ?_⟩) hHeld ?_
  rotate_left
  · intro w' hSw
    (try dsimp only at hSw)
    go_simp
    try with_reducible rfl
  (try simp only [Act.put]); (try simp only [List.setIfInBounds_toArray]); (try simp only [List.set_cons_succ]); (try simp only [List.set_cons_zero])
  refine wpAnyH_take (i := 16) (v := ?_) rfl (by kernel_rfl) (by kernel_rfl) (by kernel_rfl) (fun _ _ _ h => h) (Or.inl ⟨by rfl, ?_⟩) hHeld ?_
  rotate_left
  · intro w' hSw
    (try dsimp only at hSw)
    go_simp
    try with_reducible rfl
  (try simp only [Act.put]); (try simp only [List.setIfInBounds_toArray]); (try simp only [List.set_cons_succ]); (try simp only [List.set_cons_zero])
  refine wpAnyH_take (i := 18) (v := ?_) rfl (by kernel_rfl) (by kernel_rfl) (by kernel_rfl) (fun _ _ _ h => h) (Or.inl ⟨by rfl, ?_⟩) hHeld ?_
  rotate_left
  · intro w' hSw
    (try dsimp only at hSw)
    go_simp
    try with_reducible rfl
  (try simp only [Act.put]); (try simp only [List.setIfInBounds_toArray]); (try simp only [List.set_cons_succ]); (try simp only [List.set_cons_zero])
  refine wpAnyH_take (i := 19) (v := ?_) rfl (by kernel_rfl) (by kernel_rfl) (by kernel_rfl) (fun _ _ _ h => h) (Or.inl ⟨by rfl, ?_⟩) hHeld ?_
  rotate_left
  · intro w' hSw
    (try dsimp only at hSw)
    go_simp
    try with_reducible rfl
  (try simp only [Act.put]); (try simp only [List.setIfInBounds_toArray]); (try simp only [List.set_cons_succ]); (try simp only [List.set_cons_zero])
  refine wpAnyH_take (i := 20) (v := ?_) rfl (by kernel_rfl) (by kernel_rfl) (by kernel_rfl) (fun _ _ _ h => h) (Or.inl ⟨by rfl, ?_⟩) hHeld ?_
  rotate_left
  · intro w' hSw
    (try dsimp only at hSw)
    go_simp
    try with_reducible rfl
  (try simp only [Act.put]); (try simp only [List.setIfInBounds_toArray]); (try simp only [List.set_cons_succ]); (try simp only [List.set_cons_zero])
  refine wpAnyH_take (i := 22) (v := ?_) rfl (by kernel_rfl) (by kernel_rfl) (by kernel_rfl) (fun _ _ _ h => h) (Or.inl ⟨by rfl, ?_⟩) hHeld ?_
  rotate_left
  · intro w' hSw
    (try dsimp only at hSw)
    go_simp
    try with_reducible rfl
  (try simp only [Act.put]); (try simp only [List.setIfInBounds_toArray]); (try simp only [List.set_cons_succ]); (try simp only [List.set_cons_zero])
  refine wpAnyH_take (i := 23) (v := ?_) rfl (by kernel_rfl) (by kernel_rfl) (by kernel_rfl) (fun _ _ _ h => h) (Or.inl ⟨by rfl, ?_⟩) hHeld ?_
  rotate_left
  · intro w' hSw
    (try dsimp only at hSw)
    go_simp
    try with_reducible rfl
  (try simp only [Act.put]); (try simp only [List.setIfInBounds_toArray]); (try simp only [List.set_cons_succ]); (try simp only [List.set_cons_zero])
  refine wpAnyH_take (i := 24) (v := ?_) rfl (by kernel_rfl) (by kernel_rfl) (by kernel_rfl) (fun _ _ _ h => h) (Or.inl ⟨by rfl, ?_⟩) hHeld ?_
  rotate_left
  · intro w' hSw
    (try dsimp only at hSw)
    go_simp
    try with_reducible rfl
  (try simp only [Act.put]); (try simp only [List.setIfInBounds_toArray]); (try simp only [List.set_cons_succ]); (try simp only [List.set_cons_zero])
  refine wpAnyH_take (i := 26) (v := ?_) rfl (by kernel_rfl) (by kernel_rfl) (by kernel_rfl) (fun _ _ _ h => h) (Or.inl ⟨by rfl, ?_⟩) hHeld ?_
  rotate_left
  · intro w' hSw
    (try dsimp only at hSw)
    go_simp
    try with_reducible rfl
  (try simp only [Act.put]); (try simp only [List.setIfInBounds_toArray]); (try simp only [List.set_cons_succ]); (try simp only [List.set_cons_zero])
  refine wpAnyH_take (i := 28) (v := ?_) rfl (by kernel_rfl) (by kernel_rfl) (by kernel_rfl) (fun _ _ _ h => h) (Or.inl ⟨by rfl, ?_⟩) hHeld ?_
  rotate_left
  · intro w' hSw
    (try dsimp only at hSw)
    go_simp
    try with_reducible rfl
  (try simp only [Act.put]); (try simp only [List.setIfInBounds_toArray]); (try simp only [List.set_cons_succ]); (try simp only [List.set_cons_zero])
  refine wpAnyH_take (i := 30) (v := ?_) rfl (by kernel_rfl) (by kernel_rfl) (by kernel_rfl) (fun _ _ _ h => h) (Or.inl ⟨by rfl, ?_⟩) hHeld ?_
  rotate_left
  · intro w' hSw
    (try dsimp only at hSw)
    go_simp
    try with_reducible rfl
  (try simp only [Act.put]); (try simp only [List.setIfInBounds_toArray]); (try simp only [List.set_cons_succ]); (try simp only [List.set_cons_zero])
  refine wpAnyH_take (i := 31) (v := ?_) rfl (by kernel_rfl) (by kernel_rfl) (by kernel_rfl) (fun _ _ _ h => h) (Or.inl ⟨by rfl, ?_⟩) hHeld ?_
  rotate_left
  · intro w' hSw
    (try dsimp only at hSw)
    go_simp
    try with_reducible rfl
  (try simp only [Act.put]); (try simp only [List.setIfInBounds_toArray]); (try simp only [List.set_cons_succ]); (try simp only [List.set_cons_zero])
  refine wpAnyH_take (i := 32) (v := ?_) rfl (by kernel_rfl) (by kernel_rfl) (by kernel_rfl) (fun _ _ _ h => h) (Or.inl ⟨by rfl, ?_⟩) hHeld ?_
  rotate_left
  · intro w' hSw
    (try dsimp only at hSw)
    go_simp
    try with_reducible rfl
  (try simp only [Act.put]); (try simp only [List.setIfInBounds_toArray]); (try simp only [List.set_cons_succ]); (try simp only [List.set_cons_zero])
  refine wpAnyH_ready (rs := [1]) (by kernel_rfl) (by simp) ?_
  refine AllReadyH.cons rfl (fun K hK => ?_) AllReadyH.nil
  go_simp
  go_fit (rint_g rd p _ _ hr)
  rintro e w1 ⟨rfl, hr', k0⟩
  have wf0 : Hid ((Lit.int .i64 (pInt s).1).wf = true) := zag_wf (numS_lt maxU _)
  generalize hy0 : pInt s = y0 at hr' wf0 ⊢
  replace hy0 := Lib.hid hy0
  have rowRl := rowR.lt
  replace rowB := rowB.keep k0 (by omega)
  replace rowR := rowR.keep k0 (by omega)
  replace kk := kk.trans k0
  replace hr := hr'
  clear hr' k0 rowRl
  go_wp2_with fail
  refine hK.out _ _ (rowB.cell 0) (fun hHeld => ?_)
  clear hK K
  (try simp only [Act.put]); (try simp only [List.setIfInBounds_toArray]); (try simp only [List.set_cons_succ]); (try simp only [List.set_cons_zero])
  refine wpAnyH_ready (rs := [3]) (by kernel_rfl) (by simp) ?_
  refine AllReadyH.cons rfl (fun K hK => ?_) AllReadyH.nil
  go_simp
  go_fit (rtext_g rd p _ _ hr)
  rintro e w2 ⟨rfl, hr', k1⟩
  have wf1 : Hid ((pBytes y0.2).1.length ≤ far) := Nat.le_trans (textS_len 65536 _) (by decide)
  generalize hy1 : pBytes y0.2 = y1 at hr' wf1 ⊢
  replace hy1 := Lib.hid hy1
  have rowRl := rowR.lt
  replace rowB := rowB.keep k1 (by omega)
  replace rowR := rowR.keep k1 (by omega)
  replace kk := kk.trans k1
  replace hr := hr'
  clear hr' k1 rowRl
  go_wp2_with fail
  refine hK.out _ _ (rowB.cell 0) (fun hHeld => ?_)
  clear hK K
  (try simp only [Act.put]); (try simp only [List.setIfInBounds_toArray]); (try simp only [List.set_cons_succ]); (try simp only [List.set_cons_zero])
  refine wpAnyH_ready (rs := [5]) (by kernel_rfl) (by simp) ?_
  refine AllReadyH.cons rfl (fun K hK => ?_) AllReadyH.nil
  go_simp
  go_fit (rtext_g rd p _ _ hr)
  rintro e w3 ⟨rfl, hr', k2⟩
  have wf2 : Hid ((pBytes y1.2).1.length ≤ far) := Nat.le_trans (textS_len 65536 _) (by decide)
  generalize hy2 : pBytes y1.2 = y2 at hr' wf2 ⊢
  replace hy2 := Lib.hid hy2
  have rowRl := rowR.lt
  replace rowB := rowB.keep k2 (by omega)
  replace rowR := rowR.keep k2 (by omega)
  replace kk := kk.trans k2
  replace hr := hr'
  clear hr' k2 rowRl
  go_wp2_with fail
  refine hK.out _ _ (rowB.cell 0) (fun hHeld => ?_)
  clear hK K
  (try simp only [Act.put]); (try simp only [List.setIfInBounds_toArray]); (try simp only [List.set_cons_succ]); (try simp only [List.set_cons_zero])
  refine wpAnyH_ready (rs := [9]) (by kernel_rfl) (by simp) ?_
  refine AllReadyH.cons rfl (fun K hK => ?_) AllReadyH.nil
  go_simp
  go_fit (itValue_c rd p _ _ hr (fun b hb => Nat.lt_of_lt_of_le (hpl b hb) kk.size))
  rintro e w4 ⟨v, rfl, q3, hr', k3⟩
  generalize hy3 : (pList pGValue) y2.2 = y3 at hr' q3
  replace hy3 := Lib.hid hy3
  obtain ⟨a3, cc3, hv, q3'⟩ := rList_open q3
  simp only [List.cons.injEq, and_true] at hv
  subst hv
  clear q3
  have q3 := q3'
  clear q3'
  have rowRl := rowR.lt
  replace rowB := rowB.keep k3 (by omega)
  replace rowR := rowR.keep k3 (by omega)
  have hRl := rowRl
  replace kk := kk.trans k3
  replace q3 := (rList_lawful wGValue_lawful).mono q3 (fun b hb => (⟨by have := hb.1; omega, hb.2⟩ : NewAt (w.heap.size + 2) w4 b))
  clear hRl
  replace hr := hr'
  clear hr' k3 rowRl
  go_wp2_with fail
  refine hK.out _ _ (rowB.cell 0) (fun hHeld => ?_)
  clear hK K
  (try simp only [Act.put]); (try simp only [List.setIfInBounds_toArray]); (try simp only [List.set_cons_succ]); (try simp only [List.set_cons_zero])
  refine wpAnyH_ready (rs := [13]) (by kernel_rfl) (by simp) ?_
  refine AllReadyH.cons rfl (fun K hK => ?_) AllReadyH.nil
  go_simp
  go_fit (itValue_c rd p _ _ hr (fun b hb => Nat.lt_of_lt_of_le (hpl b hb) kk.size))
  rintro e w5 ⟨v, rfl, q4, hr', k4⟩
  generalize hy4 : (pList pGValue) y3.2 = y4 at hr' q4
  replace hy4 := Lib.hid hy4
  obtain ⟨a4, cc4, hv, q4'⟩ := rList_open q4
  simp only [List.cons.injEq, and_true] at hv
  subst hv
  clear q4
  have q4 := q4'
  clear q4'
  have rowRl := rowR.lt
  replace q3 := (rList_lawful wGValue_lawful).mono ((rList_lawful wGValue_lawful).keep q3 k4 (fun b hb e => by have := hb.1; omega)) (fun b hb => (⟨hb.1, Nat.lt_of_lt_of_le hb.2 k4.size⟩ : NewAt (w.heap.size + 2) w5 b))
  replace rowB := rowB.keep k4 (by omega)
  replace rowR := rowR.keep k4 (by omega)
  have hRl := rowRl
  replace kk := kk.trans k4
  replace q4 := (rList_lawful wGValue_lawful).mono q4 (fun b hb => (⟨by have := hb.1; omega, hb.2⟩ : NewAt (w.heap.size + 2) w5 b))
  clear hRl
  replace hr := hr'
  clear hr' k4 rowRl
  go_wp2_with fail
  refine hK.out _ _ (rowB.cell 0) (fun hHeld => ?_)
  clear hK K
  (try simp only [Act.put]); (try simp only [List.setIfInBounds_toArray]); (try simp only [List.set_cons_succ]); (try simp only [List.set_cons_zero])
  refine wpAnyH_ready (rs := [17]) (by kernel_rfl) (by simp) ?_
  refine AllReadyH.cons rfl (fun K hK => ?_) AllReadyH.nil
  go_simp
  go_fit (itSet_c rd p _ _ hr (fun b hb => Nat.lt_of_lt_of_le (hpl b hb) kk.size))
  rintro e w6 ⟨v, rfl, q5, hr', k5⟩
  generalize hy5 : (pList pGSet) y4.2 = y5 at hr' q5
  replace hy5 := Lib.hid hy5
  obtain ⟨a5, cc5, hv, q5'⟩ := rList_open q5
  simp only [List.cons.injEq, and_true] at hv
  subst hv
  clear q5
  have q5 := q5'
  clear q5'
  have rowRl := rowR.lt
  replace q3 := (rList_lawful wGValue_lawful).mono ((rList_lawful wGValue_lawful).keep q3 k5 (fun b hb e => by have := hb.1; omega)) (fun b hb => (⟨hb.1, Nat.lt_of_lt_of_le hb.2 k5.size⟩ : NewAt (w.heap.size + 2) w6 b))
  replace q4 := (rList_lawful wGValue_lawful).mono ((rList_lawful wGValue_lawful).keep q4 k5 (fun b hb e => by have := hb.1; omega)) (fun b hb => (⟨hb.1, Nat.lt_of_lt_of_le hb.2 k5.size⟩ : NewAt (w.heap.size + 2) w6 b))
  replace rowB := rowB.keep k5 (by omega)
  replace rowR := rowR.keep k5 (by omega)
  have hRl := rowRl
  replace kk := kk.trans k5
  replace q5 := (rList_lawful wGSet_lawful).mono q5 (fun b hb => (⟨by have := hb.1; omega, hb.2⟩ : NewAt (w.heap.size + 2) w6 b))
  clear hRl
  replace hr := hr'
  clear hr' k5 rowRl
  go_wp2_with fail
  refine hK.out _ _ (rowB.cell 0) (fun hHeld => ?_)
  clear hK K
  (try simp only [Act.put]); (try simp only [List.setIfInBounds_toArray]); (try simp only [List.set_cons_succ]); (try simp only [List.set_cons_zero])
  refine wpAnyH_ready (rs := [21]) (by kernel_rfl) (by simp) ?_
  refine AllReadyH.cons rfl (fun K hK => ?_) AllReadyH.nil
  go_simp
  go_fit (itValue_c rd p _ _ hr (fun b hb => Nat.lt_of_lt_of_le (hpl b hb) kk.size))
  rintro e w7 ⟨v, rfl, q6, hr', k6⟩
  generalize hy6 : (pList pGValue) y5.2 = y6 at hr' q6
  replace hy6 := Lib.hid hy6
  obtain ⟨a6, cc6, hv, q6'⟩ := rList_open q6
  simp only [List.cons.injEq, and_true] at hv
  subst hv
  clear q6
  have q6 := q6'
  clear q6'
  have rowRl := rowR.lt
  replace q3 := (rList_lawful wGValue_lawful).mono ((rList_lawful wGValue_lawful).keep q3 k6 (fun b hb e => by have := hb.1; omega)) (fun b hb => (⟨hb.1, Nat.lt_of_lt_of_le hb.2 k6.size⟩ : NewAt (w.heap.size + 2) w7 b))
  replace q4 := (rList_lawful wGValue_lawful).mono ((rList_lawful wGValue_lawful).keep q4 k6 (fun b hb e => by have := hb.1; omega)) (fun b hb => (⟨hb.1, Nat.lt_of_lt_of_le hb.2 k6.size⟩ : NewAt (w.heap.size + 2) w7 b))
  replace q5 := (rList_lawful wGSet_lawful).mono ((rList_lawful wGSet_lawful).keep q5 k6 (fun b hb e => by have := hb.1; omega)) (fun b hb => (⟨hb.1, Nat.lt_of_lt_of_le hb.2 k6.size⟩ : NewAt (w.heap.size + 2) w7 b))
  replace rowB := rowB.keep k6 (by omega)
  replace rowR := rowR.keep k6 (by omega)
  have hRl := rowRl
  replace kk := kk.trans k6
  replace q6 := (rList_lawful wGValue_lawful).mono q6 (fun b hb => (⟨by have := hb.1; omega, hb.2⟩ : NewAt (w.heap.size + 2) w7 b))
  clear hRl
  replace hr := hr'
  clear hr' k6 rowRl
  go_wp2_with fail
  refine hK.out _ _ (rowB.cell 0) (fun hHeld => ?_)
  clear hK K
  (try simp only [Act.put]); (try simp only [List.setIfInBounds_toArray]); (try simp only [List.set_cons_succ]); (try simp only [List.set_cons_zero])
  refine wpAnyH_ready (rs := [25]) (by kernel_rfl) (by simp) ?_
  refine AllReadyH.cons rfl (fun K hK => ?_) AllReadyH.nil
  go_simp
  go_fit (itValue_c rd p _ _ hr (fun b hb => Nat.lt_of_lt_of_le (hpl b hb) kk.size))
  rintro e w8 ⟨v, rfl, q7, hr', k7⟩
  generalize hy7 : (pList pGValue) y6.2 = y7 at hr' q7
  replace hy7 := Lib.hid hy7
  obtain ⟨a7, cc7, hv, q7'⟩ := rList_open q7
  simp only [List.cons.injEq, and_true] at hv
  subst hv
  clear q7
  have q7 := q7'
  clear q7'
  have rowRl := rowR.lt
  replace q3 := (rList_lawful wGValue_lawful).mono ((rList_lawful wGValue_lawful).keep q3 k7 (fun b hb e => by have := hb.1; omega)) (fun b hb => (⟨hb.1, Nat.lt_of_lt_of_le hb.2 k7.size⟩ : NewAt (w.heap.size + 2) w8 b))
  replace q4 := (rList_lawful wGValue_lawful).mono ((rList_lawful wGValue_lawful).keep q4 k7 (fun b hb e => by have := hb.1; omega)) (fun b hb => (⟨hb.1, Nat.lt_of_lt_of_le hb.2 k7.size⟩ : NewAt (w.heap.size + 2) w8 b))
  replace q5 := (rList_lawful wGSet_lawful).mono ((rList_lawful wGSet_lawful).keep q5 k7 (fun b hb e => by have := hb.1; omega)) (fun b hb => (⟨hb.1, Nat.lt_of_lt_of_le hb.2 k7.size⟩ : NewAt (w.heap.size + 2) w8 b))
  replace q6 := (rList_lawful wGValue_lawful).mono ((rList_lawful wGValue_lawful).keep q6 k7 (fun b hb e => by have := hb.1; omega)) (fun b hb => (⟨hb.1, Nat.lt_of_lt_of_le hb.2 k7.size⟩ : NewAt (w.heap.size + 2) w8 b))
  replace rowB := rowB.keep k7 (by omega)
  replace rowR := rowR.keep k7 (by omega)
  have hRl := rowRl
  replace kk := kk.trans k7
  replace q7 := (rList_lawful wGValue_lawful).mono q7 (fun b hb => (⟨by have := hb.1; omega, hb.2⟩ : NewAt (w.heap.size + 2) w8 b))
  clear hRl
  replace hr := hr'
  clear hr' k7 rowRl
  go_wp2_with fail
  refine hK.out _ _ (rowB.cell 0) (fun hHeld => ?_)
  clear hK K
  (try simp only [Act.put]); (try simp only [List.setIfInBounds_toArray]); (try simp only [List.set_cons_succ]); (try simp only [List.set_cons_zero])
  refine wpAnyH_ready (rs := [27]) (by kernel_rfl) (by simp) ?_
  refine AllReadyH.cons rfl (fun K hK => ?_) AllReadyH.nil
  go_simp
  go_fit (rint_g rd p _ _ hr)
  rintro e w9 ⟨rfl, hr', k8⟩
  have wf8 : Hid ((Lit.int .i64 (pInt y7.2).1).wf = true) := zag_wf (numS_lt maxU _)
  generalize hy8 : pInt y7.2 = y8 at hr' wf8 ⊢
  replace hy8 := Lib.hid hy8
  have rowRl := rowR.lt
  replace q3 := (rList_lawful wGValue_lawful).mono ((rList_lawful wGValue_lawful).keep q3 k8 (fun b hb e => by have := hb.1; omega)) (fun b hb => (⟨hb.1, Nat.lt_of_lt_of_le hb.2 k8.size⟩ : NewAt (w.heap.size + 2) w9 b))
  replace q4 := (rList_lawful wGValue_lawful).mono ((rList_lawful wGValue_lawful).keep q4 k8 (fun b hb e => by have := hb.1; omega)) (fun b hb => (⟨hb.1, Nat.lt_of_lt_of_le hb.2 k8.size⟩ : NewAt (w.heap.size + 2) w9 b))
  replace q5 := (rList_lawful wGSet_lawful).mono ((rList_lawful wGSet_lawful).keep q5 k8 (fun b hb e => by have := hb.1; omega)) (fun b hb => (⟨hb.1, Nat.lt_of_lt_of_le hb.2 k8.size⟩ : NewAt (w.heap.size + 2) w9 b))
  replace q6 := (rList_lawful wGValue_lawful).mono ((rList_lawful wGValue_lawful).keep q6 k8 (fun b hb e => by have := hb.1; omega)) (fun b hb => (⟨hb.1, Nat.lt_of_lt_of_le hb.2 k8.size⟩ : NewAt (w.heap.size + 2) w9 b))
  replace q7 := (rList_lawful wGValue_lawful).mono ((rList_lawful wGValue_lawful).keep q7 k8 (fun b hb e => by have := hb.1; omega)) (fun b hb => (⟨hb.1, Nat.lt_of_lt_of_le hb.2 k8.size⟩ : NewAt (w.heap.size + 2) w9 b))
  replace rowB := rowB.keep k8 (by omega)
  replace rowR := rowR.keep k8 (by omega)
  replace kk := kk.trans k8
  replace hr := hr'
  clear hr' k8 rowRl
  go_wp2_with fail
  refine hK.out _ _ (rowB.cell 0) (fun hHeld => ?_)
  clear hK K
  (try simp only [Act.put]); (try simp only [List.setIfInBounds_toArray]); (try simp only [List.set_cons_succ]); (try simp only [List.set_cons_zero])
  refine wpAnyH_ready (rs := [29]) (by kernel_rfl) (by simp) ?_
  refine AllReadyH.cons rfl (fun K hK => ?_) AllReadyH.nil
  go_simp
  go_fit (rflag_g rd p _ _ hr)
  rintro e w10 ⟨rfl, hr', k9⟩
  generalize hy9 : pFlag y8.2 = y9 at hr' ⊢
  replace hy9 := Lib.hid hy9
  have rowRl := rowR.lt
  replace q3 := (rList_lawful wGValue_lawful).mono ((rList_lawful wGValue_lawful).keep q3 k9 (fun b hb e => by have := hb.1; omega)) (fun b hb => (⟨hb.1, Nat.lt_of_lt_of_le hb.2 k9.size⟩ : NewAt (w.heap.size + 2) w10 b))
  replace q4 := (rList_lawful wGValue_lawful).mono ((rList_lawful wGValue_lawful).keep q4 k9 (fun b hb e => by have := hb.1; omega)) (fun b hb => (⟨hb.1, Nat.lt_of_lt_of_le hb.2 k9.size⟩ : NewAt (w.heap.size + 2) w10 b))
  replace q5 := (rList_lawful wGSet_lawful).mono ((rList_lawful wGSet_lawful).keep q5 k9 (fun b hb e => by have := hb.1; omega)) (fun b hb => (⟨hb.1, Nat.lt_of_lt_of_le hb.2 k9.size⟩ : NewAt (w.heap.size + 2) w10 b))
  replace q6 := (rList_lawful wGValue_lawful).mono ((rList_lawful wGValue_lawful).keep q6 k9 (fun b hb e => by have := hb.1; omega)) (fun b hb => (⟨hb.1, Nat.lt_of_lt_of_le hb.2 k9.size⟩ : NewAt (w.heap.size + 2) w10 b))
  replace q7 := (rList_lawful wGValue_lawful).mono ((rList_lawful wGValue_lawful).keep q7 k9 (fun b hb e => by have := hb.1; omega)) (fun b hb => (⟨hb.1, Nat.lt_of_lt_of_le hb.2 k9.size⟩ : NewAt (w.heap.size + 2) w10 b))
  replace rowB := rowB.keep k9 (by omega)
  replace rowR := rowR.keep k9 (by omega)
  replace kk := kk.trans k9
  replace hr := hr'
  clear hr' k9 rowRl
  go_wp2_with fail
  refine hK.out _ _ (rowB.cell 0) (fun hHeld => ?_)
  clear hK K
  (try simp only [Act.put]); (try simp only [List.setIfInBounds_toArray]); (try simp only [List.set_cons_succ]); (try simp only [List.set_cons_zero])
  refine wpAnyH_ready (rs := [33]) (by kernel_rfl) (by simp) ?_
  refine AllReadyH.cons rfl (fun K hK => ?_) AllReadyH.nil
  go_simp
  go_fit (itbytes_c rd p _ _ hr (fun b hb => Nat.lt_of_lt_of_le (hpl b hb) kk.size))
  rintro e w11 ⟨v, rfl, q10, hr', k10⟩
  generalize hy10 : (pList pBytes) y9.2 = y10 at hr' q10
  replace hy10 := Lib.hid hy10
  obtain ⟨a10, cc10, hv, q10'⟩ := rList_open q10
  simp only [List.cons.injEq, and_true] at hv
  subst hv
  clear q10
  have q10 := q10'
  clear q10'
  have rowRl := rowR.lt
  replace q3 := (rList_lawful wGValue_lawful).mono ((rList_lawful wGValue_lawful).keep q3 k10 (fun b hb e => by have := hb.1; omega)) (fun b hb => (⟨hb.1, Nat.lt_of_lt_of_le hb.2 k10.size⟩ : NewAt (w.heap.size + 2) w11 b))
  replace q4 := (rList_lawful wGValue_lawful).mono ((rList_lawful wGValue_lawful).keep q4 k10 (fun b hb e => by have := hb.1; omega)) (fun b hb => (⟨hb.1, Nat.lt_of_lt_of_le hb.2 k10.size⟩ : NewAt (w.heap.size + 2) w11 b))
  replace q5 := (rList_lawful wGSet_lawful).mono ((rList_lawful wGSet_lawful).keep q5 k10 (fun b hb e => by have := hb.1; omega)) (fun b hb => (⟨hb.1, Nat.lt_of_lt_of_le hb.2 k10.size⟩ : NewAt (w.heap.size + 2) w11 b))
  replace q6 := (rList_lawful wGValue_lawful).mono ((rList_lawful wGValue_lawful).keep q6 k10 (fun b hb e => by have := hb.1; omega)) (fun b hb => (⟨hb.1, Nat.lt_of_lt_of_le hb.2 k10.size⟩ : NewAt (w.heap.size + 2) w11 b))
  replace q7 := (rList_lawful wGValue_lawful).mono ((rList_lawful wGValue_lawful).keep q7 k10 (fun b hb e => by have := hb.1; omega)) (fun b hb => (⟨hb.1, Nat.lt_of_lt_of_le hb.2 k10.size⟩ : NewAt (w.heap.size + 2) w11 b))
  replace rowB := rowB.keep k10 (by omega)
  replace rowR := rowR.keep k10 (by omega)
  have hRl := rowRl
  replace kk := kk.trans k10
  replace q10 := (rList_lawful rBytesW_lawful).mono q10 (fun b hb => (⟨by have := hb.1; omega, hb.2⟩ : NewAt (w.heap.size + 2) w11 b))
  clear hRl
  replace hr := hr'
  clear hr' k10 rowRl
  go_wp2_with fail
  refine hK.out _ _ (rowB.cell 0) (fun hHeld => ?_)
  clear hK K
  (try simp only [Act.put]); (try simp only [List.setIfInBounds_toArray]); (try simp only [List.set_cons_succ]); (try simp only [List.set_cons_zero])
  have hbd := fun w' => build_run (P := Tryz.prog) B_Op [.int .i64 y0.1, .string (strB y1.1), .string (strB y2.1), .slice a3 y3.1.length cc3, .slice a4 y4.1.length cc4, .slice a5 y5.1.length cc5, .slice a6 y6.1.length cc6, .slice a7 y7.1.length cc7, .int .i64 y8.1, .bool y9.1, .slice a10 y10.1.length cc10] (by simp only [List.map_cons, List.map_nil, size_int, size_bool, size_string, size_slice]) w'
  simp only [numbered, Nat.reduceAdd] at hbd
  refine wpAnyH_take (i := 34) (v := ?_) rfl (by kernel_rfl) (by kernel_rfl) (by kernel_rfl) (fun _ _ _ h => h) (Or.inl ⟨by rfl, ?_⟩) hHeld ?_
  rotate_left
  · intro w' hSw
    (try dsimp only at hSw)
    (try simp only [List.getElem_toArray]); (try simp only [List.getElem_cons_succ]); (try simp only [List.getElem_cons_zero])
    go_simp
    try with_reducible rfl
  (try simp only [Act.put]); (try simp only [List.setIfInBounds_toArray]); (try simp only [List.set_cons_succ]); (try simp only [List.set_cons_zero])
  refine wpAnyH_ready (rs := [35]) (by kernel_rfl) (by simp) ?_
  refine AllReadyH.cons rfl (fun K hK => ?_) AllReadyH.nil
  have hjl : (joined [.int .i64 y0.1, .string (strB y1.1), .string (strB y2.1), .slice a3 y3.1.length cc3, .slice a4 y4.1.length cc4, .slice a5 y5.1.length cc5, .slice a6 y6.1.length cc6, .slice a7 y7.1.length cc7, .int .i64 y8.1, .bool y9.1, .slice a10 y10.1.length cc10]).length = 11 := by simp only [joined_len, joined_len0, size_int, size_bool, size_string, size_slice]
  have hjo : ones (joined [.int .i64 y0.1, .string (strB y1.1), .string (strB y2.1), .slice a3 y3.1.length cc3, .slice a4 y4.1.length cc4, .slice a5 y5.1.length cc5, .slice a6 y6.1.length cc6, .slice a7 y7.1.length cc7, .int .i64 y8.1, .bool y9.1, .slice a10 y10.1.length cc10]) = true := by simp only [joined_ones, joined_ones0, ones_int, ones_bool, ones_string, ones_slice, Bool.and_self]
  have hst := store_run (P := Tryz.prog) S_Op rowR rfl hjl hjo
  have rowF := rowR.setRow (joined [.int .i64 y0.1, .string (strB y1.1), .string (strB y2.1), .slice a3 y3.1.length cc3, .slice a4 y4.1.length cc4, .slice a5 y5.1.length cc5, .slice a6 y6.1.length cc6, .slice a7 y7.1.length cc7, .int .i64 y8.1, .bool y9.1, .slice a10 y10.1.length cc10])
  have kS := (Keep.refl (· = w.heap.size + 1) w11).setRow (fun _ => rfl) (joined [.int .i64 y0.1, .string (strB y1.1), .string (strB y2.1), .slice a3 y3.1.length cc3, .slice a4 y4.1.length cc4, .slice a5 y5.1.length cc5, .slice a6 y6.1.length cc6, .slice a7 y7.1.length cc7, .int .i64 y8.1, .bool y9.1, .slice a10 y10.1.length cc10]).toArray
  replace rowB := rowB.keep kS (by omega)
  have HJL := Lib.hid hjl
  have HJO := Lib.hid hjo
  clear hjl hjo
  (try simp only [List.getElem_toArray]); (try simp only [List.getElem_cons_succ]); (try simp only [List.getElem_cons_zero])
  go_simp
  clear hst
  refine hK.out _ _ (rowB.cell 0) (fun hHeld => ?_)
  clear hK K
  (try simp only [Act.put]); (try simp only [List.setIfInBounds_toArray]); (try simp only [List.set_cons_succ]); (try simp only [List.set_cons_zero])
  refine wpAnyH_done (by kernel_rfl) ?_ _
  clear hbd hmf hHeld
  go_wp2_with fail
  have hinfo : (Tryz.prog.info? 135).map (·.size) = some (joined [.int .i64 y0.1, .string (strB y1.1), .string (strB y2.1), .slice a3 y3.1.length cc3, .slice a4 y4.1.length cc4, .slice a5 y5.1.length cc5, .slice a6 y6.1.length cc6, .slice a7 y7.1.length cc7, .int .i64 y8.1, .bool y9.1, .slice a10 y10.1.length cc10]).toArray.size := by rw [List.size_toArray, HJL.out]; exact S_Op.info
  refine bodyPost_ret (results_cell_row (by rfl) _ _ _ _ _ _ _ (by rfl) rowF Tryz.underlying135 (by rfl) hinfo) rfl ?_
  replace q3 := (rList_lawful wGValue_lawful).mono ((rList_lawful wGValue_lawful).keep q3 kS (fun b hb e => by have := hb.1; omega)) (fun b hb => (⟨by have := hb.1; omega, Nat.lt_of_lt_of_le hb.2 kS.size⟩ : NewIn w (w11.setRow (w.heap.size + 1) (joined [.int .i64 y0.1, .string (strB y1.1), .string (strB y2.1), .slice a3 y3.1.length cc3, .slice a4 y4.1.length cc4, .slice a5 y5.1.length cc5, .slice a6 y6.1.length cc6, .slice a7 y7.1.length cc7, .int .i64 y8.1, .bool y9.1, .slice a10 y10.1.length cc10]).toArray) b))
  replace q4 := (rList_lawful wGValue_lawful).mono ((rList_lawful wGValue_lawful).keep q4 kS (fun b hb e => by have := hb.1; omega)) (fun b hb => (⟨by have := hb.1; omega, Nat.lt_of_lt_of_le hb.2 kS.size⟩ : NewIn w (w11.setRow (w.heap.size + 1) (joined [.int .i64 y0.1, .string (strB y1.1), .string (strB y2.1), .slice a3 y3.1.length cc3, .slice a4 y4.1.length cc4, .slice a5 y5.1.length cc5, .slice a6 y6.1.length cc6, .slice a7 y7.1.length cc7, .int .i64 y8.1, .bool y9.1, .slice a10 y10.1.length cc10]).toArray) b))
  replace q5 := (rList_lawful wGSet_lawful).mono ((rList_lawful wGSet_lawful).keep q5 kS (fun b hb e => by have := hb.1; omega)) (fun b hb => (⟨by have := hb.1; omega, Nat.lt_of_lt_of_le hb.2 kS.size⟩ : NewIn w (w11.setRow (w.heap.size + 1) (joined [.int .i64 y0.1, .string (strB y1.1), .string (strB y2.1), .slice a3 y3.1.length cc3, .slice a4 y4.1.length cc4, .slice a5 y5.1.length cc5, .slice a6 y6.1.length cc6, .slice a7 y7.1.length cc7, .int .i64 y8.1, .bool y9.1, .slice a10 y10.1.length cc10]).toArray) b))
  replace q6 := (rList_lawful wGValue_lawful).mono ((rList_lawful wGValue_lawful).keep q6 kS (fun b hb e => by have := hb.1; omega)) (fun b hb => (⟨by have := hb.1; omega, Nat.lt_of_lt_of_le hb.2 kS.size⟩ : NewIn w (w11.setRow (w.heap.size + 1) (joined [.int .i64 y0.1, .string (strB y1.1), .string (strB y2.1), .slice a3 y3.1.length cc3, .slice a4 y4.1.length cc4, .slice a5 y5.1.length cc5, .slice a6 y6.1.length cc6, .slice a7 y7.1.length cc7, .int .i64 y8.1, .bool y9.1, .slice a10 y10.1.length cc10]).toArray) b))
  replace q7 := (rList_lawful wGValue_lawful).mono ((rList_lawful wGValue_lawful).keep q7 kS (fun b hb e => by have := hb.1; omega)) (fun b hb => (⟨by have := hb.1; omega, Nat.lt_of_lt_of_le hb.2 kS.size⟩ : NewIn w (w11.setRow (w.heap.size + 1) (joined [.int .i64 y0.1, .string (strB y1.1), .string (strB y2.1), .slice a3 y3.1.length cc3, .slice a4 y4.1.length cc4, .slice a5 y5.1.length cc5, .slice a6 y6.1.length cc6, .slice a7 y7.1.length cc7, .int .i64 y8.1, .bool y9.1, .slice a10 y10.1.length cc10]).toArray) b))
  replace q10 := (rList_lawful rBytesW_lawful).mono ((rList_lawful rBytesW_lawful).keep q10 kS (fun b hb e => by have := hb.1; omega)) (fun b hb => (⟨by have := hb.1; omega, Nat.lt_of_lt_of_le hb.2 kS.size⟩ : NewIn w (w11.setRow (w.heap.size + 1) (joined [.int .i64 y0.1, .string (strB y1.1), .string (strB y2.1), .slice a3 y3.1.length cc3, .slice a4 y4.1.length cc4, .slice a5 y5.1.length cc5, .slice a6 y6.1.length cc6, .slice a7 y7.1.length cc7, .int .i64 y8.1, .bool y9.1, .slice a10 y10.1.length cc10]).toArray) b))
  have HE : pGOp s = (⟨y0.1, y1.1, y2.1, y3.1, y4.1, y5.1, y6.1, y7.1, y8.1, y9.1, y10.1⟩, y10.2) := by simp only [pGOp, hy0.out, hy1.out, hy2.out, hy3.out, hy4.out, hy5.out, hy6.out, hy7.out, hy8.out, hy9.out, hy10.out]
  rw [HE]
  refine ⟨_, rfl, ⟨[_], [_], [_], [_], [_], [_], [_], [_], [_], [_], [_], by simp [joined, Value.cells], ⟨rfl, wf0.out⟩, ⟨rfl, wf1.out⟩, ⟨rfl, wf2.out⟩, q3, q4, q5, q6, q7, ⟨rfl, wf8.out⟩, rfl, q10⟩, HJO.out, hr.keep kS (by omega) (fun b hb e => by have := hpl b hb; omega), kk.then kS (fun i hi e => by omega)⟩
end
theorem T_lOp : SliceT Tryz.prog 60 135 11 200 := SliceT.mk' Tryz.underlying60 (z := .agg #[.int .i64 0, .string ByteArray.empty, .string ByteArray.empty, .slice none 0 0, .slice none 0 0, .slice none 0 0, .slice none 0 0, .slice none 0 0, .int .i64 0, .bool false, .slice none 0 0]) (by kernel_rfl) rfl (by decide)
theorem ls_Op (a : Act) (dst : Option Tmp) (parts : Array (Nat × Operand)) (ty : TypeId) (pos : String) (after : Array Edge) (guard : Option (Nat × Bool)) : execOp a.eval { dst := dst, op := .buildSlice 60 1 parts, type := ty, pos := pos, after := after, guard := guard } = listSem 60 1 (parts.map fun x => (x.1, a.eval x.2)) := rfl
attribute [local go_sem ↓] ls_Op
set_option maxRecDepth 100000 in
set_option maxHeartbeats 4000000 in
theorem itOp_c (rd : Nat) (p : Nat → Prop) (s : RdS) (w : World) (h : IsRd w 165 rd p s) (hpl : ∀ b, p b → b < w.heap.size) :
    Calls Tryz.prog 127 #[.agg #[.pointer (some ⟨rd, 0, none⟩)], .func (.func 128) #[.agg #[.pointer (some ⟨rd, 0, none⟩)]] #[]] w (GetsV (rList wGOp) 165 rd p w (pList pGOp s)) := by
  have hlt := h.lt
  have h0 := h.nix ((Keep.refl Nix w).alloc (.cells #[.pointer (some ⟨rd, 0, none⟩)] 85))
  have row0 : RowIs (w.alloc (.cells #[.pointer (some ⟨rd, 0, none⟩)] 85)) w.heap.size 85 [.pointer (some ⟨rd, 0, none⟩)] := RowIs.alloc w _ _
  have hle := numS_le 5000 s
  clear h
  go_enter Tryz.func127, Tryz.ntmps127
  go_wp2_with fail
  go_fit (Small_rd rd p s _ h0 5000 (by unfold isI64; omega))
  rintro e w1 ⟨rfl, h1, k1⟩
  have row1 := row0.keep k1 (by omega)
  have kk1 : Keep (· = rd) w w1 := ((Keep.refl (· = rd) w).alloc (.cells #[.pointer (some ⟨rd, 0, none⟩)] 85)).trans (k1.mono fun _ h => h)
  have HP : Hid (pList pGOp s = pMany pGOp (numS (5000 : Int).toNat s).1 (numS (5000 : Int).toNat s).2) := rfl
  have hle' : (numS (5000 : Int).toNat s).1 ≤ 5000 := hle
  clear h0 row0 k1 hle
  generalize numS (5000 : Int).toNat s = N at h1 HP hle' ⊢
  go_wp2_with fail
  go_loopw [5, 6] (fun l n wr => ∃ (xs : List GOp) (css : List (List Value)) (m : Nat) (s' : RdS) (a : Option Addr) (cap : Nat), l = .slice a xs.length cap ∧ n = .int .i64 m ∧ Hid (pMany pGOp N.1 N.2 = (xs ++ (pMany pGOp m s').1, (pMany pGOp m s').2)) ∧
      wr.ownsRow (w.heap.size + 1) 135 11 (.slice a xs.length cap) xs.length css.flatten ∧ Els wGOp wr (fun b => NewIn w wr b ∧ ¬ OwnB (.slice a xs.length cap) b) css xs ∧ IsRd wr 165 rd p s' ∧ RowIs wr w.heap.size 85 [.pointer (some ⟨rd, 0, none⟩)] ∧ Keep (· = rd) w wr ∧ xs.length + m ≤ 5000) (fun _ n _ => (intOf n).toNat)
  case atStart => exact ⟨[], [], N.1, N.2, none, 0, rfl, rfl, rfl, World.ownsRow_nil _ _ _ _, Els.nil _ _ _, h1, row1, kk1, by simpa using hle'⟩
  case round =>
    clear h1 row1 kk1 hle'
    obtain ⟨xs, css, m, s', a, cap, rfl, rfl, hp, own, els, hr, row, kk, hm⟩ := hrel
    have x0 : wr.cell? ⟨w.heap.size, 0, none⟩ = some (.pointer (some ⟨rd, 0, none⟩)) := row.cell 0
    have hfar : xs.length ≤ far := by unfold far; omega
    by_cases hm0 : m = 0
    · subst hm0
      clear hm
      go_wp2_with fail
      go_ret
      refine ⟨_, rfl, ?_, ?_, kk⟩
      · rw [HP.out, hp.out]; exact Els.list (Nat.le_succ _) own els wGOp_lawful (by simp [pMany]) hfar
      · rw [HP.out, hp.out]; exact hr
    · obtain ⟨m, rfl⟩ : ∃ m', m = m' + 1 := ⟨m - 1, by omega⟩
      have hpos : (0 : Int) < ((m + 1 : Nat) : Int) := by omega
      clear hm0
      go_wp2_with fail
      go_fit (Err_rd rd p s' wr hr)
      rintro e w2 ⟨rfl, k2⟩
      have own2 := owned_keep own k2 (fun _ _ h => h)
      have els2 := (els.keep wGOp_lawful (k2.nix (S := (· = rd))) (fun b hb e => by have := hb.1.1; omega)).mono (q := fun b => NewIn w w2 b ∧ ¬ OwnB (.slice a xs.length cap) b) wGOp_lawful (fun b hb => ⟨⟨hb.1.1, Nat.lt_of_lt_of_le hb.1.2 k2.size⟩, hb.2⟩)
      have hr2 := hr.nix k2
      have row2 := row.keep k2 (fun h => h)
      have kk2 : Keep (· = rd) w w2 := kk.trans (k2.nix)
      have hwr := kk.size
      have hsz2 := k2.size
      clear own els hr row kk x0
      have x0 : w2.cell? ⟨w.heap.size, 0, none⟩ = some (.pointer (some ⟨rd, 0, none⟩)) := row2.cell 0
      rcases test_eq s'.e 0 with ⟨ht, he⟩ | ⟨ht, he⟩
      · go_wp2_with fail
        go_fit (gOp_c rd p s' w2 hr2 (fun b hb => Nat.lt_of_lt_of_le (hpl b hb) (by omega)))
        rintro e w3 ⟨c, rfl, hc, h1c, hr3, k3⟩
        have hlc := wGOp_lawful.len hc
        have hls := list_run (P := Tryz.prog) T_lOp (by decide) c hlc w3
        have own3 := owned_keep own2 k3 (fun b hb e => by have := (own2.lt b hb).1; omega)
        have row3 := row2.keep k3 (by omega)
        have kk3 := kk2.trans k3
        have hB := row3.lt
        have hsz3 := k3.size
        have hol : ∀ b, OwnB (.slice a xs.length cap) b → b < w2.heap.size := fun b hb => (own2.lt b hb).2
        have hlen := xs.length
        have hHP : Hid (pMany pGOp (m + 1) s' = ((pGOp s').1 :: (pMany pGOp m (pGOp s').2).1, (pMany pGOp m (pGOp s').2).2)) := by show _ = _; rw [pMany, if_pos he.out]
        clear own2 hr2 row2 kk2 x0 hlen
        go_wp2_with (at_builtin; refine wpl_append1_at T_lOp rfl (.tmp 20) (.tmp 23) rfl (w.heap.size + 1) rfl own3 rfl ?c0 ?c1 ?c2 ?c3 ?c4 ?_)
        case c0 => simpa using hlc
        case c1 => first | (simpa [ones] using h1c) | (intro u hu; exact (List.all_eq_true.1 h1c) u (by simpa using hu))
        case c2 => unfold maxLen; omega
        case c3 => omega
        case c4 => omega
        intro a' cap' w4 own4 k4 hfresh
        have els4 := els2.push wGOp_lawful hc k3 k4 hlt (by omega) hol hfresh
        have row4 : RowIs w4 w.heap.size 85 [.pointer (some ⟨rd, 0, none⟩)] := row3.keep k4 (fun hb => by have := hol _ hb; have := (own3.lt _ hb).1; omega)
        have hr4 : IsRd w4 165 rd p (pGOp s').2 := hr3.keep k4 (fun hb => by have := (own3.lt _ hb).1; omega) (fun b hb hb2 => by have := (own3.lt _ hb2).1; have := hpl b hb; omega)
        have kk4 : Keep (· = rd) w w4 := kk3.then k4 (fun i hi hb => by have := (own3.lt _ hb).1; omega)
        clear own3 els2 row3 hr3 kk3 k3 k4 hfresh
        go_wp2
        go_roundw
        case rel => exact ⟨xs ++ [(pGOp s').1], css ++ [c], m, (pGOp s').2, a', cap', by simp, by go_num, by show _ = _; rw [hp.out, hHP.out]; simp, by simpa using own4, by simpa using els4, hr4, row4, kk4, by simp; omega⟩
        case measure => simp [intOf] <;> omega
      · go_wp2_with fail
        go_ret
        have hHP : pMany pGOp (m + 1) s' = ([], s') := by rw [pMany, if_neg he]
        refine ⟨_, rfl, ?_, ?_, kk2⟩
        · rw [HP.out, hp.out, hHP]; exact Els.list (Nat.le_succ _) own2 els2 wGOp_lawful (by simp) hfar
        · rw [HP.out, hp.out, hHP]; exact hr2
end Go.Proofs.YtabgbleldbapbaaGreat
