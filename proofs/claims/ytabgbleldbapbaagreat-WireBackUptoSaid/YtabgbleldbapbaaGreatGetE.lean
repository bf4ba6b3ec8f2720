/- LISTS OF A READER: package wire's items[T]. Printed by gen8.py. -/
import Derived.Test.YtabgbleldbapbaaGreatGetC
import Derived.Deep.RegionHeld3
namespace Go.Proofs.YtabgbleldbapbaaGreat
open Go.RowKit

def pGAsk : Ps GAsk := fun s0 =>
  let a0 := pInt s0
  let a1 := (pList pGOp) a0.2
  let a2 := pGTable a1.2
  let a3 := pGIndex a2.2
  let a4 := pBytes a3.2
  let a5 := pInt a4.2
  let a6 := pBytes a5.2
  (⟨a0.1, a1.1, a2.1, a3.1, a4.1, a5.1, a6.1⟩, a6.2)
theorem S_Ask : StructT Tryz.prog 62 16 := ⟨⟨_, Tryz.underlying62⟩, by kernel_rfl⟩
theorem B_Ask : BuildT Tryz.prog 62 [1, 1, 4, 7, 1, 1, 1] := by
  obtain ⟨i, hi, hz, -, -⟩ := info_parts (by kernel_rfl : (Tryz.prog.info? 62).map (fun i => (i.zero, i.size, i.bytes)) = some (some (.agg #[.int .i64 0, .slice none 0 0, .int .i64 0, .string ByteArray.empty, .slice none 0 0, .slice none 0 0, .int .i64 0, .int .i64 0, .string ByteArray.empty, .slice none 0 0, .bool false, .int .i64 0, .bool false, .string ByteArray.empty, .int .i64 0, .slice none 0 0]), 16, 232))
  exact ⟨_, i, _, [(0, 1), (1, 1), (2, 4), (6, 7), (13, 1), (14, 1), (15, 1)], Tryz.underlying62, hi, hz, rfl, by kernel_rfl, rfl, by decide⟩
theorem bd_Ask (a : Act) (dst : Option Tmp) (ty : TypeId) (pos : String) (after : Array Edge) (guard : Option (Nat × Bool)) (parts : Array (Nat × Operand)) : execOp a.eval { dst := dst, op := .build 62 parts, type := ty, pos := pos, after := after, guard := guard } = buildSem 62 (parts.map fun x => (x.1, a.eval x.2)) := rfl
theorem st_Ask (a : Act) (dst : Option Tmp) (ty : TypeId) (pos : String) (after : Array Edge) (guard : Option (Nat × Bool)) (x y : Operand) : execOp a.eval { dst := dst, op := .store 62 x y, type := ty, pos := pos, after := after, guard := guard } = storeSem 62 (a.eval x) (a.eval y) := rfl
section
attribute [local go_sem ↓] bd_Ask st_Ask
set_option maxRecDepth 100000 in
set_option maxHeartbeats 8000000 in
theorem gAsk_c (rd : Nat) (p : Nat → Prop) (s : RdS) (w : World) (h : IsRd w 165 rd p s) (hpl : ∀ b, p b → b < w.heap.size) :
    Calls Tryz.prog 55 #[.agg #[.pointer (some ⟨rd, 0, none⟩)]] w (GetsS wGAsk 165 rd p w (pGAsk s)) := by
  have hlt := h.lt
  have hmf : ∀ (fn : Fn) (first cap : Array Value) (w : World), (Instr.makeFunc fn first cap).run Tryz.prog w = .ok (.func fn first cap) w := fun _ _ _ _ => rfl
  have hsz : (w.alloc (.cells #[.pointer (some ⟨rd, 0, none⟩)] 85)).heap.size = w.heap.size + 1 := by simp
  have rowB : RowIs ((w.alloc (.cells #[.pointer (some ⟨rd, 0, none⟩)] 85)).alloc (.cells #[.int .i64 0, .slice none 0 0, .int .i64 0, .string ByteArray.empty, .slice none 0 0, .slice none 0 0, .int .i64 0, .int .i64 0, .string ByteArray.empty, .slice none 0 0, .bool false, .int .i64 0, .bool false, .string ByteArray.empty, .int .i64 0, .slice none 0 0] 62)) w.heap.size 85 [.pointer (some ⟨rd, 0, none⟩)] := (RowIs.alloc w _ _).keep ((Keep.refl Nix _).alloc _) id
  have rowR : RowIs ((w.alloc (.cells #[.pointer (some ⟨rd, 0, none⟩)] 85)).alloc (.cells #[.int .i64 0, .slice none 0 0, .int .i64 0, .string ByteArray.empty, .slice none 0 0, .slice none 0 0, .int .i64 0, .int .i64 0, .string ByteArray.empty, .slice none 0 0, .bool false, .int .i64 0, .bool false, .string ByteArray.empty, .int .i64 0, .slice none 0 0] 62)) (w.heap.size + 1) 62 [.int .i64 0, .slice none 0 0, .int .i64 0, .string ByteArray.empty, .slice none 0 0, .slice none 0 0, .int .i64 0, .int .i64 0, .string ByteArray.empty, .slice none 0 0, .bool false, .int .i64 0, .bool false, .string ByteArray.empty, .int .i64 0, .slice none 0 0] := by
    rw [← hsz]
    exact RowIs.alloc (w.alloc (.cells #[.pointer (some ⟨rd, 0, none⟩)] 85)) _ _
  have hr := h.nix (((Keep.refl Nix w).alloc (.cells #[.pointer (some ⟨rd, 0, none⟩)] 85)).alloc (.cells #[.int .i64 0, .slice none 0 0, .int .i64 0, .string ByteArray.empty, .slice none 0 0, .slice none 0 0, .int .i64 0, .int .i64 0, .string ByteArray.empty, .slice none 0 0, .bool false, .int .i64 0, .bool false, .string ByteArray.empty, .int .i64 0, .slice none 0 0] 62))
  have kk : Keep (· = rd) w ((w.alloc (.cells #[.pointer (some ⟨rd, 0, none⟩)] 85)).alloc (.cells #[.int .i64 0, .slice none 0 0, .int .i64 0, .string ByteArray.empty, .slice none 0 0, .slice none 0 0, .int .i64 0, .int .i64 0, .string ByteArray.empty, .slice none 0 0, .bool false, .int .i64 0, .bool false, .string ByteArray.empty, .int .i64 0, .slice none 0 0] 62)) := ((Keep.refl (· = rd) w).alloc _).alloc _
  clear h hsz
  replace rowB := rowB.same (w' := ((w.alloc (.cells #[.pointer (some ⟨rd, 0, none⟩)] 85)).alloc (.cells #[.int .i64 0, .slice none 0 0, .int .i64 0, .string ByteArray.empty, .slice none 0 0, .slice none 0 0, .int .i64 0, .int .i64 0, .string ByteArray.empty, .slice none 0 0, .bool false, .int .i64 0, .bool false, .string ByteArray.empty, .int .i64 0, .slice none 0 0] 62)).drew)
  replace rowR := rowR.same (w' := ((w.alloc (.cells #[.pointer (some ⟨rd, 0, none⟩)] 85)).alloc (.cells #[.int .i64 0, .slice none 0 0, .int .i64 0, .string ByteArray.empty, .slice none 0 0, .slice none 0 0, .int .i64 0, .int .i64 0, .string ByteArray.empty, .slice none 0 0, .bool false, .int .i64 0, .bool false, .string ByteArray.empty, .int .i64 0, .slice none 0 0] 62)).drew)
  replace hr := hr.same (w' := ((w.alloc (.cells #[.pointer (some ⟨rd, 0, none⟩)] 85)).alloc (.cells #[.int .i64 0, .slice none 0 0, .int .i64 0, .string ByteArray.empty, .slice none 0 0, .slice none 0 0, .int .i64 0, .int .i64 0, .string ByteArray.empty, .slice none 0 0, .bool false, .int .i64 0, .bool false, .string ByteArray.empty, .int .i64 0, .slice none 0 0] 62)).drew)
  replace kk := kk.drew
  go_enter Tryz.func55, Tryz.ntmps55
  go_wp2_with fail
  refine wp_region_held_drew (S := (fun w' => w'.cell? ⟨w.heap.size, 0, none⟩ = some (.pointer (some ⟨rd, 0, none⟩)))) (by kernel_rfl) (rowB.cell 0) (fun hHeld => ?_)
  refine wpAnyH_take (i := 0) (v := ?_) rfl (by kernel_rfl) (by kernel_rfl) (by kernel_rfl) (fun _ _ _ h => h) (Or.inl ⟨by rfl, ?_⟩) hHeld ?_
  rotate_left
  · intro w' hSw
    (try dsimp only at hSw)
    go_simp
    try with_reducible rfl
  (try simp only [Act.put]); (try simp only [List.setIfInBounds_toArray]); (try simp only [List.set_cons_succ]); (try simp only [List.set_cons_zero])
  refine wpAnyH_take (i := 2) (v := ?_) rfl (by kernel_rfl) (by kernel_rfl) (by kernel_rfl) (fun _ _ _ h => h) (Or.inl ⟨by rfl, ?_⟩) hHeld ?_
  rotate_left
  · intro w' hSw
    (try dsimp only at hSw)
    go_simp
    try with_reducible rfl
  (try simp only [Act.put]); (try simp only [List.setIfInBounds_toArray]); (try simp only [List.set_cons_succ]); (try simp only [List.set_cons_zero])
  refine wpAnyH_take (i := 3) (v := ?_) rfl (by kernel_rfl) (by kernel_rfl) (by kernel_rfl) (fun _ _ _ h => h) (Or.inl ⟨by rfl, ?_⟩) hHeld ?_
  rotate_left
  · intro w' hSw
    (try dsimp only at hSw)
    go_simp
    try with_reducible rfl
  (try simp only [Act.put]); (try simp only [List.setIfInBounds_toArray]); (try simp only [List.set_cons_succ]); (try simp only [List.set_cons_zero])
  refine wpAnyH_take (i := 4) (v := ?_) rfl (by kernel_rfl) (by kernel_rfl) (by kernel_rfl) (fun _ _ _ h => h) (Or.inl ⟨by rfl, ?_⟩) hHeld ?_
  rotate_left
  · intro w' hSw
    (try dsimp only at hSw)
    go_simp
    try with_reducible rfl
  (try simp only [Act.put]); (try simp only [List.setIfInBounds_toArray]); (try simp only [List.set_cons_succ]); (try simp only [List.set_cons_zero])
  refine wpAnyH_take (i := 6) (v := ?_) rfl (by kernel_rfl) (by kernel_rfl) (by kernel_rfl) (fun _ _ _ h => h) (Or.inl ⟨by rfl, ?_⟩) hHeld ?_
  rotate_left
  · intro w' hSw
    (try dsimp only at hSw)
    go_simp
    try with_reducible rfl
  (try simp only [Act.put]); (try simp only [List.setIfInBounds_toArray]); (try simp only [List.set_cons_succ]); (try simp only [List.set_cons_zero])
  refine wpAnyH_take (i := 8) (v := ?_) rfl (by kernel_rfl) (by kernel_rfl) (by kernel_rfl) (fun _ _ _ h => h) (Or.inl ⟨by rfl, ?_⟩) hHeld ?_
  rotate_left
  · intro w' hSw
    (try dsimp only at hSw)
    go_simp
    try with_reducible rfl
  (try simp only [Act.put]); (try simp only [List.setIfInBounds_toArray]); (try simp only [List.set_cons_succ]); (try simp only [List.set_cons_zero])
  refine wpAnyH_take (i := 10) (v := ?_) rfl (by kernel_rfl) (by kernel_rfl) (by kernel_rfl) (fun _ _ _ h => h) (Or.inl ⟨by rfl, ?_⟩) hHeld ?_
  rotate_left
  · intro w' hSw
    (try dsimp only at hSw)
    go_simp
    try with_reducible rfl
  (try simp only [Act.put]); (try simp only [List.setIfInBounds_toArray]); (try simp only [List.set_cons_succ]); (try simp only [List.set_cons_zero])
  refine wpAnyH_take (i := 12) (v := ?_) rfl (by kernel_rfl) (by kernel_rfl) (by kernel_rfl) (fun _ _ _ h => h) (Or.inl ⟨by rfl, ?_⟩) hHeld ?_
  rotate_left
  · intro w' hSw
    (try dsimp only at hSw)
    go_simp
    try with_reducible rfl
  (try simp only [Act.put]); (try simp only [List.setIfInBounds_toArray]); (try simp only [List.set_cons_succ]); (try simp only [List.set_cons_zero])
  refine wpAnyH_take (i := 14) (v := ?_) rfl (by kernel_rfl) (by kernel_rfl) (by kernel_rfl) (fun _ _ _ h => h) (Or.inl ⟨by rfl, ?_⟩) hHeld ?_
  rotate_left
  · intro w' hSw
    (try dsimp only at hSw)
    go_simp
    try with_reducible rfl
  (try simp only [Act.put]); (try simp only [List.setIfInBounds_toArray]); (try simp only [List.set_cons_succ]); (try simp only [List.set_cons_zero])
  refine wpAnyH_ready (rs := [1]) (by kernel_rfl) (by simp) ?_
  refine AllReadyH.cons rfl (fun K hK => ?_) AllReadyH.nil
  go_simp
  go_fit (rint_g rd p _ _ hr)
  rintro e w1 ⟨rfl, hr', k0⟩
  have wf0 : Hid ((Lit.int .i64 (pInt s).1).wf = true) := zag_wf (numS_lt maxU _)
  generalize hy0 : pInt s = y0 at hr' wf0 ⊢
  replace hy0 := Lib.hid hy0
  have rowRl := rowR.lt
  replace rowB := rowB.keep k0 (by omega)
  replace rowR := rowR.keep k0 (by omega)
  replace kk := kk.trans k0
  replace hr := hr'
  clear hr' k0 rowRl
  go_wp2_with fail
  refine hK.out _ _ (rowB.cell 0) (fun hHeld => ?_)
  clear hK K
  (try simp only [Act.put]); (try simp only [List.setIfInBounds_toArray]); (try simp only [List.set_cons_succ]); (try simp only [List.set_cons_zero])
  refine wpAnyH_ready (rs := [5]) (by kernel_rfl) (by simp) ?_
  refine AllReadyH.cons rfl (fun K hK => ?_) AllReadyH.nil
  go_simp
  go_fit (itOp_c rd p _ _ hr (fun b hb => Nat.lt_of_lt_of_le (hpl b hb) kk.size))
  rintro e w2 ⟨v, rfl, q1, hr', k1⟩
  generalize hy1 : (pList pGOp) y0.2 = y1 at hr' q1
  replace hy1 := Lib.hid hy1
  obtain ⟨a1, cc1, hv, q1'⟩ := rList_open q1
  simp only [List.cons.injEq, and_true] at hv
  subst hv
  clear q1
  have q1 := q1'
  clear q1'
  have rowRl := rowR.lt
  replace rowB := rowB.keep k1 (by omega)
  replace rowR := rowR.keep k1 (by omega)
  have hRl := rowRl
  replace kk := kk.trans k1
  replace q1 := (rList_lawful wGOp_lawful).mono q1 (fun b hb => (⟨by have := hb.1; omega, hb.2⟩ : NewAt (w.heap.size + 2) w2 b))
  clear hRl
  replace hr := hr'
  clear hr' k1 rowRl
  go_wp2_with fail
  refine hK.out _ _ (rowB.cell 0) (fun hHeld => ?_)
  clear hK K
  (try simp only [Act.put]); (try simp only [List.setIfInBounds_toArray]); (try simp only [List.set_cons_succ]); (try simp only [List.set_cons_zero])
  refine wpAnyH_ready (rs := [7]) (by kernel_rfl) (by simp) ?_
  refine AllReadyH.cons rfl (fun K hK => ?_) AllReadyH.nil
  go_simp
  go_fit (gTable_c rd p _ _ hr (fun b hb => Nat.lt_of_lt_of_le (hpl b hb) kk.size))
  rintro e w3 ⟨c2, rfl, q2, ho2, hr', k2⟩
  have hl2 := Lib.hid (wGTable_lawful.len q2)
  replace ho2 := Lib.hid ho2
  generalize hy2 : pGTable y1.2 = y2 at hr' q2
  replace hy2 := Lib.hid hy2
  have rowRl := rowR.lt
  replace q1 := (rList_lawful wGOp_lawful).mono ((rList_lawful wGOp_lawful).keep q1 k2 (fun b hb e => by have := hb.1; omega)) (fun b hb => (⟨hb.1, Nat.lt_of_lt_of_le hb.2 k2.size⟩ : NewAt (w.heap.size + 2) w3 b))
  replace rowB := rowB.keep k2 (by omega)
  replace rowR := rowR.keep k2 (by omega)
  have hRl := rowRl
  replace kk := kk.trans k2
  replace q2 := wGTable_lawful.mono q2 (fun b hb => (⟨by have := hb.1; omega, hb.2⟩ : NewAt (w.heap.size + 2) w3 b))
  clear hRl
  replace hr := hr'
  clear hr' k2 rowRl
  go_wp2_with fail
  refine hK.out _ _ (rowB.cell 0) (fun hHeld => ?_)
  clear hK K
  (try simp only [Act.put]); (try simp only [List.setIfInBounds_toArray]); (try simp only [List.set_cons_succ]); (try simp only [List.set_cons_zero])
  refine wpAnyH_ready (rs := [9]) (by kernel_rfl) (by simp) ?_
  refine AllReadyH.cons rfl (fun K hK => ?_) AllReadyH.nil
  go_simp
  go_fit (gIndex_c rd p _ _ hr (fun b hb => Nat.lt_of_lt_of_le (hpl b hb) kk.size))
  rintro e w4 ⟨c3, rfl, q3, ho3, hr', k3⟩
  have hl3 := Lib.hid (wGIndex_lawful.len q3)
  replace ho3 := Lib.hid ho3
  generalize hy3 : pGIndex y2.2 = y3 at hr' q3
  replace hy3 := Lib.hid hy3
  have rowRl := rowR.lt
  replace q1 := (rList_lawful wGOp_lawful).mono ((rList_lawful wGOp_lawful).keep q1 k3 (fun b hb e => by have := hb.1; omega)) (fun b hb => (⟨hb.1, Nat.lt_of_lt_of_le hb.2 k3.size⟩ : NewAt (w.heap.size + 2) w4 b))
  replace q2 := wGTable_lawful.mono (wGTable_lawful.keep q2 k3 (fun b hb e => by have := hb.1; omega)) (fun b hb => (⟨hb.1, Nat.lt_of_lt_of_le hb.2 k3.size⟩ : NewAt (w.heap.size + 2) w4 b))
  replace rowB := rowB.keep k3 (by omega)
  replace rowR := rowR.keep k3 (by omega)
  have hRl := rowRl
  replace kk := kk.trans k3
  replace q3 := wGIndex_lawful.mono q3 (fun b hb => (⟨by have := hb.1; omega, hb.2⟩ : NewAt (w.heap.size + 2) w4 b))
  clear hRl
  replace hr := hr'
  clear hr' k3 rowRl
  go_wp2_with fail
  refine hK.out _ _ (rowB.cell 0) (fun hHeld => ?_)
  clear hK K
  (try simp only [Act.put]); (try simp only [List.setIfInBounds_toArray]); (try simp only [List.set_cons_succ]); (try simp only [List.set_cons_zero])
  refine wpAnyH_ready (rs := [11]) (by kernel_rfl) (by simp) ?_
  refine AllReadyH.cons rfl (fun K hK => ?_) AllReadyH.nil
  go_simp
  go_fit (rtext_g rd p _ _ hr)
  rintro e w5 ⟨rfl, hr', k4⟩
  have wf4 : Hid ((pBytes y3.2).1.length ≤ far) := Nat.le_trans (textS_len 65536 _) (by decide)
  generalize hy4 : pBytes y3.2 = y4 at hr' wf4 ⊢
  replace hy4 := Lib.hid hy4
  have rowRl := rowR.lt
  replace q1 := (rList_lawful wGOp_lawful).mono ((rList_lawful wGOp_lawful).keep q1 k4 (fun b hb e => by have := hb.1; omega)) (fun b hb => (⟨hb.1, Nat.lt_of_lt_of_le hb.2 k4.size⟩ : NewAt (w.heap.size + 2) w5 b))
  replace q2 := wGTable_lawful.mono (wGTable_lawful.keep q2 k4 (fun b hb e => by have := hb.1; omega)) (fun b hb => (⟨hb.1, Nat.lt_of_lt_of_le hb.2 k4.size⟩ : NewAt (w.heap.size + 2) w5 b))
  replace q3 := wGIndex_lawful.mono (wGIndex_lawful.keep q3 k4 (fun b hb e => by have := hb.1; omega)) (fun b hb => (⟨hb.1, Nat.lt_of_lt_of_le hb.2 k4.size⟩ : NewAt (w.heap.size + 2) w5 b))
  replace rowB := rowB.keep k4 (by omega)
  replace rowR := rowR.keep k4 (by omega)
  replace kk := kk.trans k4
  replace hr := hr'
  clear hr' k4 rowRl
  go_wp2_with fail
  refine hK.out _ _ (rowB.cell 0) (fun hHeld => ?_)
  clear hK K
  (try simp only [Act.put]); (try simp only [List.setIfInBounds_toArray]); (try simp only [List.set_cons_succ]); (try simp only [List.set_cons_zero])
  refine wpAnyH_ready (rs := [13]) (by kernel_rfl) (by simp) ?_
  refine AllReadyH.cons rfl (fun K hK => ?_) AllReadyH.nil
  go_simp
  go_fit (rint_g rd p _ _ hr)
  rintro e w6 ⟨rfl, hr', k5⟩
  have wf5 : Hid ((Lit.int .i64 (pInt y4.2).1).wf = true) := zag_wf (numS_lt maxU _)
  generalize hy5 : pInt y4.2 = y5 at hr' wf5 ⊢
  replace hy5 := Lib.hid hy5
  have rowRl := rowR.lt
  replace q1 := (rList_lawful wGOp_lawful).mono ((rList_lawful wGOp_lawful).keep q1 k5 (fun b hb e => by have := hb.1; omega)) (fun b hb => (⟨hb.1, Nat.lt_of_lt_of_le hb.2 k5.size⟩ : NewAt (w.heap.size + 2) w6 b))
  replace q2 := wGTable_lawful.mono (wGTable_lawful.keep q2 k5 (fun b hb e => by have := hb.1; omega)) (fun b hb => (⟨hb.1, Nat.lt_of_lt_of_le hb.2 k5.size⟩ : NewAt (w.heap.size + 2) w6 b))
  replace q3 := wGIndex_lawful.mono (wGIndex_lawful.keep q3 k5 (fun b hb e => by have := hb.1; omega)) (fun b hb => (⟨hb.1, Nat.lt_of_lt_of_le hb.2 k5.size⟩ : NewAt (w.heap.size + 2) w6 b))
  replace rowB := rowB.keep k5 (by omega)
  replace rowR := rowR.keep k5 (by omega)
  replace kk := kk.trans k5
  replace hr := hr'
  clear hr' k5 rowRl
  go_wp2_with fail
  refine hK.out _ _ (rowB.cell 0) (fun hHeld => ?_)
  clear hK K
  (try simp only [Act.put]); (try simp only [List.setIfInBounds_toArray]); (try simp only [List.set_cons_succ]); (try simp only [List.set_cons_zero])
  refine wpAnyH_ready (rs := [15]) (by kernel_rfl) (by simp) ?_
  refine AllReadyH.cons rfl (fun K hK => ?_) AllReadyH.nil
  go_simp
  go_fit (rbytes_g rd p _ _ hr)
  rintro e w7 ⟨v, rfl, q6, hr', k6⟩
  generalize hy6 : pBytes y5.2 = y6 at hr' q6
  replace hy6 := Lib.hid hy6
  obtain ⟨a6, cc6, hv, q6'⟩ := rBytesW_open q6
  simp only [List.cons.injEq, and_true] at hv
  subst hv
  clear q6
  have q6 := q6'
  clear q6'
  have rowRl := rowR.lt
  replace q1 := (rList_lawful wGOp_lawful).mono ((rList_lawful wGOp_lawful).keep q1 k6 (fun b hb e => by have := hb.1; omega)) (fun b hb => (⟨hb.1, Nat.lt_of_lt_of_le hb.2 k6.size⟩ : NewAt (w.heap.size + 2) w7 b))
  replace q2 := wGTable_lawful.mono (wGTable_lawful.keep q2 k6 (fun b hb e => by have := hb.1; omega)) (fun b hb => (⟨hb.1, Nat.lt_of_lt_of_le hb.2 k6.size⟩ : NewAt (w.heap.size + 2) w7 b))
  replace q3 := wGIndex_lawful.mono (wGIndex_lawful.keep q3 k6 (fun b hb e => by have := hb.1; omega)) (fun b hb => (⟨hb.1, Nat.lt_of_lt_of_le hb.2 k6.size⟩ : NewAt (w.heap.size + 2) w7 b))
  replace rowB := rowB.keep k6 (by omega)
  replace rowR := rowR.keep k6 (by omega)
  have hRl := rowRl
  replace kk := kk.trans k6
  replace q6 := rBytesW_lawful.mono q6 (fun b hb => (⟨by have := hb.1; omega, hb.2⟩ : NewAt (w.heap.size + 2) w7 b))
  clear hRl
  replace hr := hr'
  clear hr' k6 rowRl
  go_wp2_with fail
  refine hK.out _ _ (rowB.cell 0) (fun hHeld => ?_)
  clear hK K
  (try simp only [Act.put]); (try simp only [List.setIfInBounds_toArray]); (try simp only [List.set_cons_succ]); (try simp only [List.set_cons_zero])
  have hbd := fun w' => build_run (P := Tryz.prog) B_Ask [.int .i64 y0.1, .slice a1 y1.1.length cc1, .agg c2.toArray, .agg c3.toArray, .string (strB y4.1), .int .i64 y5.1, .slice a6 y6.1.length cc6] (by simp only [List.map_cons, List.map_nil, size_int, size_string, size_slice, size_agg, hl2.out, hl3.out]) w'
  simp only [numbered, Nat.reduceAdd] at hbd
  refine wpAnyH_take (i := 16) (v := ?_) rfl (by kernel_rfl) (by kernel_rfl) (by kernel_rfl) (fun _ _ _ h => h) (Or.inl ⟨by rfl, ?_⟩) hHeld ?_
  rotate_left
  · intro w' hSw
    (try dsimp only at hSw)
    (try simp only [List.getElem_toArray]); (try simp only [List.getElem_cons_succ]); (try simp only [List.getElem_cons_zero])
    go_simp
    try with_reducible rfl
  (try simp only [Act.put]); (try simp only [List.setIfInBounds_toArray]); (try simp only [List.set_cons_succ]); (try simp only [List.set_cons_zero])
  refine wpAnyH_ready (rs := [17]) (by kernel_rfl) (by simp) ?_
  refine AllReadyH.cons rfl (fun K hK => ?_) AllReadyH.nil
  have hjl : (joined [.int .i64 y0.1, .slice a1 y1.1.length cc1, .agg c2.toArray, .agg c3.toArray, .string (strB y4.1), .int .i64 y5.1, .slice a6 y6.1.length cc6]).length = 16 := by simp only [joined_len, joined_len0, size_int, size_string, size_slice, size_agg, hl2.out, hl3.out]
  have hjo : ones (joined [.int .i64 y0.1, .slice a1 y1.1.length cc1, .agg c2.toArray, .agg c3.toArray, .string (strB y4.1), .int .i64 y5.1, .slice a6 y6.1.length cc6]) = true := by simp only [joined_ones, joined_ones0, ones_int, ones_string, ones_slice, ones_agg, ho2.out, ho3.out, Bool.and_self]
  have hst := store_run (P := Tryz.prog) S_Ask rowR rfl hjl hjo
  have rowF := rowR.setRow (joined [.int .i64 y0.1, .slice a1 y1.1.length cc1, .agg c2.toArray, .agg c3.toArray, .string (strB y4.1), .int .i64 y5.1, .slice a6 y6.1.length cc6])
  have kS := (Keep.refl (· = w.heap.size + 1) w7).setRow (fun _ => rfl) (joined [.int .i64 y0.1, .slice a1 y1.1.length cc1, .agg c2.toArray, .agg c3.toArray, .string (strB y4.1), .int .i64 y5.1, .slice a6 y6.1.length cc6]).toArray
  replace rowB := rowB.keep kS (by omega)
  have HJL := Lib.hid hjl
  have HJO := Lib.hid hjo
  clear hjl hjo
  (try simp only [List.getElem_toArray]); (try simp only [List.getElem_cons_succ]); (try simp only [List.getElem_cons_zero])
  go_simp
  clear hst
  refine hK.out _ _ (rowB.cell 0) (fun hHeld => ?_)
  clear hK K
  (try simp only [Act.put]); (try simp only [List.setIfInBounds_toArray]); (try simp only [List.set_cons_succ]); (try simp only [List.set_cons_zero])
  refine wpAnyH_done (by kernel_rfl) ?_ _
  clear hbd hmf hHeld
  go_wp2_with fail
  have hinfo : (Tryz.prog.info? 62).map (·.size) = some (joined [.int .i64 y0.1, .slice a1 y1.1.length cc1, .agg c2.toArray, .agg c3.toArray, .string (strB y4.1), .int .i64 y5.1, .slice a6 y6.1.length cc6]).toArray.size := by rw [List.size_toArray, HJL.out]; exact S_Ask.info
  refine bodyPost_ret (results_cell_row (by rfl) _ _ _ _ _ _ _ (by rfl) rowF Tryz.underlying62 (by rfl) hinfo) rfl ?_
  replace q1 := (rList_lawful wGOp_lawful).mono ((rList_lawful wGOp_lawful).keep q1 kS (fun b hb e => by have := hb.1; omega)) (fun b hb => (⟨by have := hb.1; omega, Nat.lt_of_lt_of_le hb.2 kS.size⟩ : NewIn w (w7.setRow (w.heap.size + 1) (joined [.int .i64 y0.1, .slice a1 y1.1.length cc1, .agg c2.toArray, .agg c3.toArray, .string (strB y4.1), .int .i64 y5.1, .slice a6 y6.1.length cc6]).toArray) b))
  replace q2 := wGTable_lawful.mono (wGTable_lawful.keep q2 kS (fun b hb e => by have := hb.1; omega)) (fun b hb => (⟨by have := hb.1; omega, Nat.lt_of_lt_of_le hb.2 kS.size⟩ : NewIn w (w7.setRow (w.heap.size + 1) (joined [.int .i64 y0.1, .slice a1 y1.1.length cc1, .agg c2.toArray, .agg c3.toArray, .string (strB y4.1), .int .i64 y5.1, .slice a6 y6.1.length cc6]).toArray) b))
  replace q3 := wGIndex_lawful.mono (wGIndex_lawful.keep q3 kS (fun b hb e => by have := hb.1; omega)) (fun b hb => (⟨by have := hb.1; omega, Nat.lt_of_lt_of_le hb.2 kS.size⟩ : NewIn w (w7.setRow (w.heap.size + 1) (joined [.int .i64 y0.1, .slice a1 y1.1.length cc1, .agg c2.toArray, .agg c3.toArray, .string (strB y4.1), .int .i64 y5.1, .slice a6 y6.1.length cc6]).toArray) b))
  replace q6 := rBytesW_lawful.mono (rBytesW_lawful.keep q6 kS (fun b hb e => by have := hb.1; omega)) (fun b hb => (⟨by have := hb.1; omega, Nat.lt_of_lt_of_le hb.2 kS.size⟩ : NewIn w (w7.setRow (w.heap.size + 1) (joined [.int .i64 y0.1, .slice a1 y1.1.length cc1, .agg c2.toArray, .agg c3.toArray, .string (strB y4.1), .int .i64 y5.1, .slice a6 y6.1.length cc6]).toArray) b))
  have HE : pGAsk s = (⟨y0.1, y1.1, y2.1, y3.1, y4.1, y5.1, y6.1⟩, y6.2) := by simp only [pGAsk, hy0.out, hy1.out, hy2.out, hy3.out, hy4.out, hy5.out, hy6.out]
  rw [HE]
  refine ⟨_, rfl, ⟨[_], [_], c2, c3, [_], [_], [_], by simp [joined, Value.cells], ⟨rfl, wf0.out⟩, q1, q2, q3, ⟨rfl, wf4.out⟩, ⟨rfl, wf5.out⟩, q6⟩, HJO.out, hr.keep kS (by omega) (fun b hb e => by have := hpl b hb; omega), kk.then kS (fun i hi e => by omega)⟩
end
end Go.Proofs.YtabgbleldbapbaaGreat
