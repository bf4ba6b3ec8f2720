/- LISTS OF A READER: package wire's items[T]. Printed by gen8.py. -/
import Derived.Test.YtibaehlfpgipfaaGreatQGetA
import Derived.Test.YtibaehlfpgipfaaGreatQGetB
import Derived.Deep.RegionHeld3
namespace Go.Proofs.YtibaehlfpgipfaaGreat
open Go.RowKit

def pGCommand : Ps GCommand := fun s0 =>
  let a0 := pInt s0
  let a1 := pInt a0.2
  let a2 := pNum a1.2
  let a3 := pInt a2.2
  let a4 := pInt a3.2
  let a5 := pInt a4.2
  let a6 := pFlag a5.2
  let a7 := pBytes a6.2
  let a8 := pGSpan a7.2
  let a9 := (pList pGPair) a8.2
  let a10 := (pList pGSeen) a9.2
  let a11 := (pList pGWrite) a10.2
  let a12 := pGTable a11.2
  let a13 := pGIndex a12.2
  let a14 := pBytes a13.2
  (⟨a0.1, a1.1, a2.1, a3.1, a4.1, a5.1, a6.1, a7.1, a8.1, a9.1, a10.1, a11.1, a12.1, a13.1, a14.1⟩, a14.2)
theorem S_Command : StructT Tryz.prog 43 25 := ⟨⟨_, Tryz.underlying43⟩, by kernel_rfl⟩
theorem B_Command : BuildT Tryz.prog 43 [1, 1, 1, 1, 1, 1, 1, 1, 2, 1, 1, 1, 4, 7, 1] := by
  obtain ⟨i, hi, hz, -, -⟩ := info_parts (by kernel_rfl : (Tryz.prog.info? 43).map (fun i => (i.zero, i.size, i.bytes)) = some (some (.agg #[.int .i64 0, .int .i64 0, .int .u64 0, .int .i64 0, .int .i64 0, .int .i64 0, .bool false, .slice none 0 0, .slice none 0 0, .slice none 0 0, .slice none 0 0, .slice none 0 0, .slice none 0 0, .int .i64 0, .string ByteArray.empty, .slice none 0 0, .slice none 0 0, .int .i64 0, .int .i64 0, .string ByteArray.empty, .slice none 0 0, .bool false, .int .i64 0, .bool false, .string ByteArray.empty]), 25, 368))
  exact ⟨_, i, _, [(0, 1), (1, 1), (2, 1), (3, 1), (4, 1), (5, 1), (6, 1), (7, 1), (8, 2), (10, 1), (11, 1), (12, 1), (13, 4), (17, 7), (24, 1)], Tryz.underlying43, hi, hz, rfl, by kernel_rfl, rfl, by decide⟩
theorem bd_Command (a : Act) (dst : Option Tmp) (ty : TypeId) (pos : String) (after : Array Edge) (guard : Option (Nat × Bool)) (parts : Array (Nat × Operand)) : execOp a.eval { dst := dst, op := .build 43 parts, type := ty, pos := pos, after := after, guard := guard } = buildSem 43 (parts.map fun x => (x.1, a.eval x.2)) := rfl
theorem st_Command (a : Act) (dst : Option Tmp) (ty : TypeId) (pos : String) (after : Array Edge) (guard : Option (Nat × Bool)) (x y : Operand) : execOp a.eval { dst := dst, op := .store 43 x y, type := ty, pos := pos, after := after, guard := guard } = storeSem 43 (a.eval x) (a.eval y) := rfl
section
attribute [local go_sem ↓] bd_Command st_Command
set_option maxRecDepth 100000 in
set_option maxHeartbeats 8000000 in
theorem gCommand_c (rd : Nat) (p : Nat → Prop) (s : RdS) (w : World) (h : IsRd w 151 rd p s) (hpl : ∀ b, p b → b < w.heap.size) :
    Calls Tryz.prog 92 #[.agg #[.pointer (some ⟨rd, 0, none⟩)]] w (GetsS wGCommand 151 rd p w (pGCommand s)) := by
  have hlt := h.lt
  have hmf : ∀ (fn : Fn) (first cap : Array Value) (w : World), (Instr.makeFunc fn first cap).run Tryz.prog w = .ok (.func fn first cap) w := fun _ _ _ _ => rfl
  have hsz : (w.alloc (.cells #[.pointer (some ⟨rd, 0, none⟩)] 154)).heap.size = w.heap.size + 1 := by simp
  have rowB : RowIs ((w.alloc (.cells #[.pointer (some ⟨rd, 0, none⟩)] 154)).alloc (.cells #[.int .i64 0, .int .i64 0, .int .u64 0, .int .i64 0, .int .i64 0, .int .i64 0, .bool false, .slice none 0 0, .slice none 0 0, .slice none 0 0, .slice none 0 0, .slice none 0 0, .slice none 0 0, .int .i64 0, .string ByteArray.empty, .slice none 0 0, .slice none 0 0, .int .i64 0, .int .i64 0, .string ByteArray.empty, .slice none 0 0, .bool false, .int .i64 0, .bool false, .string ByteArray.empty] 43)) w.heap.size 154 [.pointer (some ⟨rd, 0, none⟩)] := (RowIs.alloc w _ _).keep ((Keep.refl Nix _).alloc _) id
  have rowR : RowIs ((w.alloc (.cells #[.pointer (some ⟨rd, 0, none⟩)] 154)).alloc (.cells #[.int .i64 0, .int .i64 0, .int .u64 0, .int .i64 0, .int .i64 0, .int .i64 0, .bool false, .slice none 0 0, .slice none 0 0, .slice none 0 0, .slice none 0 0, .slice none 0 0, .slice none 0 0, .int .i64 0, .string ByteArray.empty, .slice none 0 0, .slice none 0 0, .int .i64 0, .int .i64 0, .string ByteArray.empty, .slice none 0 0, .bool false, .int .i64 0, .bool false, .string ByteArray.empty] 43)) (w.heap.size + 1) 43 [.int .i64 0, .int .i64 0, .int .u64 0, .int .i64 0, .int .i64 0, .int .i64 0, .bool false, .slice none 0 0, .slice none 0 0, .slice none 0 0, .slice none 0 0, .slice none 0 0, .slice none 0 0, .int .i64 0, .string ByteArray.empty, .slice none 0 0, .slice none 0 0, .int .i64 0, .int .i64 0, .string ByteArray.empty, .slice none 0 0, .bool false, .int .i64 0, .bool false, .string ByteArray.empty] := by
    rw [← hsz]
    exact RowIs.alloc (w.alloc (.cells #[.pointer (some ⟨rd, 0, none⟩)] 154)) _ _
  have hr := h.nix (((Keep.refl Nix w).alloc (.cells #[.pointer (some ⟨rd, 0, none⟩)] 154)).alloc (.cells #[.int .i64 0, .int .i64 0, .int .u64 0, .int .i64 0, .int .i64 0, .int .i64 0, .bool false, .slice none 0 0, .slice none 0 0, .slice none 0 0, .slice none 0 0, .slice none 0 0, .slice none 0 0, .int .i64 0, .string ByteArray.empty, .slice none 0 0, .slice none 0 0, .int .i64 0, .int .i64 0, .string ByteArray.empty, .slice none 0 0, .bool false, .int .i64 0, .bool false, .string ByteArray.empty] 43))
  have kk : Keep (· = rd) w ((w.alloc (.cells #[.pointer (some ⟨rd, 0, none⟩)] 154)).alloc (.cells #[.int .i64 0, .int .i64 0, .int .u64 0, .int .i64 0, .int .i64 0, .int .i64 0, .bool false, .slice none 0 0, .slice none 0 0, .slice none 0 0, .slice none 0 0, .slice none 0 0, .slice none 0 0, .int .i64 0, .string ByteArray.empty, .slice none 0 0, .slice none 0 0, .int .i64 0, .int .i64 0, .string ByteArray.empty, .slice none 0 0, .bool false, .int .i64 0, .bool false, .string ByteArray.empty] 43)) := ((Keep.refl (· = rd) w).alloc _).alloc _
  clear h hsz
  replace rowB := rowB.same (w' := ((w.alloc (.cells #[.pointer (some ⟨rd, 0, none⟩)] 154)).alloc (.cells #[.int .i64 0, .int .i64 0, .int .u64 0, .int .i64 0, .int .i64 0, .int .i64 0, .bool false, .slice none 0 0, .slice none 0 0, .slice none 0 0, .slice none 0 0, .slice none 0 0, .slice none 0 0, .int .i64 0, .string ByteArray.empty, .slice none 0 0, .slice none 0 0, .int .i64 0, .int .i64 0, .string ByteArray.empty, .slice none 0 0, .bool false, .int .i64 0, .bool false, .string ByteArray.empty] 43)).drew)
  replace rowR := rowR.same (w' := ((w.alloc (.cells #[.pointer (some ⟨rd, 0, none⟩)] 154)).alloc (.cells #[.int .i64 0, .int .i64 0, .int .u64 0, .int .i64 0, .int .i64 0, .int .i64 0, .bool false, .slice none 0 0, .slice none 0 0, .slice none 0 0, .slice none 0 0, .slice none 0 0, .slice none 0 0, .int .i64 0, .string ByteArray.empty, .slice none 0 0, .slice none 0 0, .int .i64 0, .int .i64 0, .string ByteArray.empty, .slice none 0 0, .bool false, .int .i64 0, .bool false, .string ByteArray.empty] 43)).drew)
  replace hr := hr.same (w' := ((w.alloc (.cells #[.pointer (some ⟨rd, 0, none⟩)] 154)).alloc (.cells #[.int .i64 0, .int .i64 0, .int .u64 0, .int .i64 0, .int .i64 0, .int .i64 0, .bool false, .slice none 0 0, .slice none 0 0, .slice none 0 0, .slice none 0 0, .slice none 0 0, .slice none 0 0, .int .i64 0, .string ByteArray.empty, .slice none 0 0, .slice none 0 0, .int .i64 0, .int .i64 0, .string ByteArray.empty, .slice none 0 0, .bool false, .int .i64 0, .bool false, .string ByteArray.empty] 43)).drew)
  replace kk := kk.drew
  go_enter Tryz.func92, Tryz.ntmps92
  go_wp2_with fail
  refine wp_region_held_drew (S := (fun w' => w'.cell? ⟨w.heap.size, 0, none⟩ = some (.pointer (some ⟨rd, 0, none⟩)))) (by kernel_rfl) (rowB.cell 0) (fun hHeld => ?_)
  refine wpAnyH_take (i := 0) (v := ?_) rfl (by kernel_rfl) (by kernel_rfl) (by kernel_rfl) (fun _ _ _ h => h) (Or.inl ⟨by rfl, ?_⟩) hHeld ?_
  rotate_left
  · intro w' hSw
    (try dsimp only at hSw)
    go_simp
    try with_reducible rfl
  (try simp only [Act.put]); (try simp only [List.setIfInBounds_toArray]); (try simp only [List.set_cons_succ]); (try simp only [List.set_cons_zero])
  refine wpAnyH_take (i := 2) (v := ?_) rfl (by kernel_rfl) (by kernel_rfl) (by kernel_rfl) (fun _ _ _ h => h) (Or.inl ⟨by rfl, ?_⟩) hHeld ?_
  rotate_left
  · intro w' hSw
    (try dsimp only at hSw)
    go_simp
    try with_reducible rfl
  (try simp only [Act.put]); (try simp only [List.setIfInBounds_toArray]); (try simp only [List.set_cons_succ]); (try simp only [List.set_cons_zero])
  refine wpAnyH_take (i := 4) (v := ?_) rfl (by kernel_rfl) (by kernel_rfl) (by kernel_rfl) (fun _ _ _ h => h) (Or.inl ⟨by rfl, ?_⟩) hHeld ?_
  rotate_left
  · intro w' hSw
    (try dsimp only at hSw)
    go_simp
    try with_reducible rfl
  (try simp only [Act.put]); (try simp only [List.setIfInBounds_toArray]); (try simp only [List.set_cons_succ]); (try simp only [List.set_cons_zero])
  refine wpAnyH_take (i := 6) (v := ?_) rfl (by kernel_rfl) (by kernel_rfl) (by kernel_rfl) (fun _ _ _ h => h) (Or.inl ⟨by rfl, ?_⟩) hHeld ?_
  rotate_left
  · intro w' hSw
    (try dsimp only at hSw)
    go_simp
    try with_reducible rfl
  (try simp only [Act.put]); (try simp only [List.setIfInBounds_toArray]); (try simp only [List.set_cons_succ]); (try simp only [List.set_cons_zero])
  refine wpAnyH_take (i := 8) (v := ?_) rfl (by kernel_rfl) (by kernel_rfl) (by kernel_rfl) (fun _ _ _ h => h) (Or.inl ⟨by rfl, ?_⟩) hHeld ?_
  rotate_left
  · intro w' hSw
    (try dsimp only at hSw)
    go_simp
    try with_reducible rfl
  (try simp only [Act.put]); (try simp only [List.setIfInBounds_toArray]); (try simp only [List.set_cons_succ]); (try simp only [List.set_cons_zero])
  refine wpAnyH_take (i := 10) (v := ?_) rfl (by kernel_rfl) (by kernel_rfl) (by kernel_rfl) (fun _ _ _ h => h) (Or.inl ⟨by rfl, ?_⟩) hHeld ?_
  rotate_left
  · intro w' hSw
    (try dsimp only at hSw)
    go_simp
    try with_reducible rfl
  (try simp only [Act.put]); (try simp only [List.setIfInBounds_toArray]); (try simp only [List.set_cons_succ]); (try simp only [List.set_cons_zero])
  refine wpAnyH_take (i := 12) (v := ?_) rfl (by kernel_rfl) (by kernel_rfl) (by kernel_rfl) (fun _ _ _ h => h) (Or.inl ⟨by rfl, ?_⟩) hHeld ?_
  rotate_left
  · intro w' hSw
    (try dsimp only at hSw)
    go_simp
    try with_reducible rfl
  (try simp only [Act.put]); (try simp only [List.setIfInBounds_toArray]); (try simp only [List.set_cons_succ]); (try simp only [List.set_cons_zero])
  refine wpAnyH_take (i := 14) (v := ?_) rfl (by kernel_rfl) (by kernel_rfl) (by kernel_rfl) (fun _ _ _ h => h) (Or.inl ⟨by rfl, ?_⟩) hHeld ?_
  rotate_left
  · intro w' hSw
    (try dsimp only at hSw)
    go_simp
    try with_reducible rfl
  (try simp only [Act.put]); (try simp only [List.setIfInBounds_toArray]); (try simp only [List.set_cons_succ]); (try simp only [List.set_cons_zero])
  refine wpAnyH_take (i := 16) (v := ?_) rfl (by kernel_rfl) (by kernel_rfl) (by kernel_rfl) (fun _ _ _ h => h) (Or.inl ⟨by rfl, ?_⟩) hHeld ?_
  rotate_left
  · intro w' hSw
    (try dsimp only at hSw)
    go_simp
    try with_reducible rfl
  (try simp only [Act.put]); (try simp only [List.setIfInBounds_toArray]); (try simp only [List.set_cons_succ]); (try simp only [List.set_cons_zero])
  refine wpAnyH_take (i := 18) (v := ?_) rfl (by kernel_rfl) (by kernel_rfl) (by kernel_rfl) (fun _ _ _ h => h) (Or.inl ⟨by rfl, ?_⟩) hHeld ?_
  rotate_left
  · intro w' hSw
    (try dsimp only at hSw)
    go_simp
    try with_reducible rfl
  (try simp only [Act.put]); (try simp only [List.setIfInBounds_toArray]); (try simp only [List.set_cons_succ]); (try simp only [List.set_cons_zero])
  refine wpAnyH_take (i := 19) (v := ?_) rfl (by kernel_rfl) (by kernel_rfl) (by kernel_rfl) (fun _ _ _ h => h) (Or.inl ⟨by rfl, ?_⟩) hHeld ?_
  rotate_left
  · intro w' hSw
    (try dsimp only at hSw)
    go_simp
    try with_reducible rfl
  (try simp only [Act.put]); (try simp only [List.setIfInBounds_toArray]); (try simp only [List.set_cons_succ]); (try simp only [List.set_cons_zero])
  refine wpAnyH_take (i := 20) (v := ?_) rfl (by kernel_rfl) (by kernel_rfl) (by kernel_rfl) (fun _ _ _ h => h) (Or.inl ⟨by rfl, ?_⟩) hHeld ?_
  rotate_left
  · intro w' hSw
    (try dsimp only at hSw)
    go_simp
    try with_reducible rfl
  (try simp only [Act.put]); (try simp only [List.setIfInBounds_toArray]); (try simp only [List.set_cons_succ]); (try simp only [List.set_cons_zero])
  refine wpAnyH_take (i := 22) (v := ?_) rfl (by kernel_rfl) (by kernel_rfl) (by kernel_rfl) (fun _ _ _ h => h) (Or.inl ⟨by rfl, ?_⟩) hHeld ?_
  rotate_left
  · intro w' hSw
    (try dsimp only at hSw)
    go_simp
    try with_reducible rfl
  (try simp only [Act.put]); (try simp only [List.setIfInBounds_toArray]); (try simp only [List.set_cons_succ]); (try simp only [List.set_cons_zero])
  refine wpAnyH_take (i := 23) (v := ?_) rfl (by kernel_rfl) (by kernel_rfl) (by kernel_rfl) (fun _ _ _ h => h) (Or.inl ⟨by rfl, ?_⟩) hHeld ?_
  rotate_left
  · intro w' hSw
    (try dsimp only at hSw)
    go_simp
    try with_reducible rfl
  (try simp only [Act.put]); (try simp only [List.setIfInBounds_toArray]); (try simp only [List.set_cons_succ]); (try simp only [List.set_cons_zero])
  refine wpAnyH_take (i := 24) (v := ?_) rfl (by kernel_rfl) (by kernel_rfl) (by kernel_rfl) (fun _ _ _ h => h) (Or.inl ⟨by rfl, ?_⟩) hHeld ?_
  rotate_left
  · intro w' hSw
    (try dsimp only at hSw)
    go_simp
    try with_reducible rfl
  (try simp only [Act.put]); (try simp only [List.setIfInBounds_toArray]); (try simp only [List.set_cons_succ]); (try simp only [List.set_cons_zero])
  refine wpAnyH_take (i := 26) (v := ?_) rfl (by kernel_rfl) (by kernel_rfl) (by kernel_rfl) (fun _ _ _ h => h) (Or.inl ⟨by rfl, ?_⟩) hHeld ?_
  rotate_left
  · intro w' hSw
    (try dsimp only at hSw)
    go_simp
    try with_reducible rfl
  (try simp only [Act.put]); (try simp only [List.setIfInBounds_toArray]); (try simp only [List.set_cons_succ]); (try simp only [List.set_cons_zero])
  refine wpAnyH_take (i := 27) (v := ?_) rfl (by kernel_rfl) (by kernel_rfl) (by kernel_rfl) (fun _ _ _ h => h) (Or.inl ⟨by rfl, ?_⟩) hHeld ?_
  rotate_left
  · intro w' hSw
    (try dsimp only at hSw)
    go_simp
    try with_reducible rfl
  (try simp only [Act.put]); (try simp only [List.setIfInBounds_toArray]); (try simp only [List.set_cons_succ]); (try simp only [List.set_cons_zero])
  refine wpAnyH_take (i := 28) (v := ?_) rfl (by kernel_rfl) (by kernel_rfl) (by kernel_rfl) (fun _ _ _ h => h) (Or.inl ⟨by rfl, ?_⟩) hHeld ?_
  rotate_left
  · intro w' hSw
    (try dsimp only at hSw)
    go_simp
    try with_reducible rfl
  (try simp only [Act.put]); (try simp only [List.setIfInBounds_toArray]); (try simp only [List.set_cons_succ]); (try simp only [List.set_cons_zero])
  refine wpAnyH_take (i := 30) (v := ?_) rfl (by kernel_rfl) (by kernel_rfl) (by kernel_rfl) (fun _ _ _ h => h) (Or.inl ⟨by rfl, ?_⟩) hHeld ?_
  rotate_left
  · intro w' hSw
    (try dsimp only at hSw)
    go_simp
    try with_reducible rfl
  (try simp only [Act.put]); (try simp only [List.setIfInBounds_toArray]); (try simp only [List.set_cons_succ]); (try simp only [List.set_cons_zero])
  refine wpAnyH_take (i := 32) (v := ?_) rfl (by kernel_rfl) (by kernel_rfl) (by kernel_rfl) (fun _ _ _ h => h) (Or.inl ⟨by rfl, ?_⟩) hHeld ?_
  rotate_left
  · intro w' hSw
    (try dsimp only at hSw)
    go_simp
    try with_reducible rfl
  (try simp only [Act.put]); (try simp only [List.setIfInBounds_toArray]); (try simp only [List.set_cons_succ]); (try simp only [List.set_cons_zero])
  refine wpAnyH_take (i := 34) (v := ?_) rfl (by kernel_rfl) (by kernel_rfl) (by kernel_rfl) (fun _ _ _ h => h) (Or.inl ⟨by rfl, ?_⟩) hHeld ?_
  rotate_left
  · intro w' hSw
    (try dsimp only at hSw)
    go_simp
    try with_reducible rfl
  (try simp only [Act.put]); (try simp only [List.setIfInBounds_toArray]); (try simp only [List.set_cons_succ]); (try simp only [List.set_cons_zero])
  refine wpAnyH_ready (rs := [1]) (by kernel_rfl) (by simp) ?_
  refine AllReadyH.cons rfl (fun K hK => ?_) AllReadyH.nil
  go_simp
  go_fit (rint_g rd p _ _ hr)
  rintro e w1 ⟨rfl, hr', k0⟩
  have wf0 : Hid ((Lit.int .i64 (pInt s).1).wf = true) := zag_wf (numS_lt maxU _)
  generalize hy0 : pInt s = y0 at hr' wf0 ⊢
  replace hy0 := Lib.hid hy0
  have rowRl := rowR.lt
  replace rowB := rowB.keep k0 (by omega)
  replace rowR := rowR.keep k0 (by omega)
  replace kk := kk.trans k0
  replace hr := hr'
  clear hr' k0 rowRl
  go_wp2_with fail
  refine hK.out _ _ (rowB.cell 0) (fun hHeld => ?_)
  clear hK K
  (try simp only [Act.put]); (try simp only [List.setIfInBounds_toArray]); (try simp only [List.set_cons_succ]); (try simp only [List.set_cons_zero])
  refine wpAnyH_ready (rs := [3]) (by kernel_rfl) (by simp) ?_
  refine AllReadyH.cons rfl (fun K hK => ?_) AllReadyH.nil
  go_simp
  go_fit (rint_g rd p _ _ hr)
  rintro e w2 ⟨rfl, hr', k1⟩
  have wf1 : Hid ((Lit.int .i64 (pInt y0.2).1).wf = true) := zag_wf (numS_lt maxU _)
  generalize hy1 : pInt y0.2 = y1 at hr' wf1 ⊢
  replace hy1 := Lib.hid hy1
  have rowRl := rowR.lt
  replace rowB := rowB.keep k1 (by omega)
  replace rowR := rowR.keep k1 (by omega)
  replace kk := kk.trans k1
  replace hr := hr'
  clear hr' k1 rowRl
  go_wp2_with fail
  refine hK.out _ _ (rowB.cell 0) (fun hHeld => ?_)
  clear hK K
  (try simp only [Act.put]); (try simp only [List.setIfInBounds_toArray]); (try simp only [List.set_cons_succ]); (try simp only [List.set_cons_zero])
  refine wpAnyH_ready (rs := [5]) (by kernel_rfl) (by simp) ?_
  refine AllReadyH.cons rfl (fun K hK => ?_) AllReadyH.nil
  go_simp
  go_fit (rnum_g rd p _ _ hr)
  rintro e w3 ⟨rfl, hr', k2⟩
  have wf2 : Hid ((Lit.int .u64 (pNum y1.2).1).wf = true) := num_wf (numS_lt maxU _)
  generalize hy2 : pNum y1.2 = y2 at hr' wf2 ⊢
  replace hy2 := Lib.hid hy2
  have rowRl := rowR.lt
  replace rowB := rowB.keep k2 (by omega)
  replace rowR := rowR.keep k2 (by omega)
  replace kk := kk.trans k2
  replace hr := hr'
  clear hr' k2 rowRl
  go_wp2_with fail
  refine hK.out _ _ (rowB.cell 0) (fun hHeld => ?_)
  clear hK K
  (try simp only [Act.put]); (try simp only [List.setIfInBounds_toArray]); (try simp only [List.set_cons_succ]); (try simp only [List.set_cons_zero])
  refine wpAnyH_ready (rs := [7]) (by kernel_rfl) (by simp) ?_
  refine AllReadyH.cons rfl (fun K hK => ?_) AllReadyH.nil
  go_simp
  go_fit (rint_g rd p _ _ hr)
  rintro e w4 ⟨rfl, hr', k3⟩
  have wf3 : Hid ((Lit.int .i64 (pInt y2.2).1).wf = true) := zag_wf (numS_lt maxU _)
  generalize hy3 : pInt y2.2 = y3 at hr' wf3 ⊢
  replace hy3 := Lib.hid hy3
  have rowRl := rowR.lt
  replace rowB := rowB.keep k3 (by omega)
  replace rowR := rowR.keep k3 (by omega)
  replace kk := kk.trans k3
  replace hr := hr'
  clear hr' k3 rowRl
  go_wp2_with fail
  refine hK.out _ _ (rowB.cell 0) (fun hHeld => ?_)
  clear hK K
  (try simp only [Act.put]); (try simp only [List.setIfInBounds_toArray]); (try simp only [List.set_cons_succ]); (try simp only [List.set_cons_zero])
  refine wpAnyH_ready (rs := [9]) (by kernel_rfl) (by simp) ?_
  refine AllReadyH.cons rfl (fun K hK => ?_) AllReadyH.nil
  go_simp
  go_fit (rint_g rd p _ _ hr)
  rintro e w5 ⟨rfl, hr', k4⟩
  have wf4 : Hid ((Lit.int .i64 (pInt y3.2).1).wf = true) := zag_wf (numS_lt maxU _)
  generalize hy4 : pInt y3.2 = y4 at hr' wf4 ⊢
  replace hy4 := Lib.hid hy4
  have rowRl := rowR.lt
  replace rowB := rowB.keep k4 (by omega)
  replace rowR := rowR.keep k4 (by omega)
  replace kk := kk.trans k4
  replace hr := hr'
  clear hr' k4 rowRl
  go_wp2_with fail
  refine hK.out _ _ (rowB.cell 0) (fun hHeld => ?_)
  clear hK K
  (try simp only [Act.put]); (try simp only [List.setIfInBounds_toArray]); (try simp only [List.set_cons_succ]); (try simp only [List.set_cons_zero])
  refine wpAnyH_ready (rs := [11]) (by kernel_rfl) (by simp) ?_
  refine AllReadyH.cons rfl (fun K hK => ?_) AllReadyH.nil
  go_simp
  go_fit (rint_g rd p _ _ hr)
  rintro e w6 ⟨rfl, hr', k5⟩
  have wf5 : Hid ((Lit.int .i64 (pInt y4.2).1).wf = true) := zag_wf (numS_lt maxU _)
  generalize hy5 : pInt y4.2 = y5 at hr' wf5 ⊢
  replace hy5 := Lib.hid hy5
  have rowRl := rowR.lt
  replace rowB := rowB.keep k5 (by omega)
  replace rowR := rowR.keep k5 (by omega)
  replace kk := kk.trans k5
  replace hr := hr'
  clear hr' k5 rowRl
  go_wp2_with fail
  refine hK.out _ _ (rowB.cell 0) (fun hHeld => ?_)
  clear hK K
  (try simp only [Act.put]); (try simp only [List.setIfInBounds_toArray]); (try simp only [List.set_cons_succ]); (try simp only [List.set_cons_zero])
  refine wpAnyH_ready (rs := [13]) (by kernel_rfl) (by simp) ?_
  refine AllReadyH.cons rfl (fun K hK => ?_) AllReadyH.nil
  go_simp
  go_fit (rflag_g rd p _ _ hr)
  rintro e w7 ⟨rfl, hr', k6⟩
  generalize hy6 : pFlag y5.2 = y6 at hr' ⊢
  replace hy6 := Lib.hid hy6
  have rowRl := rowR.lt
  replace rowB := rowB.keep k6 (by omega)
  replace rowR := rowR.keep k6 (by omega)
  replace kk := kk.trans k6
  replace hr := hr'
  clear hr' k6 rowRl
  go_wp2_with fail
  refine hK.out _ _ (rowB.cell 0) (fun hHeld => ?_)
  clear hK K
  (try simp only [Act.put]); (try simp only [List.setIfInBounds_toArray]); (try simp only [List.set_cons_succ]); (try simp only [List.set_cons_zero])
  refine wpAnyH_ready (rs := [15]) (by kernel_rfl) (by simp) ?_
  refine AllReadyH.cons rfl (fun K hK => ?_) AllReadyH.nil
  go_simp
  go_fit (rbytes_g rd p _ _ hr)
  rintro e w8 ⟨v, rfl, q7, hr', k7⟩
  generalize hy7 : pBytes y6.2 = y7 at hr' q7
  replace hy7 := Lib.hid hy7
  obtain ⟨a7, cc7, hv, q7'⟩ := rBytesW_open q7
  simp only [List.cons.injEq, and_true] at hv
  subst hv
  clear q7
  have q7 := q7'
  clear q7'
  have rowRl := rowR.lt
  replace rowB := rowB.keep k7 (by omega)
  replace rowR := rowR.keep k7 (by omega)
  have hRl := rowRl
  replace kk := kk.trans k7
  replace q7 := rBytesW_lawful.mono q7 (fun b hb => (⟨by have := hb.1; omega, hb.2⟩ : NewAt (w.heap.size + 2) w8 b))
  clear hRl
  replace hr := hr'
  clear hr' k7 rowRl
  go_wp2_with fail
  refine hK.out _ _ (rowB.cell 0) (fun hHeld => ?_)
  clear hK K
  (try simp only [Act.put]); (try simp only [List.setIfInBounds_toArray]); (try simp only [List.set_cons_succ]); (try simp only [List.set_cons_zero])
  refine wpAnyH_ready (rs := [17]) (by kernel_rfl) (by simp) ?_
  refine AllReadyH.cons rfl (fun K hK => ?_) AllReadyH.nil
  go_simp
  go_fit (gSpan_c rd p _ _ hr (fun b hb => Nat.lt_of_lt_of_le (hpl b hb) kk.size))
  rintro e w9 ⟨c8, rfl, q8, ho8, hr', k8⟩
  have hl8 := Lib.hid (wGSpan_lawful.len q8)
  replace ho8 := Lib.hid ho8
  generalize hy8 : pGSpan y7.2 = y8 at hr' q8
  replace hy8 := Lib.hid hy8
  have rowRl := rowR.lt
  replace q7 := rBytesW_lawful.mono (rBytesW_lawful.keep q7 k8 (fun b hb e => by have := hb.1; omega)) (fun b hb => (⟨hb.1, Nat.lt_of_lt_of_le hb.2 k8.size⟩ : NewAt (w.heap.size + 2) w9 b))
  replace rowB := rowB.keep k8 (by omega)
  replace rowR := rowR.keep k8 (by omega)
  have hRl := rowRl
  replace kk := kk.trans k8
  replace q8 := wGSpan_lawful.mono q8 (fun b hb => (⟨by have := hb.1; omega, hb.2⟩ : NewAt (w.heap.size + 2) w9 b))
  clear hRl
  replace hr := hr'
  clear hr' k8 rowRl
  go_wp2_with fail
  refine hK.out _ _ (rowB.cell 0) (fun hHeld => ?_)
  clear hK K
  (try simp only [Act.put]); (try simp only [List.setIfInBounds_toArray]); (try simp only [List.set_cons_succ]); (try simp only [List.set_cons_zero])
  refine wpAnyH_ready (rs := [21]) (by kernel_rfl) (by simp) ?_
  refine AllReadyH.cons rfl (fun K hK => ?_) AllReadyH.nil
  go_simp
  go_fit (itPair_c rd p _ _ hr (fun b hb => Nat.lt_of_lt_of_le (hpl b hb) kk.size))
  rintro e w10 ⟨v, rfl, q9, hr', k9⟩
  generalize hy9 : (pList pGPair) y8.2 = y9 at hr' q9
  replace hy9 := Lib.hid hy9
  obtain ⟨a9, cc9, hv, q9'⟩ := rList_open q9
  simp only [List.cons.injEq, and_true] at hv
  subst hv
  clear q9
  have q9 := q9'
  clear q9'
  have rowRl := rowR.lt
  replace q7 := rBytesW_lawful.mono (rBytesW_lawful.keep q7 k9 (fun b hb e => by have := hb.1; omega)) (fun b hb => (⟨hb.1, Nat.lt_of_lt_of_le hb.2 k9.size⟩ : NewAt (w.heap.size + 2) w10 b))
  replace q8 := wGSpan_lawful.mono (wGSpan_lawful.keep q8 k9 (fun b hb e => by have := hb.1; omega)) (fun b hb => (⟨hb.1, Nat.lt_of_lt_of_le hb.2 k9.size⟩ : NewAt (w.heap.size + 2) w10 b))
  replace rowB := rowB.keep k9 (by omega)
  replace rowR := rowR.keep k9 (by omega)
  have hRl := rowRl
  replace kk := kk.trans k9
  replace q9 := (rList_lawful wGPair_lawful).mono q9 (fun b hb => (⟨by have := hb.1; omega, hb.2⟩ : NewAt (w.heap.size + 2) w10 b))
  clear hRl
  replace hr := hr'
  clear hr' k9 rowRl
  go_wp2_with fail
  refine hK.out _ _ (rowB.cell 0) (fun hHeld => ?_)
  clear hK K
  (try simp only [Act.put]); (try simp only [List.setIfInBounds_toArray]); (try simp only [List.set_cons_succ]); (try simp only [List.set_cons_zero])
  refine wpAnyH_ready (rs := [25]) (by kernel_rfl) (by simp) ?_
  refine AllReadyH.cons rfl (fun K hK => ?_) AllReadyH.nil
  go_simp
  go_fit (itSeen_c rd p _ _ hr (fun b hb => Nat.lt_of_lt_of_le (hpl b hb) kk.size))
  rintro e w11 ⟨v, rfl, q10, hr', k10⟩
  generalize hy10 : (pList pGSeen) y9.2 = y10 at hr' q10
  replace hy10 := Lib.hid hy10
  obtain ⟨a10, cc10, hv, q10'⟩ := rList_open q10
  simp only [List.cons.injEq, and_true] at hv
  subst hv
  clear q10
  have q10 := q10'
  clear q10'
  have rowRl := rowR.lt
  replace q7 := rBytesW_lawful.mono (rBytesW_lawful.keep q7 k10 (fun b hb e => by have := hb.1; omega)) (fun b hb => (⟨hb.1, Nat.lt_of_lt_of_le hb.2 k10.size⟩ : NewAt (w.heap.size + 2) w11 b))
  replace q8 := wGSpan_lawful.mono (wGSpan_lawful.keep q8 k10 (fun b hb e => by have := hb.1; omega)) (fun b hb => (⟨hb.1, Nat.lt_of_lt_of_le hb.2 k10.size⟩ : NewAt (w.heap.size + 2) w11 b))
  replace q9 := (rList_lawful wGPair_lawful).mono ((rList_lawful wGPair_lawful).keep q9 k10 (fun b hb e => by have := hb.1; omega)) (fun b hb => (⟨hb.1, Nat.lt_of_lt_of_le hb.2 k10.size⟩ : NewAt (w.heap.size + 2) w11 b))
  replace rowB := rowB.keep k10 (by omega)
  replace rowR := rowR.keep k10 (by omega)
  have hRl := rowRl
  replace kk := kk.trans k10
  replace q10 := (rList_lawful wGSeen_lawful).mono q10 (fun b hb => (⟨by have := hb.1; omega, hb.2⟩ : NewAt (w.heap.size + 2) w11 b))
  clear hRl
  replace hr := hr'
  clear hr' k10 rowRl
  go_wp2_with fail
  refine hK.out _ _ (rowB.cell 0) (fun hHeld => ?_)
  clear hK K
  (try simp only [Act.put]); (try simp only [List.setIfInBounds_toArray]); (try simp only [List.set_cons_succ]); (try simp only [List.set_cons_zero])
  refine wpAnyH_ready (rs := [29]) (by kernel_rfl) (by simp) ?_
  refine AllReadyH.cons rfl (fun K hK => ?_) AllReadyH.nil
  go_simp
  go_fit (itWrite_c rd p _ _ hr (fun b hb => Nat.lt_of_lt_of_le (hpl b hb) kk.size))
  rintro e w12 ⟨v, rfl, q11, hr', k11⟩
  generalize hy11 : (pList pGWrite) y10.2 = y11 at hr' q11
  replace hy11 := Lib.hid hy11
  obtain ⟨a11, cc11, hv, q11'⟩ := rList_open q11
  simp only [List.cons.injEq, and_true] at hv
  subst hv
  clear q11
  have q11 := q11'
  clear q11'
  have rowRl := rowR.lt
  replace q7 := rBytesW_lawful.mono (rBytesW_lawful.keep q7 k11 (fun b hb e => by have := hb.1; omega)) (fun b hb => (⟨hb.1, Nat.lt_of_lt_of_le hb.2 k11.size⟩ : NewAt (w.heap.size + 2) w12 b))
  replace q8 := wGSpan_lawful.mono (wGSpan_lawful.keep q8 k11 (fun b hb e => by have := hb.1; omega)) (fun b hb => (⟨hb.1, Nat.lt_of_lt_of_le hb.2 k11.size⟩ : NewAt (w.heap.size + 2) w12 b))
  replace q9 := (rList_lawful wGPair_lawful).mono ((rList_lawful wGPair_lawful).keep q9 k11 (fun b hb e => by have := hb.1; omega)) (fun b hb => (⟨hb.1, Nat.lt_of_lt_of_le hb.2 k11.size⟩ : NewAt (w.heap.size + 2) w12 b))
  replace q10 := (rList_lawful wGSeen_lawful).mono ((rList_lawful wGSeen_lawful).keep q10 k11 (fun b hb e => by have := hb.1; omega)) (fun b hb => (⟨hb.1, Nat.lt_of_lt_of_le hb.2 k11.size⟩ : NewAt (w.heap.size + 2) w12 b))
  replace rowB := rowB.keep k11 (by omega)
  replace rowR := rowR.keep k11 (by omega)
  have hRl := rowRl
  replace kk := kk.trans k11
  replace q11 := (rList_lawful wGWrite_lawful).mono q11 (fun b hb => (⟨by have := hb.1; omega, hb.2⟩ : NewAt (w.heap.size + 2) w12 b))
  clear hRl
  replace hr := hr'
  clear hr' k11 rowRl
  go_wp2_with fail
  refine hK.out _ _ (rowB.cell 0) (fun hHeld => ?_)
  clear hK K
  (try simp only [Act.put]); (try simp only [List.setIfInBounds_toArray]); (try simp only [List.set_cons_succ]); (try simp only [List.set_cons_zero])
  refine wpAnyH_ready (rs := [31]) (by kernel_rfl) (by simp) ?_
  refine AllReadyH.cons rfl (fun K hK => ?_) AllReadyH.nil
  go_simp
  go_fit (gTable_c rd p _ _ hr (fun b hb => Nat.lt_of_lt_of_le (hpl b hb) kk.size))
  rintro e w13 ⟨c12, rfl, q12, ho12, hr', k12⟩
  have hl12 := Lib.hid (wGTable_lawful.len q12)
  replace ho12 := Lib.hid ho12
  generalize hy12 : pGTable y11.2 = y12 at hr' q12
  replace hy12 := Lib.hid hy12
  have rowRl := rowR.lt
  replace q7 := rBytesW_lawful.mono (rBytesW_lawful.keep q7 k12 (fun b hb e => by have := hb.1; omega)) (fun b hb => (⟨hb.1, Nat.lt_of_lt_of_le hb.2 k12.size⟩ : NewAt (w.heap.size + 2) w13 b))
  replace q8 := wGSpan_lawful.mono (wGSpan_lawful.keep q8 k12 (fun b hb e => by have := hb.1; omega)) (fun b hb => (⟨hb.1, Nat.lt_of_lt_of_le hb.2 k12.size⟩ : NewAt (w.heap.size + 2) w13 b))
  replace q9 := (rList_lawful wGPair_lawful).mono ((rList_lawful wGPair_lawful).keep q9 k12 (fun b hb e => by have := hb.1; omega)) (fun b hb => (⟨hb.1, Nat.lt_of_lt_of_le hb.2 k12.size⟩ : NewAt (w.heap.size + 2) w13 b))
  replace q10 := (rList_lawful wGSeen_lawful).mono ((rList_lawful wGSeen_lawful).keep q10 k12 (fun b hb e => by have := hb.1; omega)) (fun b hb => (⟨hb.1, Nat.lt_of_lt_of_le hb.2 k12.size⟩ : NewAt (w.heap.size + 2) w13 b))
  replace q11 := (rList_lawful wGWrite_lawful).mono ((rList_lawful wGWrite_lawful).keep q11 k12 (fun b hb e => by have := hb.1; omega)) (fun b hb => (⟨hb.1, Nat.lt_of_lt_of_le hb.2 k12.size⟩ : NewAt (w.heap.size + 2) w13 b))
  replace rowB := rowB.keep k12 (by omega)
  replace rowR := rowR.keep k12 (by omega)
  have hRl := rowRl
  replace kk := kk.trans k12
  replace q12 := wGTable_lawful.mono q12 (fun b hb => (⟨by have := hb.1; omega, hb.2⟩ : NewAt (w.heap.size + 2) w13 b))
  clear hRl
  replace hr := hr'
  clear hr' k12 rowRl
  go_wp2_with fail
  refine hK.out _ _ (rowB.cell 0) (fun hHeld => ?_)
  clear hK K
  (try simp only [Act.put]); (try simp only [List.setIfInBounds_toArray]); (try simp only [List.set_cons_succ]); (try simp only [List.set_cons_zero])
  refine wpAnyH_ready (rs := [33]) (by kernel_rfl) (by simp) ?_
  refine AllReadyH.cons rfl (fun K hK => ?_) AllReadyH.nil
  go_simp
  go_fit (gIndex_c rd p _ _ hr (fun b hb => Nat.lt_of_lt_of_le (hpl b hb) kk.size))
  rintro e w14 ⟨c13, rfl, q13, ho13, hr', k13⟩
  have hl13 := Lib.hid (wGIndex_lawful.len q13)
  replace ho13 := Lib.hid ho13
  generalize hy13 : pGIndex y12.2 = y13 at hr' q13
  replace hy13 := Lib.hid hy13
  have rowRl := rowR.lt
  replace q7 := rBytesW_lawful.mono (rBytesW_lawful.keep q7 k13 (fun b hb e => by have := hb.1; omega)) (fun b hb => (⟨hb.1, Nat.lt_of_lt_of_le hb.2 k13.size⟩ : NewAt (w.heap.size + 2) w14 b))
  replace q8 := wGSpan_lawful.mono (wGSpan_lawful.keep q8 k13 (fun b hb e => by have := hb.1; omega)) (fun b hb => (⟨hb.1, Nat.lt_of_lt_of_le hb.2 k13.size⟩ : NewAt (w.heap.size + 2) w14 b))
  replace q9 := (rList_lawful wGPair_lawful).mono ((rList_lawful wGPair_lawful).keep q9 k13 (fun b hb e => by have := hb.1; omega)) (fun b hb => (⟨hb.1, Nat.lt_of_lt_of_le hb.2 k13.size⟩ : NewAt (w.heap.size + 2) w14 b))
  replace q10 := (rList_lawful wGSeen_lawful).mono ((rList_lawful wGSeen_lawful).keep q10 k13 (fun b hb e => by have := hb.1; omega)) (fun b hb => (⟨hb.1, Nat.lt_of_lt_of_le hb.2 k13.size⟩ : NewAt (w.heap.size + 2) w14 b))
  replace q11 := (rList_lawful wGWrite_lawful).mono ((rList_lawful wGWrite_lawful).keep q11 k13 (fun b hb e => by have := hb.1; omega)) (fun b hb => (⟨hb.1, Nat.lt_of_lt_of_le hb.2 k13.size⟩ : NewAt (w.heap.size + 2) w14 b))
  replace q12 := wGTable_lawful.mono (wGTable_lawful.keep q12 k13 (fun b hb e => by have := hb.1; omega)) (fun b hb => (⟨hb.1, Nat.lt_of_lt_of_le hb.2 k13.size⟩ : NewAt (w.heap.size + 2) w14 b))
  replace rowB := rowB.keep k13 (by omega)
  replace rowR := rowR.keep k13 (by omega)
  have hRl := rowRl
  replace kk := kk.trans k13
  replace q13 := wGIndex_lawful.mono q13 (fun b hb => (⟨by have := hb.1; omega, hb.2⟩ : NewAt (w.heap.size + 2) w14 b))
  clear hRl
  replace hr := hr'
  clear hr' k13 rowRl
  go_wp2_with fail
  refine hK.out _ _ (rowB.cell 0) (fun hHeld => ?_)
  clear hK K
  (try simp only [Act.put]); (try simp only [List.setIfInBounds_toArray]); (try simp only [List.set_cons_succ]); (try simp only [List.set_cons_zero])
  refine wpAnyH_ready (rs := [35]) (by kernel_rfl) (by simp) ?_
  refine AllReadyH.cons rfl (fun K hK => ?_) AllReadyH.nil
  go_simp
  go_fit (rtext_g rd p _ _ hr)
  rintro e w15 ⟨rfl, hr', k14⟩
  have wf14 : Hid ((pBytes y13.2).1.length ≤ far) := Nat.le_trans (textS_len 65536 _) (by decide)
  generalize hy14 : pBytes y13.2 = y14 at hr' wf14 ⊢
  replace hy14 := Lib.hid hy14
  have rowRl := rowR.lt
  replace q7 := rBytesW_lawful.mono (rBytesW_lawful.keep q7 k14 (fun b hb e => by have := hb.1; omega)) (fun b hb => (⟨hb.1, Nat.lt_of_lt_of_le hb.2 k14.size⟩ : NewAt (w.heap.size + 2) w15 b))
  replace q8 := wGSpan_lawful.mono (wGSpan_lawful.keep q8 k14 (fun b hb e => by have := hb.1; omega)) (fun b hb => (⟨hb.1, Nat.lt_of_lt_of_le hb.2 k14.size⟩ : NewAt (w.heap.size + 2) w15 b))
  replace q9 := (rList_lawful wGPair_lawful).mono ((rList_lawful wGPair_lawful).keep q9 k14 (fun b hb e => by have := hb.1; omega)) (fun b hb => (⟨hb.1, Nat.lt_of_lt_of_le hb.2 k14.size⟩ : NewAt (w.heap.size + 2) w15 b))
  replace q10 := (rList_lawful wGSeen_lawful).mono ((rList_lawful wGSeen_lawful).keep q10 k14 (fun b hb e => by have := hb.1; omega)) (fun b hb => (⟨hb.1, Nat.lt_of_lt_of_le hb.2 k14.size⟩ : NewAt (w.heap.size + 2) w15 b))
  replace q11 := (rList_lawful wGWrite_lawful).mono ((rList_lawful wGWrite_lawful).keep q11 k14 (fun b hb e => by have := hb.1; omega)) (fun b hb => (⟨hb.1, Nat.lt_of_lt_of_le hb.2 k14.size⟩ : NewAt (w.heap.size + 2) w15 b))
  replace q12 := wGTable_lawful.mono (wGTable_lawful.keep q12 k14 (fun b hb e => by have := hb.1; omega)) (fun b hb => (⟨hb.1, Nat.lt_of_lt_of_le hb.2 k14.size⟩ : NewAt (w.heap.size + 2) w15 b))
  replace q13 := wGIndex_lawful.mono (wGIndex_lawful.keep q13 k14 (fun b hb e => by have := hb.1; omega)) (fun b hb => (⟨hb.1, Nat.lt_of_lt_of_le hb.2 k14.size⟩ : NewAt (w.heap.size + 2) w15 b))
  replace rowB := rowB.keep k14 (by omega)
  replace rowR := rowR.keep k14 (by omega)
  replace kk := kk.trans k14
  replace hr := hr'
  clear hr' k14 rowRl
  go_wp2_with fail
  refine hK.out _ _ (rowB.cell 0) (fun hHeld => ?_)
  clear hK K
  (try simp only [Act.put]); (try simp only [List.setIfInBounds_toArray]); (try simp only [List.set_cons_succ]); (try simp only [List.set_cons_zero])
  have hbd := fun w' => build_run (P := Tryz.prog) B_Command [.int .i64 y0.1, .int .i64 y1.1, .int .u64 y2.1, .int .i64 y3.1, .int .i64 y4.1, .int .i64 y5.1, .bool y6.1, .slice a7 y7.1.length cc7, .agg c8.toArray, .slice a9 y9.1.length cc9, .slice a10 y10.1.length cc10, .slice a11 y11.1.length cc11, .agg c12.toArray, .agg c13.toArray, .string (strB y14.1)] (by simp only [List.map_cons, List.map_nil, size_int, size_bool, size_string, size_slice, size_agg, hl8.out, hl12.out, hl13.out]) w'
  simp only [numbered, Nat.reduceAdd] at hbd
  refine wpAnyH_take (i := 36) (v := ?_) rfl (by kernel_rfl) (by kernel_rfl) (by kernel_rfl) (fun _ _ _ h => h) (Or.inl ⟨by rfl, ?_⟩) hHeld ?_
  rotate_left
  · intro w' hSw
    (try dsimp only at hSw)
    (try simp only [List.getElem_toArray]); (try simp only [List.getElem_cons_succ]); (try simp only [List.getElem_cons_zero])
    go_simp
    try with_reducible rfl
  (try simp only [Act.put]); (try simp only [List.setIfInBounds_toArray]); (try simp only [List.set_cons_succ]); (try simp only [List.set_cons_zero])
  refine wpAnyH_ready (rs := [37]) (by kernel_rfl) (by simp) ?_
  refine AllReadyH.cons rfl (fun K hK => ?_) AllReadyH.nil
  have hjl : (joined [.int .i64 y0.1, .int .i64 y1.1, .int .u64 y2.1, .int .i64 y3.1, .int .i64 y4.1, .int .i64 y5.1, .bool y6.1, .slice a7 y7.1.length cc7, .agg c8.toArray, .slice a9 y9.1.length cc9, .slice a10 y10.1.length cc10, .slice a11 y11.1.length cc11, .agg c12.toArray, .agg c13.toArray, .string (strB y14.1)]).length = 25 := by simp only [joined_len, joined_len0, size_int, size_bool, size_string, size_slice, size_agg, hl8.out, hl12.out, hl13.out]
  have hjo : ones (joined [.int .i64 y0.1, .int .i64 y1.1, .int .u64 y2.1, .int .i64 y3.1, .int .i64 y4.1, .int .i64 y5.1, .bool y6.1, .slice a7 y7.1.length cc7, .agg c8.toArray, .slice a9 y9.1.length cc9, .slice a10 y10.1.length cc10, .slice a11 y11.1.length cc11, .agg c12.toArray, .agg c13.toArray, .string (strB y14.1)]) = true := by simp only [joined_ones, joined_ones0, ones_int, ones_bool, ones_string, ones_slice, ones_agg, ho8.out, ho12.out, ho13.out, Bool.and_self]
  have hst := store_run (P := Tryz.prog) S_Command rowR rfl hjl hjo
  have rowF := rowR.setRow (joined [.int .i64 y0.1, .int .i64 y1.1, .int .u64 y2.1, .int .i64 y3.1, .int .i64 y4.1, .int .i64 y5.1, .bool y6.1, .slice a7 y7.1.length cc7, .agg c8.toArray, .slice a9 y9.1.length cc9, .slice a10 y10.1.length cc10, .slice a11 y11.1.length cc11, .agg c12.toArray, .agg c13.toArray, .string (strB y14.1)])
  have kS := (Keep.refl (· = w.heap.size + 1) w15).setRow (fun _ => rfl) (joined [.int .i64 y0.1, .int .i64 y1.1, .int .u64 y2.1, .int .i64 y3.1, .int .i64 y4.1, .int .i64 y5.1, .bool y6.1, .slice a7 y7.1.length cc7, .agg c8.toArray, .slice a9 y9.1.length cc9, .slice a10 y10.1.length cc10, .slice a11 y11.1.length cc11, .agg c12.toArray, .agg c13.toArray, .string (strB y14.1)]).toArray
  replace rowB := rowB.keep kS (by omega)
  have HJL := Lib.hid hjl
  have HJO := Lib.hid hjo
  clear hjl hjo
  (try simp only [List.getElem_toArray]); (try simp only [List.getElem_cons_succ]); (try simp only [List.getElem_cons_zero])
  go_simp
  clear hst
  refine hK.out _ _ (rowB.cell 0) (fun hHeld => ?_)
  clear hK K
  (try simp only [Act.put]); (try simp only [List.setIfInBounds_toArray]); (try simp only [List.set_cons_succ]); (try simp only [List.set_cons_zero])
  refine wpAnyH_done (by kernel_rfl) ?_ _
  clear hbd hmf hHeld
  go_wp2_with fail
  have hinfo : (Tryz.prog.info? 43).map (·.size) = some (joined [.int .i64 y0.1, .int .i64 y1.1, .int .u64 y2.1, .int .i64 y3.1, .int .i64 y4.1, .int .i64 y5.1, .bool y6.1, .slice a7 y7.1.length cc7, .agg c8.toArray, .slice a9 y9.1.length cc9, .slice a10 y10.1.length cc10, .slice a11 y11.1.length cc11, .agg c12.toArray, .agg c13.toArray, .string (strB y14.1)]).toArray.size := by rw [List.size_toArray, HJL.out]; exact S_Command.info
  refine bodyPost_ret (results_cell_row (by rfl) _ _ _ _ _ _ _ (by rfl) rowF Tryz.underlying43 (by rfl) hinfo) rfl ?_
  replace q7 := rBytesW_lawful.mono (rBytesW_lawful.keep q7 kS (fun b hb e => by have := hb.1; omega)) (fun b hb => (⟨by have := hb.1; omega, Nat.lt_of_lt_of_le hb.2 kS.size⟩ : NewIn w (w15.setRow (w.heap.size + 1) (joined [.int .i64 y0.1, .int .i64 y1.1, .int .u64 y2.1, .int .i64 y3.1, .int .i64 y4.1, .int .i64 y5.1, .bool y6.1, .slice a7 y7.1.length cc7, .agg c8.toArray, .slice a9 y9.1.length cc9, .slice a10 y10.1.length cc10, .slice a11 y11.1.length cc11, .agg c12.toArray, .agg c13.toArray, .string (strB y14.1)]).toArray) b))
  replace q8 := wGSpan_lawful.mono (wGSpan_lawful.keep q8 kS (fun b hb e => by have := hb.1; omega)) (fun b hb => (⟨by have := hb.1; omega, Nat.lt_of_lt_of_le hb.2 kS.size⟩ : NewIn w (w15.setRow (w.heap.size + 1) (joined [.int .i64 y0.1, .int .i64 y1.1, .int .u64 y2.1, .int .i64 y3.1, .int .i64 y4.1, .int .i64 y5.1, .bool y6.1, .slice a7 y7.1.length cc7, .agg c8.toArray, .slice a9 y9.1.length cc9, .slice a10 y10.1.length cc10, .slice a11 y11.1.length cc11, .agg c12.toArray, .agg c13.toArray, .string (strB y14.1)]).toArray) b))
  replace q9 := (rList_lawful wGPair_lawful).mono ((rList_lawful wGPair_lawful).keep q9 kS (fun b hb e => by have := hb.1; omega)) (fun b hb => (⟨by have := hb.1; omega, Nat.lt_of_lt_of_le hb.2 kS.size⟩ : NewIn w (w15.setRow (w.heap.size + 1) (joined [.int .i64 y0.1, .int .i64 y1.1, .int .u64 y2.1, .int .i64 y3.1, .int .i64 y4.1, .int .i64 y5.1, .bool y6.1, .slice a7 y7.1.length cc7, .agg c8.toArray, .slice a9 y9.1.length cc9, .slice a10 y10.1.length cc10, .slice a11 y11.1.length cc11, .agg c12.toArray, .agg c13.toArray, .string (strB y14.1)]).toArray) b))
  replace q10 := (rList_lawful wGSeen_lawful).mono ((rList_lawful wGSeen_lawful).keep q10 kS (fun b hb e => by have := hb.1; omega)) (fun b hb => (⟨by have := hb.1; omega, Nat.lt_of_lt_of_le hb.2 kS.size⟩ : NewIn w (w15.setRow (w.heap.size + 1) (joined [.int .i64 y0.1, .int .i64 y1.1, .int .u64 y2.1, .int .i64 y3.1, .int .i64 y4.1, .int .i64 y5.1, .bool y6.1, .slice a7 y7.1.length cc7, .agg c8.toArray, .slice a9 y9.1.length cc9, .slice a10 y10.1.length cc10, .slice a11 y11.1.length cc11, .agg c12.toArray, .agg c13.toArray, .string (strB y14.1)]).toArray) b))
  replace q11 := (rList_lawful wGWrite_lawful).mono ((rList_lawful wGWrite_lawful).keep q11 kS (fun b hb e => by have := hb.1; omega)) (fun b hb => (⟨by have := hb.1; omega, Nat.lt_of_lt_of_le hb.2 kS.size⟩ : NewIn w (w15.setRow (w.heap.size + 1) (joined [.int .i64 y0.1, .int .i64 y1.1, .int .u64 y2.1, .int .i64 y3.1, .int .i64 y4.1, .int .i64 y5.1, .bool y6.1, .slice a7 y7.1.length cc7, .agg c8.toArray, .slice a9 y9.1.length cc9, .slice a10 y10.1.length cc10, .slice a11 y11.1.length cc11, .agg c12.toArray, .agg c13.toArray, .string (strB y14.1)]).toArray) b))
  replace q12 := wGTable_lawful.mono (wGTable_lawful.keep q12 kS (fun b hb e => by have := hb.1; omega)) (fun b hb => (⟨by have := hb.1; omega, Nat.lt_of_lt_of_le hb.2 kS.size⟩ : NewIn w (w15.setRow (w.heap.size + 1) (joined [.int .i64 y0.1, .int .i64 y1.1, .int .u64 y2.1, .int .i64 y3.1, .int .i64 y4.1, .int .i64 y5.1, .bool y6.1, .slice a7 y7.1.length cc7, .agg c8.toArray, .slice a9 y9.1.length cc9, .slice a10 y10.1.length cc10, .slice a11 y11.1.length cc11, .agg c12.toArray, .agg c13.toArray, .string (strB y14.1)]).toArray) b))
  replace q13 := wGIndex_lawful.mono (wGIndex_lawful.keep q13 kS (fun b hb e => by have := hb.1; omega)) (fun b hb => (⟨by have := hb.1; omega, Nat.lt_of_lt_of_le hb.2 kS.size⟩ : NewIn w (w15.setRow (w.heap.size + 1) (joined [.int .i64 y0.1, .int .i64 y1.1, .int .u64 y2.1, .int .i64 y3.1, .int .i64 y4.1, .int .i64 y5.1, .bool y6.1, .slice a7 y7.1.length cc7, .agg c8.toArray, .slice a9 y9.1.length cc9, .slice a10 y10.1.length cc10, .slice a11 y11.1.length cc11, .agg c12.toArray, .agg c13.toArray, .string (strB y14.1)]).toArray) b))
  have HE : pGCommand s = (⟨y0.1, y1.1, y2.1, y3.1, y4.1, y5.1, y6.1, y7.1, y8.1, y9.1, y10.1, y11.1, y12.1, y13.1, y14.1⟩, y14.2) := by simp only [pGCommand, hy0.out, hy1.out, hy2.out, hy3.out, hy4.out, hy5.out, hy6.out, hy7.out, hy8.out, hy9.out, hy10.out, hy11.out, hy12.out, hy13.out, hy14.out]
  rw [HE]
  refine ⟨_, rfl, ⟨[_], [_], [_], [_], [_], [_], [_], [_], c8, [_], [_], [_], c12, c13, [_], by simp [joined, Value.cells], ⟨rfl, wf0.out⟩, ⟨rfl, wf1.out⟩, ⟨rfl, wf2.out⟩, ⟨rfl, wf3.out⟩, ⟨rfl, wf4.out⟩, ⟨rfl, wf5.out⟩, rfl, q7, q8, q9, q10, q11, q12, q13, ⟨rfl, wf14.out⟩⟩, HJO.out, hr.keep kS (by omega) (fun b hb e => by have := hpl b hb; omega), kk.then kS (fun i hi e => by omega)⟩
end
def pGReply : Ps GReply := fun s0 =>
  let a0 := pInt s0
  let a1 := pNum a0.2
  let a2 := pInt a1.2
  let a3 := pFlag a2.2
  let a4 := (pList pGPair) a3.2
  let a5 := (pList pNum) a4.2
  let a6 := pGCatalog a5.2
  let a7 := pGRoutes a6.2
  (⟨a0.1, a1.1, a2.1, a3.1, a4.1, a5.1, a6.1, a7.1⟩, a7.2)
theorem S_Reply : StructT Tryz.prog 55 15 := ⟨⟨_, Tryz.underlying55⟩, by kernel_rfl⟩
theorem B_Reply : BuildT Tryz.prog 55 [1, 1, 1, 1, 1, 1, 4, 5] := by
  obtain ⟨i, hi, hz, -, -⟩ := info_parts (by kernel_rfl : (Tryz.prog.info? 55).map (fun i => (i.zero, i.size, i.bytes)) = some (some (.agg #[.int .i64 0, .int .u64 0, .int .i64 0, .bool false, .slice none 0 0, .slice none 0 0, .int .i64 0, .int .i64 0, .slice none 0 0, .slice none 0 0, .int .i64 0, .int .i64 0, .slice none 0 0, .int .i64 0, .slice none 0 0]), 15, 216))
  exact ⟨_, i, _, [(0, 1), (1, 1), (2, 1), (3, 1), (4, 1), (5, 1), (6, 4), (10, 5)], Tryz.underlying55, hi, hz, rfl, by kernel_rfl, rfl, by decide⟩
theorem bd_Reply (a : Act) (dst : Option Tmp) (ty : TypeId) (pos : String) (after : Array Edge) (guard : Option (Nat × Bool)) (parts : Array (Nat × Operand)) : execOp a.eval { dst := dst, op := .build 55 parts, type := ty, pos := pos, after := after, guard := guard } = buildSem 55 (parts.map fun x => (x.1, a.eval x.2)) := rfl
theorem st_Reply (a : Act) (dst : Option Tmp) (ty : TypeId) (pos : String) (after : Array Edge) (guard : Option (Nat × Bool)) (x y : Operand) : execOp a.eval { dst := dst, op := .store 55 x y, type := ty, pos := pos, after := after, guard := guard } = storeSem 55 (a.eval x) (a.eval y) := rfl
section
attribute [local go_sem ↓] bd_Reply st_Reply
set_option maxRecDepth 100000 in
set_option maxHeartbeats 8000000 in
theorem gReply_c (rd : Nat) (p : Nat → Prop) (s : RdS) (w : World) (h : IsRd w 151 rd p s) (hpl : ∀ b, p b → b < w.heap.size) :
    Calls Tryz.prog 83 #[.agg #[.pointer (some ⟨rd, 0, none⟩)]] w (GetsS wGReply 151 rd p w (pGReply s)) := by
  have hlt := h.lt
  have hmf : ∀ (fn : Fn) (first cap : Array Value) (w : World), (Instr.makeFunc fn first cap).run Tryz.prog w = .ok (.func fn first cap) w := fun _ _ _ _ => rfl
  have hsz : (w.alloc (.cells #[.pointer (some ⟨rd, 0, none⟩)] 154)).heap.size = w.heap.size + 1 := by simp
  have rowB : RowIs ((w.alloc (.cells #[.pointer (some ⟨rd, 0, none⟩)] 154)).alloc (.cells #[.int .i64 0, .int .u64 0, .int .i64 0, .bool false, .slice none 0 0, .slice none 0 0, .int .i64 0, .int .i64 0, .slice none 0 0, .slice none 0 0, .int .i64 0, .int .i64 0, .slice none 0 0, .int .i64 0, .slice none 0 0] 55)) w.heap.size 154 [.pointer (some ⟨rd, 0, none⟩)] := (RowIs.alloc w _ _).keep ((Keep.refl Nix _).alloc _) id
  have rowR : RowIs ((w.alloc (.cells #[.pointer (some ⟨rd, 0, none⟩)] 154)).alloc (.cells #[.int .i64 0, .int .u64 0, .int .i64 0, .bool false, .slice none 0 0, .slice none 0 0, .int .i64 0, .int .i64 0, .slice none 0 0, .slice none 0 0, .int .i64 0, .int .i64 0, .slice none 0 0, .int .i64 0, .slice none 0 0] 55)) (w.heap.size + 1) 55 [.int .i64 0, .int .u64 0, .int .i64 0, .bool false, .slice none 0 0, .slice none 0 0, .int .i64 0, .int .i64 0, .slice none 0 0, .slice none 0 0, .int .i64 0, .int .i64 0, .slice none 0 0, .int .i64 0, .slice none 0 0] := by
    rw [← hsz]
    exact RowIs.alloc (w.alloc (.cells #[.pointer (some ⟨rd, 0, none⟩)] 154)) _ _
  have hr := h.nix (((Keep.refl Nix w).alloc (.cells #[.pointer (some ⟨rd, 0, none⟩)] 154)).alloc (.cells #[.int .i64 0, .int .u64 0, .int .i64 0, .bool false, .slice none 0 0, .slice none 0 0, .int .i64 0, .int .i64 0, .slice none 0 0, .slice none 0 0, .int .i64 0, .int .i64 0, .slice none 0 0, .int .i64 0, .slice none 0 0] 55))
  have kk : Keep (· = rd) w ((w.alloc (.cells #[.pointer (some ⟨rd, 0, none⟩)] 154)).alloc (.cells #[.int .i64 0, .int .u64 0, .int .i64 0, .bool false, .slice none 0 0, .slice none 0 0, .int .i64 0, .int .i64 0, .slice none 0 0, .slice none 0 0, .int .i64 0, .int .i64 0, .slice none 0 0, .int .i64 0, .slice none 0 0] 55)) := ((Keep.refl (· = rd) w).alloc _).alloc _
  clear h hsz
  replace rowB := rowB.same (w' := ((w.alloc (.cells #[.pointer (some ⟨rd, 0, none⟩)] 154)).alloc (.cells #[.int .i64 0, .int .u64 0, .int .i64 0, .bool false, .slice none 0 0, .slice none 0 0, .int .i64 0, .int .i64 0, .slice none 0 0, .slice none 0 0, .int .i64 0, .int .i64 0, .slice none 0 0, .int .i64 0, .slice none 0 0] 55)).drew)
  replace rowR := rowR.same (w' := ((w.alloc (.cells #[.pointer (some ⟨rd, 0, none⟩)] 154)).alloc (.cells #[.int .i64 0, .int .u64 0, .int .i64 0, .bool false, .slice none 0 0, .slice none 0 0, .int .i64 0, .int .i64 0, .slice none 0 0, .slice none 0 0, .int .i64 0, .int .i64 0, .slice none 0 0, .int .i64 0, .slice none 0 0] 55)).drew)
  replace hr := hr.same (w' := ((w.alloc (.cells #[.pointer (some ⟨rd, 0, none⟩)] 154)).alloc (.cells #[.int .i64 0, .int .u64 0, .int .i64 0, .bool false, .slice none 0 0, .slice none 0 0, .int .i64 0, .int .i64 0, .slice none 0 0, .slice none 0 0, .int .i64 0, .int .i64 0, .slice none 0 0, .int .i64 0, .slice none 0 0] 55)).drew)
  replace kk := kk.drew
  go_enter Tryz.func83, Tryz.ntmps83
  go_wp2_with fail
  refine wp_region_held_drew (S := (fun w' => w'.cell? ⟨w.heap.size, 0, none⟩ = some (.pointer (some ⟨rd, 0, none⟩)))) (by kernel_rfl) (rowB.cell 0) (fun hHeld => ?_)
  refine wpAnyH_take (i := 0) (v := ?_) rfl (by kernel_rfl) (by kernel_rfl) (by kernel_rfl) (fun _ _ _ h => h) (Or.inl ⟨by rfl, ?_⟩) hHeld ?_
  rotate_left
  · intro w' hSw
    (try dsimp only at hSw)
    go_simp
    try with_reducible rfl
  (try simp only [Act.put]); (try simp only [List.setIfInBounds_toArray]); (try simp only [List.set_cons_succ]); (try simp only [List.set_cons_zero])
  refine wpAnyH_take (i := 2) (v := ?_) rfl (by kernel_rfl) (by kernel_rfl) (by kernel_rfl) (fun _ _ _ h => h) (Or.inl ⟨by rfl, ?_⟩) hHeld ?_
  rotate_left
  · intro w' hSw
    (try dsimp only at hSw)
    go_simp
    try with_reducible rfl
  (try simp only [Act.put]); (try simp only [List.setIfInBounds_toArray]); (try simp only [List.set_cons_succ]); (try simp only [List.set_cons_zero])
  refine wpAnyH_take (i := 4) (v := ?_) rfl (by kernel_rfl) (by kernel_rfl) (by kernel_rfl) (fun _ _ _ h => h) (Or.inl ⟨by rfl, ?_⟩) hHeld ?_
  rotate_left
  · intro w' hSw
    (try dsimp only at hSw)
    go_simp
    try with_reducible rfl
  (try simp only [Act.put]); (try simp only [List.setIfInBounds_toArray]); (try simp only [List.set_cons_succ]); (try simp only [List.set_cons_zero])
  refine wpAnyH_take (i := 6) (v := ?_) rfl (by kernel_rfl) (by kernel_rfl) (by kernel_rfl) (fun _ _ _ h => h) (Or.inl ⟨by rfl, ?_⟩) hHeld ?_
  rotate_left
  · intro w' hSw
    (try dsimp only at hSw)
    go_simp
    try with_reducible rfl
  (try simp only [Act.put]); (try simp only [List.setIfInBounds_toArray]); (try simp only [List.set_cons_succ]); (try simp only [List.set_cons_zero])
  refine wpAnyH_take (i := 8) (v := ?_) rfl (by kernel_rfl) (by kernel_rfl) (by kernel_rfl) (fun _ _ _ h => h) (Or.inl ⟨by rfl, ?_⟩) hHeld ?_
  rotate_left
  · intro w' hSw
    (try dsimp only at hSw)
    go_simp
    try with_reducible rfl
  (try simp only [Act.put]); (try simp only [List.setIfInBounds_toArray]); (try simp only [List.set_cons_succ]); (try simp only [List.set_cons_zero])
  refine wpAnyH_take (i := 9) (v := ?_) rfl (by kernel_rfl) (by kernel_rfl) (by kernel_rfl) (fun _ _ _ h => h) (Or.inl ⟨by rfl, ?_⟩) hHeld ?_
  rotate_left
  · intro w' hSw
    (try dsimp only at hSw)
    go_simp
    try with_reducible rfl
  (try simp only [Act.put]); (try simp only [List.setIfInBounds_toArray]); (try simp only [List.set_cons_succ]); (try simp only [List.set_cons_zero])
  refine wpAnyH_take (i := 10) (v := ?_) rfl (by kernel_rfl) (by kernel_rfl) (by kernel_rfl) (fun _ _ _ h => h) (Or.inl ⟨by rfl, ?_⟩) hHeld ?_
  rotate_left
  · intro w' hSw
    (try dsimp only at hSw)
    go_simp
    try with_reducible rfl
  (try simp only [Act.put]); (try simp only [List.setIfInBounds_toArray]); (try simp only [List.set_cons_succ]); (try simp only [List.set_cons_zero])
  refine wpAnyH_take (i := 12) (v := ?_) rfl (by kernel_rfl) (by kernel_rfl) (by kernel_rfl) (fun _ _ _ h => h) (Or.inl ⟨by rfl, ?_⟩) hHeld ?_
  rotate_left
  · intro w' hSw
    (try dsimp only at hSw)
    go_simp
    try with_reducible rfl
  (try simp only [Act.put]); (try simp only [List.setIfInBounds_toArray]); (try simp only [List.set_cons_succ]); (try simp only [List.set_cons_zero])
  refine wpAnyH_take (i := 13) (v := ?_) rfl (by kernel_rfl) (by kernel_rfl) (by kernel_rfl) (fun _ _ _ h => h) (Or.inl ⟨by rfl, ?_⟩) hHeld ?_
  rotate_left
  · intro w' hSw
    (try dsimp only at hSw)
    go_simp
    try with_reducible rfl
  (try simp only [Act.put]); (try simp only [List.setIfInBounds_toArray]); (try simp only [List.set_cons_succ]); (try simp only [List.set_cons_zero])
  refine wpAnyH_take (i := 14) (v := ?_) rfl (by kernel_rfl) (by kernel_rfl) (by kernel_rfl) (fun _ _ _ h => h) (Or.inl ⟨by rfl, ?_⟩) hHeld ?_
  rotate_left
  · intro w' hSw
    (try dsimp only at hSw)
    go_simp
    try with_reducible rfl
  (try simp only [Act.put]); (try simp only [List.setIfInBounds_toArray]); (try simp only [List.set_cons_succ]); (try simp only [List.set_cons_zero])
  refine wpAnyH_take (i := 16) (v := ?_) rfl (by kernel_rfl) (by kernel_rfl) (by kernel_rfl) (fun _ _ _ h => h) (Or.inl ⟨by rfl, ?_⟩) hHeld ?_
  rotate_left
  · intro w' hSw
    (try dsimp only at hSw)
    go_simp
    try with_reducible rfl
  (try simp only [Act.put]); (try simp only [List.setIfInBounds_toArray]); (try simp only [List.set_cons_succ]); (try simp only [List.set_cons_zero])
  refine wpAnyH_take (i := 18) (v := ?_) rfl (by kernel_rfl) (by kernel_rfl) (by kernel_rfl) (fun _ _ _ h => h) (Or.inl ⟨by rfl, ?_⟩) hHeld ?_
  rotate_left
  · intro w' hSw
    (try dsimp only at hSw)
    go_simp
    try with_reducible rfl
  (try simp only [Act.put]); (try simp only [List.setIfInBounds_toArray]); (try simp only [List.set_cons_succ]); (try simp only [List.set_cons_zero])
  refine wpAnyH_ready (rs := [1]) (by kernel_rfl) (by simp) ?_
  refine AllReadyH.cons rfl (fun K hK => ?_) AllReadyH.nil
  go_simp
  go_fit (rint_g rd p _ _ hr)
  rintro e w1 ⟨rfl, hr', k0⟩
  have wf0 : Hid ((Lit.int .i64 (pInt s).1).wf = true) := zag_wf (numS_lt maxU _)
  generalize hy0 : pInt s = y0 at hr' wf0 ⊢
  replace hy0 := Lib.hid hy0
  have rowRl := rowR.lt
  replace rowB := rowB.keep k0 (by omega)
  replace rowR := rowR.keep k0 (by omega)
  replace kk := kk.trans k0
  replace hr := hr'
  clear hr' k0 rowRl
  go_wp2_with fail
  refine hK.out _ _ (rowB.cell 0) (fun hHeld => ?_)
  clear hK K
  (try simp only [Act.put]); (try simp only [List.setIfInBounds_toArray]); (try simp only [List.set_cons_succ]); (try simp only [List.set_cons_zero])
  refine wpAnyH_ready (rs := [3]) (by kernel_rfl) (by simp) ?_
  refine AllReadyH.cons rfl (fun K hK => ?_) AllReadyH.nil
  go_simp
  go_fit (rnum_g rd p _ _ hr)
  rintro e w2 ⟨rfl, hr', k1⟩
  have wf1 : Hid ((Lit.int .u64 (pNum y0.2).1).wf = true) := num_wf (numS_lt maxU _)
  generalize hy1 : pNum y0.2 = y1 at hr' wf1 ⊢
  replace hy1 := Lib.hid hy1
  have rowRl := rowR.lt
  replace rowB := rowB.keep k1 (by omega)
  replace rowR := rowR.keep k1 (by omega)
  replace kk := kk.trans k1
  replace hr := hr'
  clear hr' k1 rowRl
  go_wp2_with fail
  refine hK.out _ _ (rowB.cell 0) (fun hHeld => ?_)
  clear hK K
  (try simp only [Act.put]); (try simp only [List.setIfInBounds_toArray]); (try simp only [List.set_cons_succ]); (try simp only [List.set_cons_zero])
  refine wpAnyH_ready (rs := [5]) (by kernel_rfl) (by simp) ?_
  refine AllReadyH.cons rfl (fun K hK => ?_) AllReadyH.nil
  go_simp
  go_fit (rint_g rd p _ _ hr)
  rintro e w3 ⟨rfl, hr', k2⟩
  have wf2 : Hid ((Lit.int .i64 (pInt y1.2).1).wf = true) := zag_wf (numS_lt maxU _)
  generalize hy2 : pInt y1.2 = y2 at hr' wf2 ⊢
  replace hy2 := Lib.hid hy2
  have rowRl := rowR.lt
  replace rowB := rowB.keep k2 (by omega)
  replace rowR := rowR.keep k2 (by omega)
  replace kk := kk.trans k2
  replace hr := hr'
  clear hr' k2 rowRl
  go_wp2_with fail
  refine hK.out _ _ (rowB.cell 0) (fun hHeld => ?_)
  clear hK K
  (try simp only [Act.put]); (try simp only [List.setIfInBounds_toArray]); (try simp only [List.set_cons_succ]); (try simp only [List.set_cons_zero])
  refine wpAnyH_ready (rs := [7]) (by kernel_rfl) (by simp) ?_
  refine AllReadyH.cons rfl (fun K hK => ?_) AllReadyH.nil
  go_simp
  go_fit (rflag_g rd p _ _ hr)
  rintro e w4 ⟨rfl, hr', k3⟩
  generalize hy3 : pFlag y2.2 = y3 at hr' ⊢
  replace hy3 := Lib.hid hy3
  have rowRl := rowR.lt
  replace rowB := rowB.keep k3 (by omega)
  replace rowR := rowR.keep k3 (by omega)
  replace kk := kk.trans k3
  replace hr := hr'
  clear hr' k3 rowRl
  go_wp2_with fail
  refine hK.out _ _ (rowB.cell 0) (fun hHeld => ?_)
  clear hK K
  (try simp only [Act.put]); (try simp only [List.setIfInBounds_toArray]); (try simp only [List.set_cons_succ]); (try simp only [List.set_cons_zero])
  refine wpAnyH_ready (rs := [11]) (by kernel_rfl) (by simp) ?_
  refine AllReadyH.cons rfl (fun K hK => ?_) AllReadyH.nil
  go_simp
  go_fit (itPair_c rd p _ _ hr (fun b hb => Nat.lt_of_lt_of_le (hpl b hb) kk.size))
  rintro e w5 ⟨v, rfl, q4, hr', k4⟩
  generalize hy4 : (pList pGPair) y3.2 = y4 at hr' q4
  replace hy4 := Lib.hid hy4
  obtain ⟨a4, cc4, hv, q4'⟩ := rList_open q4
  simp only [List.cons.injEq, and_true] at hv
  subst hv
  clear q4
  have q4 := q4'
  clear q4'
  have rowRl := rowR.lt
  replace rowB := rowB.keep k4 (by omega)
  replace rowR := rowR.keep k4 (by omega)
  have hRl := rowRl
  replace kk := kk.trans k4
  replace q4 := (rList_lawful wGPair_lawful).mono q4 (fun b hb => (⟨by have := hb.1; omega, hb.2⟩ : NewAt (w.heap.size + 2) w5 b))
  clear hRl
  replace hr := hr'
  clear hr' k4 rowRl
  go_wp2_with fail
  refine hK.out _ _ (rowB.cell 0) (fun hHeld => ?_)
  clear hK K
  (try simp only [Act.put]); (try simp only [List.setIfInBounds_toArray]); (try simp only [List.set_cons_succ]); (try simp only [List.set_cons_zero])
  refine wpAnyH_ready (rs := [15]) (by kernel_rfl) (by simp) ?_
  refine AllReadyH.cons rfl (fun K hK => ?_) AllReadyH.nil
  go_simp
  go_fit (itnum_c rd p _ _ hr (fun b hb => Nat.lt_of_lt_of_le (hpl b hb) kk.size))
  rintro e w6 ⟨v, rfl, q5, hr', k5⟩
  generalize hy5 : (pList pNum) y4.2 = y5 at hr' q5
  replace hy5 := Lib.hid hy5
  obtain ⟨a5, cc5, hv, q5'⟩ := rList_open q5
  simp only [List.cons.injEq, and_true] at hv
  subst hv
  clear q5
  have q5 := q5'
  clear q5'
  have rowRl := rowR.lt
  replace q4 := (rList_lawful wGPair_lawful).mono ((rList_lawful wGPair_lawful).keep q4 k5 (fun b hb e => by have := hb.1; omega)) (fun b hb => (⟨hb.1, Nat.lt_of_lt_of_le hb.2 k5.size⟩ : NewAt (w.heap.size + 2) w6 b))
  replace rowB := rowB.keep k5 (by omega)
  replace rowR := rowR.keep k5 (by omega)
  have hRl := rowRl
  replace kk := kk.trans k5
  replace q5 := (rList_lawful (rInt_lawful _)).mono q5 (fun b hb => (⟨by have := hb.1; omega, hb.2⟩ : NewAt (w.heap.size + 2) w6 b))
  clear hRl
  replace hr := hr'
  clear hr' k5 rowRl
  go_wp2_with fail
  refine hK.out _ _ (rowB.cell 0) (fun hHeld => ?_)
  clear hK K
  (try simp only [Act.put]); (try simp only [List.setIfInBounds_toArray]); (try simp only [List.set_cons_succ]); (try simp only [List.set_cons_zero])
  refine wpAnyH_ready (rs := [17]) (by kernel_rfl) (by simp) ?_
  refine AllReadyH.cons rfl (fun K hK => ?_) AllReadyH.nil
  go_simp
  go_fit (gCatalog_c rd p _ _ hr (fun b hb => Nat.lt_of_lt_of_le (hpl b hb) kk.size))
  rintro e w7 ⟨c6, rfl, q6, ho6, hr', k6⟩
  have hl6 := Lib.hid (wGCatalog_lawful.len q6)
  replace ho6 := Lib.hid ho6
  generalize hy6 : pGCatalog y5.2 = y6 at hr' q6
  replace hy6 := Lib.hid hy6
  have rowRl := rowR.lt
  replace q4 := (rList_lawful wGPair_lawful).mono ((rList_lawful wGPair_lawful).keep q4 k6 (fun b hb e => by have := hb.1; omega)) (fun b hb => (⟨hb.1, Nat.lt_of_lt_of_le hb.2 k6.size⟩ : NewAt (w.heap.size + 2) w7 b))
  replace q5 := (rList_lawful (rInt_lawful _)).mono ((rList_lawful (rInt_lawful _)).keep q5 k6 (fun b hb e => by have := hb.1; omega)) (fun b hb => (⟨hb.1, Nat.lt_of_lt_of_le hb.2 k6.size⟩ : NewAt (w.heap.size + 2) w7 b))
  replace rowB := rowB.keep k6 (by omega)
  replace rowR := rowR.keep k6 (by omega)
  have hRl := rowRl
  replace kk := kk.trans k6
  replace q6 := wGCatalog_lawful.mono q6 (fun b hb => (⟨by have := hb.1; omega, hb.2⟩ : NewAt (w.heap.size + 2) w7 b))
  clear hRl
  replace hr := hr'
  clear hr' k6 rowRl
  go_wp2_with fail
  refine hK.out _ _ (rowB.cell 0) (fun hHeld => ?_)
  clear hK K
  (try simp only [Act.put]); (try simp only [List.setIfInBounds_toArray]); (try simp only [List.set_cons_succ]); (try simp only [List.set_cons_zero])
  refine wpAnyH_ready (rs := [19]) (by kernel_rfl) (by simp) ?_
  refine AllReadyH.cons rfl (fun K hK => ?_) AllReadyH.nil
  go_simp
  go_fit (gRoutes_c rd p _ _ hr (fun b hb => Nat.lt_of_lt_of_le (hpl b hb) kk.size))
  rintro e w8 ⟨c7, rfl, q7, ho7, hr', k7⟩
  have hl7 := Lib.hid (wGRoutes_lawful.len q7)
  replace ho7 := Lib.hid ho7
  generalize hy7 : pGRoutes y6.2 = y7 at hr' q7
  replace hy7 := Lib.hid hy7
  have rowRl := rowR.lt
  replace q4 := (rList_lawful wGPair_lawful).mono ((rList_lawful wGPair_lawful).keep q4 k7 (fun b hb e => by have := hb.1; omega)) (fun b hb => (⟨hb.1, Nat.lt_of_lt_of_le hb.2 k7.size⟩ : NewAt (w.heap.size + 2) w8 b))
  replace q5 := (rList_lawful (rInt_lawful _)).mono ((rList_lawful (rInt_lawful _)).keep q5 k7 (fun b hb e => by have := hb.1; omega)) (fun b hb => (⟨hb.1, Nat.lt_of_lt_of_le hb.2 k7.size⟩ : NewAt (w.heap.size + 2) w8 b))
  replace q6 := wGCatalog_lawful.mono (wGCatalog_lawful.keep q6 k7 (fun b hb e => by have := hb.1; omega)) (fun b hb => (⟨hb.1, Nat.lt_of_lt_of_le hb.2 k7.size⟩ : NewAt (w.heap.size + 2) w8 b))
  replace rowB := rowB.keep k7 (by omega)
  replace rowR := rowR.keep k7 (by omega)
  have hRl := rowRl
  replace kk := kk.trans k7
  replace q7 := wGRoutes_lawful.mono q7 (fun b hb => (⟨by have := hb.1; omega, hb.2⟩ : NewAt (w.heap.size + 2) w8 b))
  clear hRl
  replace hr := hr'
  clear hr' k7 rowRl
  go_wp2_with fail
  refine hK.out _ _ (rowB.cell 0) (fun hHeld => ?_)
  clear hK K
  (try simp only [Act.put]); (try simp only [List.setIfInBounds_toArray]); (try simp only [List.set_cons_succ]); (try simp only [List.set_cons_zero])
  have hbd := fun w' => build_run (P := Tryz.prog) B_Reply [.int .i64 y0.1, .int .u64 y1.1, .int .i64 y2.1, .bool y3.1, .slice a4 y4.1.length cc4, .slice a5 y5.1.length cc5, .agg c6.toArray, .agg c7.toArray] (by simp only [List.map_cons, List.map_nil, size_int, size_bool, size_slice, size_agg, hl6.out, hl7.out]) w'
  simp only [numbered, Nat.reduceAdd] at hbd
  refine wpAnyH_take (i := 20) (v := ?_) rfl (by kernel_rfl) (by kernel_rfl) (by kernel_rfl) (fun _ _ _ h => h) (Or.inl ⟨by rfl, ?_⟩) hHeld ?_
  rotate_left
  · intro w' hSw
    (try dsimp only at hSw)
    (try simp only [List.getElem_toArray]); (try simp only [List.getElem_cons_succ]); (try simp only [List.getElem_cons_zero])
    go_simp
    try with_reducible rfl
  (try simp only [Act.put]); (try simp only [List.setIfInBounds_toArray]); (try simp only [List.set_cons_succ]); (try simp only [List.set_cons_zero])
  refine wpAnyH_ready (rs := [21]) (by kernel_rfl) (by simp) ?_
  refine AllReadyH.cons rfl (fun K hK => ?_) AllReadyH.nil
  have hjl : (joined [.int .i64 y0.1, .int .u64 y1.1, .int .i64 y2.1, .bool y3.1, .slice a4 y4.1.length cc4, .slice a5 y5.1.length cc5, .agg c6.toArray, .agg c7.toArray]).length = 15 := by simp only [joined_len, joined_len0, size_int, size_bool, size_slice, size_agg, hl6.out, hl7.out]
  have hjo : ones (joined [.int .i64 y0.1, .int .u64 y1.1, .int .i64 y2.1, .bool y3.1, .slice a4 y4.1.length cc4, .slice a5 y5.1.length cc5, .agg c6.toArray, .agg c7.toArray]) = true := by simp only [joined_ones, joined_ones0, ones_int, ones_bool, ones_slice, ones_agg, ho6.out, ho7.out, Bool.and_self]
  have hst := store_run (P := Tryz.prog) S_Reply rowR rfl hjl hjo
  have rowF := rowR.setRow (joined [.int .i64 y0.1, .int .u64 y1.1, .int .i64 y2.1, .bool y3.1, .slice a4 y4.1.length cc4, .slice a5 y5.1.length cc5, .agg c6.toArray, .agg c7.toArray])
  have kS := (Keep.refl (· = w.heap.size + 1) w8).setRow (fun _ => rfl) (joined [.int .i64 y0.1, .int .u64 y1.1, .int .i64 y2.1, .bool y3.1, .slice a4 y4.1.length cc4, .slice a5 y5.1.length cc5, .agg c6.toArray, .agg c7.toArray]).toArray
  replace rowB := rowB.keep kS (by omega)
  have HJL := Lib.hid hjl
  have HJO := Lib.hid hjo
  clear hjl hjo
  (try simp only [List.getElem_toArray]); (try simp only [List.getElem_cons_succ]); (try simp only [List.getElem_cons_zero])
  go_simp
  clear hst
  refine hK.out _ _ (rowB.cell 0) (fun hHeld => ?_)
  clear hK K
  (try simp only [Act.put]); (try simp only [List.setIfInBounds_toArray]); (try simp only [List.set_cons_succ]); (try simp only [List.set_cons_zero])
  refine wpAnyH_done (by kernel_rfl) ?_ _
  clear hbd hmf hHeld
  go_wp2_with fail
  have hinfo : (Tryz.prog.info? 55).map (·.size) = some (joined [.int .i64 y0.1, .int .u64 y1.1, .int .i64 y2.1, .bool y3.1, .slice a4 y4.1.length cc4, .slice a5 y5.1.length cc5, .agg c6.toArray, .agg c7.toArray]).toArray.size := by rw [List.size_toArray, HJL.out]; exact S_Reply.info
  refine bodyPost_ret (results_cell_row (by rfl) _ _ _ _ _ _ _ (by rfl) rowF Tryz.underlying55 (by rfl) hinfo) rfl ?_
  replace q4 := (rList_lawful wGPair_lawful).mono ((rList_lawful wGPair_lawful).keep q4 kS (fun b hb e => by have := hb.1; omega)) (fun b hb => (⟨by have := hb.1; omega, Nat.lt_of_lt_of_le hb.2 kS.size⟩ : NewIn w (w8.setRow (w.heap.size + 1) (joined [.int .i64 y0.1, .int .u64 y1.1, .int .i64 y2.1, .bool y3.1, .slice a4 y4.1.length cc4, .slice a5 y5.1.length cc5, .agg c6.toArray, .agg c7.toArray]).toArray) b))
  replace q5 := (rList_lawful (rInt_lawful _)).mono ((rList_lawful (rInt_lawful _)).keep q5 kS (fun b hb e => by have := hb.1; omega)) (fun b hb => (⟨by have := hb.1; omega, Nat.lt_of_lt_of_le hb.2 kS.size⟩ : NewIn w (w8.setRow (w.heap.size + 1) (joined [.int .i64 y0.1, .int .u64 y1.1, .int .i64 y2.1, .bool y3.1, .slice a4 y4.1.length cc4, .slice a5 y5.1.length cc5, .agg c6.toArray, .agg c7.toArray]).toArray) b))
  replace q6 := wGCatalog_lawful.mono (wGCatalog_lawful.keep q6 kS (fun b hb e => by have := hb.1; omega)) (fun b hb => (⟨by have := hb.1; omega, Nat.lt_of_lt_of_le hb.2 kS.size⟩ : NewIn w (w8.setRow (w.heap.size + 1) (joined [.int .i64 y0.1, .int .u64 y1.1, .int .i64 y2.1, .bool y3.1, .slice a4 y4.1.length cc4, .slice a5 y5.1.length cc5, .agg c6.toArray, .agg c7.toArray]).toArray) b))
  replace q7 := wGRoutes_lawful.mono (wGRoutes_lawful.keep q7 kS (fun b hb e => by have := hb.1; omega)) (fun b hb => (⟨by have := hb.1; omega, Nat.lt_of_lt_of_le hb.2 kS.size⟩ : NewIn w (w8.setRow (w.heap.size + 1) (joined [.int .i64 y0.1, .int .u64 y1.1, .int .i64 y2.1, .bool y3.1, .slice a4 y4.1.length cc4, .slice a5 y5.1.length cc5, .agg c6.toArray, .agg c7.toArray]).toArray) b))
  have HE : pGReply s = (⟨y0.1, y1.1, y2.1, y3.1, y4.1, y5.1, y6.1, y7.1⟩, y7.2) := by simp only [pGReply, hy0.out, hy1.out, hy2.out, hy3.out, hy4.out, hy5.out, hy6.out, hy7.out]
  rw [HE]
  refine ⟨_, rfl, ⟨[_], [_], [_], [_], [_], [_], c6, c7, by simp [joined, Value.cells], ⟨rfl, wf0.out⟩, ⟨rfl, wf1.out⟩, ⟨rfl, wf2.out⟩, rfl, q4, q5, q6, q7⟩, HJO.out, hr.keep kS (by omega) (fun b hb e => by have := hpl b hb; omega), kk.then kS (fun i hi e => by omega)⟩
end
end Go.Proofs.YtibaehlfpgipfaaGreat
