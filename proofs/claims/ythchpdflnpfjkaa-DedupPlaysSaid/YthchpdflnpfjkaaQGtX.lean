/- LISTS OF A READER: package wire's items[T]. Printed by gen8.py. -/
import Derived.Test.YthchpdflnpfjkaaQItems
import Derived.Deep.RegionHeld3
namespace Go.Proofs.Ythchpdflnpfjkaa
open Go.RowKit

end Go.Proofs.Ythchpdflnpfjkaa
namespace Go.Proofs.Ythchpdflnpfjkaa
open Go.RowKit

end Go.Proofs.Ythchpdflnpfjkaa
namespace Go.Proofs.Ythchpdflnpfjkaa
open Go.RowKit

def pGCall : Ps GCall := fun s0 =>
  let a0 := pNum s0
  let a1 := pNum a0.2
  let a2 := pBytes a1.2
  (⟨a0.1, a1.1, a2.1⟩, a2.2)
theorem S_Call : StructT Try.prog 35 3 := ⟨⟨_, Try.underlying35⟩, by kernel_rfl⟩
theorem B_Call : BuildT Try.prog 35 [1, 1, 1] := by
  obtain ⟨i, hi, hz, -, -⟩ := info_parts (by kernel_rfl : (Try.prog.info? 35).map (fun i => (i.zero, i.size, i.bytes)) = some (some (.agg #[.int .u64 0, .int .u64 0, .slice none 0 0]), 3, 40))
  exact ⟨_, i, _, [(0, 1), (1, 1), (2, 1)], Try.underlying35, hi, hz, rfl, by kernel_rfl, rfl, by decide⟩
theorem bd_Call (a : Act) (dst : Option Tmp) (ty : TypeId) (pos : String) (after : Array Edge) (guard : Option (Nat × Bool)) (parts : Array (Nat × Operand)) : execOp a.eval { dst := dst, op := .build 35 parts, type := ty, pos := pos, after := after, guard := guard } = buildSem 35 (parts.map fun x => (x.1, a.eval x.2)) := rfl
theorem st_Call (a : Act) (dst : Option Tmp) (ty : TypeId) (pos : String) (after : Array Edge) (guard : Option (Nat × Bool)) (x y : Operand) : execOp a.eval { dst := dst, op := .store 35 x y, type := ty, pos := pos, after := after, guard := guard } = storeSem 35 (a.eval x) (a.eval y) := rfl
section
attribute [local go_sem ↓] bd_Call st_Call
set_option maxRecDepth 100000 in
set_option maxHeartbeats 8000000 in
theorem gCall_c (rd : Nat) (p : Nat → Prop) (s : RdS) (w : World) (h : IsRd w 99 rd p s) (hpl : ∀ b, p b → b < w.heap.size) :
    Calls Try.prog 45 #[.agg #[.pointer (some ⟨rd, 0, none⟩)]] w (GetsS wGCall 99 rd p w (pGCall s)) := by
  have hlt := h.lt
  have hmf : ∀ (fn : Fn) (first cap : Array Value) (w : World), (Instr.makeFunc fn first cap).run Try.prog w = .ok (.func fn first cap) w := fun _ _ _ _ => rfl
  have hsz : (w.alloc (.cells #[.pointer (some ⟨rd, 0, none⟩)] 92)).heap.size = w.heap.size + 1 := by simp
  have rowB : RowIs ((w.alloc (.cells #[.pointer (some ⟨rd, 0, none⟩)] 92)).alloc (.cells #[.int .u64 0, .int .u64 0, .slice none 0 0] 35)) w.heap.size 92 [.pointer (some ⟨rd, 0, none⟩)] := (RowIs.alloc w _ _).keep ((Keep.refl Nix _).alloc _) id
  have rowR : RowIs ((w.alloc (.cells #[.pointer (some ⟨rd, 0, none⟩)] 92)).alloc (.cells #[.int .u64 0, .int .u64 0, .slice none 0 0] 35)) (w.heap.size + 1) 35 [.int .u64 0, .int .u64 0, .slice none 0 0] := by
    rw [← hsz]
    exact RowIs.alloc (w.alloc (.cells #[.pointer (some ⟨rd, 0, none⟩)] 92)) _ _
  have hr := h.nix (((Keep.refl Nix w).alloc (.cells #[.pointer (some ⟨rd, 0, none⟩)] 92)).alloc (.cells #[.int .u64 0, .int .u64 0, .slice none 0 0] 35))
  have kk : Keep (· = rd) w ((w.alloc (.cells #[.pointer (some ⟨rd, 0, none⟩)] 92)).alloc (.cells #[.int .u64 0, .int .u64 0, .slice none 0 0] 35)) := ((Keep.refl (· = rd) w).alloc _).alloc _
  clear h hsz
  replace rowB := rowB.same (w' := ((w.alloc (.cells #[.pointer (some ⟨rd, 0, none⟩)] 92)).alloc (.cells #[.int .u64 0, .int .u64 0, .slice none 0 0] 35)).drew)
  replace rowR := rowR.same (w' := ((w.alloc (.cells #[.pointer (some ⟨rd, 0, none⟩)] 92)).alloc (.cells #[.int .u64 0, .int .u64 0, .slice none 0 0] 35)).drew)
  replace hr := hr.same (w' := ((w.alloc (.cells #[.pointer (some ⟨rd, 0, none⟩)] 92)).alloc (.cells #[.int .u64 0, .int .u64 0, .slice none 0 0] 35)).drew)
  replace kk := kk.drew
  go_enter Try.func45, Try.ntmps45
  go_wp2_with fail
  refine wp_region_held_drew (S := (fun w' => w'.cell? ⟨w.heap.size, 0, none⟩ = some (.pointer (some ⟨rd, 0, none⟩)))) (by kernel_rfl) (rowB.cell 0) (fun hHeld => ?_)
  refine wpAnyH_take (i := 0) (v := ?_) rfl (by kernel_rfl) (by kernel_rfl) (by kernel_rfl) (fun _ _ _ h => h) (Or.inl ⟨by rfl, ?_⟩) hHeld ?_
  rotate_left
  · intro w' hSw
    (try dsimp only at hSw)
    go_simp
    try with_reducible rfl
  (try simp only [Act.put]); (try simp only [List.setIfInBounds_toArray]); (try simp only [List.set_cons_succ]); (try simp only [List.set_cons_zero])
  refine wpAnyH_take (i := 2) (v := ?_) rfl (by kernel_rfl) (by kernel_rfl) (by kernel_rfl) (fun _ _ _ h => h) (Or.inl ⟨by rfl, ?_⟩) hHeld ?_
  rotate_left
  · intro w' hSw
    (try dsimp only at hSw)
    go_simp
    try with_reducible rfl
  (try simp only [Act.put]); (try simp only [List.setIfInBounds_toArray]); (try simp only [List.set_cons_succ]); (try simp only [List.set_cons_zero])
  refine wpAnyH_take (i := 4) (v := ?_) rfl (by kernel_rfl) (by kernel_rfl) (by kernel_rfl) (fun _ _ _ h => h) (Or.inl ⟨by rfl, ?_⟩) hHeld ?_
  rotate_left
  · intro w' hSw
    (try dsimp only at hSw)
    go_simp
    try with_reducible rfl
  (try simp only [Act.put]); (try simp only [List.setIfInBounds_toArray]); (try simp only [List.set_cons_succ]); (try simp only [List.set_cons_zero])
  refine wpAnyH_ready (rs := [1]) (by kernel_rfl) (by simp) ?_
  refine AllReadyH.cons rfl (fun K hK => ?_) AllReadyH.nil
  go_simp
  go_fit (rnum_g rd p _ _ hr)
  rintro e w1 ⟨rfl, hr', k0⟩
  have wf0 : Hid ((Lit.int .u64 (pNum s).1).wf = true) := num_wf (numS_lt maxU _)
  generalize hy0 : pNum s = y0 at hr' wf0 ⊢
  replace hy0 := Lib.hid hy0
  have rowRl := rowR.lt
  replace rowB := rowB.keep k0 (by omega)
  replace rowR := rowR.keep k0 (by omega)
  replace kk := kk.trans k0
  replace hr := hr'
  clear hr' k0 rowRl
  go_wp2_with fail
  refine hK.out _ _ (rowB.cell 0) (fun hHeld => ?_)
  clear hK K
  (try simp only [Act.put]); (try simp only [List.setIfInBounds_toArray]); (try simp only [List.set_cons_succ]); (try simp only [List.set_cons_zero])
  refine wpAnyH_ready (rs := [3]) (by kernel_rfl) (by simp) ?_
  refine AllReadyH.cons rfl (fun K hK => ?_) AllReadyH.nil
  go_simp
  go_fit (rnum_g rd p _ _ hr)
  rintro e w2 ⟨rfl, hr', k1⟩
  have wf1 : Hid ((Lit.int .u64 (pNum y0.2).1).wf = true) := num_wf (numS_lt maxU _)
  generalize hy1 : pNum y0.2 = y1 at hr' wf1 ⊢
  replace hy1 := Lib.hid hy1
  have rowRl := rowR.lt
  replace rowB := rowB.keep k1 (by omega)
  replace rowR := rowR.keep k1 (by omega)
  replace kk := kk.trans k1
  replace hr := hr'
  clear hr' k1 rowRl
  go_wp2_with fail
  refine hK.out _ _ (rowB.cell 0) (fun hHeld => ?_)
  clear hK K
  (try simp only [Act.put]); (try simp only [List.setIfInBounds_toArray]); (try simp only [List.set_cons_succ]); (try simp only [List.set_cons_zero])
  refine wpAnyH_ready (rs := [5]) (by kernel_rfl) (by simp) ?_
  refine AllReadyH.cons rfl (fun K hK => ?_) AllReadyH.nil
  go_simp
  go_fit (rbytes_g rd p _ _ hr)
  rintro e w3 ⟨v, rfl, q2, hr', k2⟩
  generalize hy2 : pBytes y1.2 = y2 at hr' q2
  replace hy2 := Lib.hid hy2
  obtain ⟨a2, cc2, hv, q2'⟩ := rBytesW_open q2
  simp only [List.cons.injEq, and_true] at hv
  subst hv
  clear q2
  have q2 := q2'
  clear q2'
  have rowRl := rowR.lt
  replace rowB := rowB.keep k2 (by omega)
  replace rowR := rowR.keep k2 (by omega)
  have hRl := rowRl
  replace kk := kk.trans k2
  replace q2 := rBytesW_lawful.mono q2 (fun b hb => (⟨by have := hb.1; omega, hb.2⟩ : NewAt (w.heap.size + 2) w3 b))
  clear hRl
  replace hr := hr'
  clear hr' k2 rowRl
  go_wp2_with fail
  refine hK.out _ _ (rowB.cell 0) (fun hHeld => ?_)
  clear hK K
  (try simp only [Act.put]); (try simp only [List.setIfInBounds_toArray]); (try simp only [List.set_cons_succ]); (try simp only [List.set_cons_zero])
  have hbd := fun w' => build_run (P := Try.prog) B_Call [.int .u64 y0.1, .int .u64 y1.1, .slice a2 y2.1.length cc2] (by simp only [List.map_cons, List.map_nil, size_int, size_slice]) w'
  simp only [numbered, Nat.reduceAdd] at hbd
  refine wpAnyH_take (i := 6) (v := ?_) rfl (by kernel_rfl) (by kernel_rfl) (by kernel_rfl) (fun _ _ _ h => h) (Or.inl ⟨by rfl, ?_⟩) hHeld ?_
  rotate_left
  · intro w' hSw
    (try dsimp only at hSw)
    (try simp only [List.getElem_toArray]); (try simp only [List.getElem_cons_succ]); (try simp only [List.getElem_cons_zero])
    go_simp
    try with_reducible rfl
  (try simp only [Act.put]); (try simp only [List.setIfInBounds_toArray]); (try simp only [List.set_cons_succ]); (try simp only [List.set_cons_zero])
  refine wpAnyH_ready (rs := [7]) (by kernel_rfl) (by simp) ?_
  refine AllReadyH.cons rfl (fun K hK => ?_) AllReadyH.nil
  have hjl : (joined [.int .u64 y0.1, .int .u64 y1.1, .slice a2 y2.1.length cc2]).length = 3 := by simp only [joined_len, joined_len0, size_int, size_slice]
  have hjo : ones (joined [.int .u64 y0.1, .int .u64 y1.1, .slice a2 y2.1.length cc2]) = true := by simp only [joined_ones, joined_ones0, ones_int, ones_slice, Bool.and_self]
  have hst := store_run (P := Try.prog) S_Call rowR rfl hjl hjo
  have rowF := rowR.setRow (joined [.int .u64 y0.1, .int .u64 y1.1, .slice a2 y2.1.length cc2])
  have kS := (Keep.refl (· = w.heap.size + 1) w3).setRow (fun _ => rfl) (joined [.int .u64 y0.1, .int .u64 y1.1, .slice a2 y2.1.length cc2]).toArray
  replace rowB := rowB.keep kS (by omega)
  have HJL := Lib.hid hjl
  have HJO := Lib.hid hjo
  clear hjl hjo
  (try simp only [List.getElem_toArray]); (try simp only [List.getElem_cons_succ]); (try simp only [List.getElem_cons_zero])
  go_simp
  clear hst
  refine hK.out _ _ (rowB.cell 0) (fun hHeld => ?_)
  clear hK K
  (try simp only [Act.put]); (try simp only [List.setIfInBounds_toArray]); (try simp only [List.set_cons_succ]); (try simp only [List.set_cons_zero])
  refine wpAnyH_done (by kernel_rfl) ?_ _
  clear hbd hmf hHeld
  go_wp2_with fail
  have hinfo : (Try.prog.info? 35).map (·.size) = some (joined [.int .u64 y0.1, .int .u64 y1.1, .slice a2 y2.1.length cc2]).toArray.size := by rw [List.size_toArray, HJL.out]; exact S_Call.info
  refine bodyPost_ret (results_cell_row (by rfl) _ _ _ _ _ _ _ (by rfl) rowF Try.underlying35 (by rfl) hinfo) rfl ?_
  replace q2 := rBytesW_lawful.mono (rBytesW_lawful.keep q2 kS (fun b hb e => by have := hb.1; omega)) (fun b hb => (⟨by have := hb.1; omega, Nat.lt_of_lt_of_le hb.2 kS.size⟩ : NewIn w (w3.setRow (w.heap.size + 1) (joined [.int .u64 y0.1, .int .u64 y1.1, .slice a2 y2.1.length cc2]).toArray) b))
  have HE : pGCall s = (⟨y0.1, y1.1, y2.1⟩, y2.2) := by simp only [pGCall, hy0.out, hy1.out, hy2.out]
  rw [HE]
  refine ⟨_, rfl, ⟨[_], [_], [_], by simp [joined, Value.cells], ⟨rfl, wf0.out⟩, ⟨rfl, wf1.out⟩, q2⟩, HJO.out, hr.keep kS (by omega) (fun b hb e => by have := hpl b hb; omega), kk.then kS (fun i hi e => by omega)⟩
end
end Go.Proofs.Ythchpdflnpfjkaa
namespace Go.Proofs.Ythchpdflnpfjkaa
open Go.RowKit

end Go.Proofs.Ythchpdflnpfjkaa
namespace Go.Proofs.Ythchpdflnpfjkaa
open Go.RowKit

end Go.Proofs.Ythchpdflnpfjkaa
