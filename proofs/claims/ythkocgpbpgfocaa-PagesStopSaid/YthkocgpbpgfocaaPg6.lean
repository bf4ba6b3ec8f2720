/- THE LAW PagesNil, walked. Printed by mac.py. -/
import Derived.Test.YthkocgpbpgfocaaPg5
import Derived.Test.YthkocgpbpgfocaaSameA
import Derived.Lib.SmallJoins
namespace Go.Proofs.Ythkocgpbpgfocaa
open Go.RowKit Go.Shelf

theorem new_c (w : World) : Calls Try.prog 9 #[] w fun e w' => e = .returned (.pointer (some ⟨w.heap.size, 0, none⟩)) ∧ RowIs w' w.heap.size 65 [.slice none 0 0] ∧ Keep Nix w w' := by
  have row := RowIs.alloc w #[.slice none 0 0] 65
  have kk : Keep Nix w (w.alloc (.cells #[.slice none 0 0] 65)) := (Keep.refl Nix w).alloc _
  go_enter Try.func9, Try.ntmps9
  go_wp2
  go_ret
  exact ⟨rfl, row, kk⟩
set_option maxRecDepth 100000 in
set_option maxHeartbeats 1000000 in
theorem awake_c (w : World) : Calls Try.prog 10 #[] w fun e w' => e = .returned (.bool true) ∧ Keep Nix w w' := by
  go_enter Try.func10, Try.ntmps10
  go_wp2_with fail
  go_fit (new_c w)
  rintro e w1 ⟨rfl, row, kk⟩
  generalize hbD : w.heap.size = bD at *
  have kB : Keep Nix w1 ((w1.alloc (.cells #[.int .u8 98] 5 (1, 2))).alloc (.cells #[.int .u8 49] 5 (1, 2))) := ((Keep.refl Nix w1).alloc _).alloc _
  have hsz : (w1.alloc (.cells #[.int .u8 98] 5 (1, 2))).heap.size = w1.heap.size + 1 := by simp
  have hc1 := Go.Joins.run_convert_bytes_const_at (P := Try.prog) w1 27 5 #[.int .u8 98] 1 1 w1.heap.size rfl Try.underlying27 Try.underlying5
  have hc2 := Go.Joins.run_convert_bytes_const_at (P := Try.prog) (w1.alloc (.cells #[.int .u8 98] 5 (1, 2))) 27 5 #[.int .u8 49] 1 1 (w1.heap.size + 1) hsz.symm Try.underlying27 Try.underlying5
  have LA : Lies ((w1.alloc (.cells #[.int .u8 98] 5 (1, 2))).alloc (.cells #[.int .u8 49] 5 (1, 2))) (fun _ => True) (some ⟨w1.heap.size, 0, none⟩) (([98] : List UInt8).map bv) := fun _ => ⟨w1.heap.size, 0, rfl, trivial, by simp; omega, fun j u hu => by
    match j, hu with
    | 0, hu =>
      cases hu
      have k2 : Keep Nix (w1.alloc (.cells #[.int .u8 98] 5 (1, 2))) ((w1.alloc (.cells #[.int .u8 98] 5 (1, 2))).alloc (.cells #[.int .u8 49] 5 (1, 2))) := (Keep.refl Nix _).alloc _
      rw [k2.cell (p := ⟨w1.heap.size, 0 + 0, none⟩) (by simp) id, Go.Joins.cell_alloc_mark_at w1 _ _ _ _ _ rfl]; rfl⟩
  have LB2 : Lies ((w1.alloc (.cells #[.int .u8 98] 5 (1, 2))).alloc (.cells #[.int .u8 49] 5 (1, 2))) (fun _ => True) (some ⟨w1.heap.size + 1, 0, none⟩) (([49] : List UInt8).map bv) := fun _ => ⟨w1.heap.size + 1, 0, rfl, trivial, by simp, fun j u hu => by
    match j, hu with
    | 0, hu =>
      cases hu
      rw [Go.Joins.cell_alloc_mark_at (w1.alloc (.cells #[.int .u8 98] 5 (1, 2))) _ _ _ _ _ hsz.symm]; rfl⟩
  have hcall := put_first bD (some ⟨w1.heap.size, 0, none⟩) (some ⟨w1.heap.size + 1, 0, none⟩) 1 1 [98] [49] 0 ((w1.alloc (.cells #[.int .u8 98] 5 (1, 2))).alloc (.cells #[.int .u8 49] 5 (1, 2))) (row.keep kB id) LA LB2 (by simp) (by decide) (by decide)
  have hbD1 := row.lt
  clear LA LB2 row
  go_wp2_with fail
  go_fit hcall
  clear hcall
  rintro e w2 ⟨rfl, hp, k2⟩
  go_wp2_with fail
  go_fit (len_c bD [1] w2 hp (by decide) (by decide))
  rintro e w3 ⟨rfl, k3⟩
  go_wp2_with fail
  go_ret
  exact ⟨rfl, ((kk.trans kB).then k2 (fun i hi e => by omega)).trans k3⟩
theorem results_cell_bool {P : Program} {fn : Func} {p : Tmp} {ty : TypeId} (h : fn.results = #[.cell p ty]) (tmps : Array Value) (w : World) (g : Nat) (v : Value) (hp : tmps.getD p undef = .pointer (some ⟨g, 0, none⟩)) (hu : P.underlying ty = some .bool) (hc : w.cell? ⟨g, 0, none⟩ = some v) :
    (results fn tmps).run P w = .ok v w := by
  have hp' : tmps[p]?.getD undef = .pointer (some ⟨g, 0, none⟩) := by simpa using hp
  simp [results, h, hp', asAddr, loadVar, isAgg, run_underlying hu, hc]
set_option maxRecDepth 100000 in
set_option maxHeartbeats 4000000 in
theorem nil_walk (W : World) (x : GPair) (csp : List Value) (s : GSpan) (css : List Value) (hx : rGPair W (· < W.heap.size) csp x) (hs : rGSpan W (· < W.heap.size) css s) :
    Calls Try.prog 8 #[.agg csp.toArray, .agg css.toArray] W fun e w' => e = .returned (.bool true) ∧ Keep Nix W w' := by
  obtain ⟨aK, cK, aV, cV, rfl, -⟩ := rGPair_open hx
  obtain ⟨sF, dF, sT, dT, rfl, -⟩ := rGSpan_open hs
  have k1 := fun (w : World) (o : Obj) => (Keep.refl Nix w).alloc o
  have kk : Keep Nix W (((W.alloc (.cells #[.slice aK x.fKey.length cK, .slice aV x.fValue.length cV, .int .i64 x.fVersion] 29)).alloc (.cells #[.slice sF s.fFrom.length dF, .slice sT s.fTo.length dT] 37)).alloc (.cells #[.bool false] 4)) := ((k1 _ _).trans (k1 _ _)).trans (k1 _ _)
  have rowP : RowIs (((W.alloc (.cells #[.slice aK x.fKey.length cK, .slice aV x.fValue.length cV, .int .i64 x.fVersion] 29)).alloc (.cells #[.slice sF s.fFrom.length dF, .slice sT s.fTo.length dT] 37)).alloc (.cells #[.bool false] 4)) W.heap.size 29 [.slice aK x.fKey.length cK, .slice aV x.fValue.length cV, .int .i64 x.fVersion] := ((RowIs.alloc W _ _).keep (k1 _ _) id).keep (k1 _ _) id
  have rowS : RowIs (((W.alloc (.cells #[.slice aK x.fKey.length cK, .slice aV x.fValue.length cV, .int .i64 x.fVersion] 29)).alloc (.cells #[.slice sF s.fFrom.length dF, .slice sT s.fTo.length dT] 37)).alloc (.cells #[.bool false] 4)) (W.heap.size + 1) 37 [.slice sF s.fFrom.length dF, .slice sT s.fTo.length dT] := by
    have h := (RowIs.alloc (W.alloc (.cells #[.slice aK x.fKey.length cK, .slice aV x.fValue.length cV, .int .i64 x.fVersion] 29)) #[.slice sF s.fFrom.length dF, .slice sT s.fTo.length dT] 37).keep (k1 _ (.cells #[.bool false] 4)) id
    simpa using h
  have rowB : RowIs (((W.alloc (.cells #[.slice aK x.fKey.length cK, .slice aV x.fValue.length cV, .int .i64 x.fVersion] 29)).alloc (.cells #[.slice sF s.fFrom.length dF, .slice sT s.fTo.length dT] 37)).alloc (.cells #[.bool false] 4)) (W.heap.size + 1 + 1) 4 [.bool false] := by
    have h := RowIs.alloc ((W.alloc (.cells #[.slice aK x.fKey.length cK, .slice aV x.fValue.length cV, .int .i64 x.fVersion] 29)).alloc (.cells #[.slice sF s.fFrom.length dF, .slice sT s.fTo.length dT] 37)) #[.bool false] 4
    simpa using h
  clear hx hs k1
  refine calls_marks Try.func8 rfl ?_
  simp only [Try.ntmps8, List.size_toArray, List.length_cons, List.length_nil, Nat.reduceAdd, Nat.reduceSub, Array.replicate_succ, Array.replicate_zero, List.push_toArray, List.append_toArray, List.nil_append, List.cons_append]
  go_upto_region 1 with fail
  generalize (((W.alloc (.cells #[.slice aK x.fKey.length cK, .slice aV x.fValue.length cV, .int .i64 x.fVersion] 29)).alloc (.cells #[.slice sF s.fFrom.length dF, .slice sT s.fTo.length dT] 37)).alloc (.cells #[.bool false] 4)) = w1 at *
  generalize hbs : W.heap.size = bs at *
  have p0 := rowP.cell 0
  (try simp only [List.getElem?_cons_zero] at p0)
  go_wp2_with fail
  go_fit (get_nil (.slice aK x.fKey.length cK) w1)
  rintro e w2 ⟨rfl, k2⟩
  have rowZ := RowIs.alloc w2 #[.slice none 0 0, .slice none 0 0, .int .i64 0] 29
  have kA : Keep Nix w2 (w2.alloc (.cells #[.slice none 0 0, .slice none 0 0, .int .i64 0] 29)) := (Keep.refl Nix w2).alloc _
  replace k2 := k2.trans kA
  replace rowP := rowP.keep k2 id
  replace rowS := rowS.keep k2 id
  replace rowB := rowB.keep k2 id
  replace kk := kk.trans k2
  clear k2 kA p0
  go_upto_region 3 with fail
  generalize w2.alloc (.cells #[.slice none 0 0, .slice none 0 0, .int .i64 0] 29) = w3 at *
  generalize w2.heap.size = bz at *
  have s0 := rowS.cell 0
  (try simp only [List.getElem?_cons_zero] at s0)
  have s1 := rowS.cell 1
  (try simp only [List.getElem?_cons_succ] at s1); (try simp only [List.getElem?_cons_zero] at s1)
  go_wp2_with fail
  go_fit (scan_nil sF sT s.fFrom.length s.fTo.length dF dT true w3)
  rintro e w4 ⟨g, rfl, rowG, -, k2⟩
  replace rowP := rowP.keep k2 id
  replace rowS := rowS.keep k2 id
  replace rowB := rowB.keep k2 id
  replace rowZ := rowZ.keep k2 id
  replace kk := kk.trans k2
  clear k2 s0 s1
  have hnf : ∀ w', (binOp .eql 34 (.func (.func 37) #[] #[.pointer (some ⟨g, 0, none⟩)]) .nilFunc).run Try.prog w' = .ok (.bool false) w' := fun _ => by rfl
  go_wp2_with fail
  go_fit (awake_c w4)
  rintro e w5 ⟨rfl, k2⟩
  replace rowP := rowP.keep k2 id
  replace rowS := rowS.keep k2 id
  replace rowB := rowB.keep k2 id
  replace rowZ := rowZ.keep k2 id
  replace rowG := rowG.keep k2 id
  replace kk := kk.trans k2
  clear k2
  have hs5 := kk.size
  have hb5 := rowB.lt
  go_wp2_with fail
  refine range_nil g rfl rowG ?_
  rintro D w6 hD k2 hK
  replace rowP := rowP.keep k2 id
  replace rowS := rowS.keep k2 id
  replace rowB := rowB.keep k2 id
  replace rowZ := rowZ.keep k2 id
  replace kk := kk.trans k2
  clear k2 rowG hnf
  have p0 := rowP.cell 0
  (try simp only [List.getElem?_cons_zero] at p0)
  have p1 := rowP.cell 1
  (try simp only [List.getElem?_cons_succ] at p1); (try simp only [List.getElem?_cons_zero] at p1)
  have p2 := rowP.cell 2
  (try simp only [List.getElem?_cons_succ] at p2); (try simp only [List.getElem?_cons_zero] at p2)
  go_wp2_with fail
  go_fit (put_nil aK aV x.fKey.length x.fValue.length cK cV x.fVersion w6)
  rintro e w7 ⟨rfl, k2⟩
  clear p0 p1 p2
  replace rowP := rowP.keep k2 id
  replace rowS := rowS.keep k2 id
  replace rowB := rowB.keep k2 id
  replace rowZ := rowZ.keep k2 id
  replace kk := kk.trans k2
  replace hK := (k2.block D (by have := (Array.getElem?_eq_some_iff.1 hK).1; exact this) id).trans hK
  clear k2
  have p0 := rowP.cell 0
  (try simp only [List.getElem?_cons_zero] at p0)
  have p1 := rowP.cell 1
  (try simp only [List.getElem?_cons_succ] at p1); (try simp only [List.getElem?_cons_zero] at p1)
  have p2 := rowP.cell 2
  (try simp only [List.getElem?_cons_succ] at p2); (try simp only [List.getElem?_cons_zero] at p2)
  go_wp2_with fail
  go_fit (drop_nil (.slice aK x.fKey.length cK) w7)
  rintro e w8 ⟨rfl, rfl⟩
  clear p0 p1 p2
  have z0 := rowZ.cell 0
  (try simp only [List.getElem?_cons_zero] at z0)
  have z1 := rowZ.cell 1
  (try simp only [List.getElem?_cons_succ] at z1); (try simp only [List.getElem?_cons_zero] at z1)
  have z2 := rowZ.cell 2
  (try simp only [List.getElem?_cons_succ] at z2); (try simp only [List.getElem?_cons_zero] at z2)
  have hz0 : rGPair w7 (fun _ => True) [.slice none 0 0, .slice none 0 0, .int .i64 0] ⟨[], [], 0⟩ := rGPair_mk (x := ⟨[], [], 0⟩) _ _ ⟨fun h => absurd rfl h, Nat.zero_le _, Nat.zero_le _⟩ ⟨fun h => absurd rfl h, Nat.zero_le _, Nat.zero_le _⟩ (show isI64 0 by unfold isI64; omega)
  have hcall := sPair_c w7 ⟨[], [], 0⟩ [.slice none 0 0, .slice none 0 0, .int .i64 0] [.slice none 0 0, .slice none 0 0, .int .i64 0] hz0 hz0
  clear hz0
  go_wp2_with fail
  go_fit hcall
  rintro e w9 ⟨rfl, k2⟩
  clear hcall z0 z1 z2
  replace rowP := rowP.keep k2 id
  replace rowS := rowS.keep k2 id
  replace rowB := rowB.keep k2 id
  replace rowZ := rowZ.keep k2 id
  replace kk := kk.trans k2
  replace hK := (k2.block D (by have := (Array.getElem?_eq_some_iff.1 hK).1; exact this) id).trans hK
  clear k2
  have s0 := rowS.cell 0
  (try simp only [List.getElem?_cons_zero] at s0)
  have s1 := rowS.cell 1
  (try simp only [List.getElem?_cons_succ] at s1); (try simp only [List.getElem?_cons_zero] at s1)
  go_wp2_with fail
  go_fit (take_nil sF sT s.fFrom.length s.fTo.length dF dT w9)
  rintro e wA ⟨rfl, k2⟩
  clear s0 s1
  replace rowP := rowP.keep k2 id
  replace rowS := rowS.keep k2 id
  replace rowB := rowB.keep k2 id
  replace rowZ := rowZ.keep k2 id
  replace kk := kk.trans k2
  replace hK := (k2.block D (by have := (Array.getElem?_eq_some_iff.1 hK).1; exact this) id).trans hK
  clear k2
  go_wp2_with fail
  go_fit (len_nil wA)
  rintro e wB ⟨rfl, rfl⟩
  go_wp2_with fail
  go_fit (sizes_nil wA)
  rintro e wB ⟨rfl, rfl⟩
  have b0 := rowB.cell 0
  (try simp only [List.getElem?_cons_zero] at b0)
  have bf := rowB.frozen 0
  go_wp2_with fail
  go_fit (fork_nil wA)
  rintro e wB ⟨rfl, rfl⟩
  go_wp2_with fail
  have row9 := rowB.set 0 (.bool true)
  have kS : Keep (· = bs + 1 + 1) wA (wA.setCell ⟨bs + 1 + 1, 0, none⟩ (.bool true)) := (Keep.refl (· = bs + 1 + 1) wA).setCell (p := ⟨bs + 1 + 1, 0, none⟩) (fun _ => rfl) _
  have k9 := kk.then kS (fun i hi e => by omega)
  have hK9 := (kS.block D (Array.getElem?_eq_some_iff.1 hK).1 (by omega)).trans hK
  refine ⟨by simp, .inl ⟨_, _, rfl, run_takeDeferred hK9, ?_⟩⟩
  have hg := grownBy_putObj' (wA.setCell ⟨bs + 1 + 1, 0, none⟩ (.bool true)) D (.deferred none)
  have hc := cell_kept (row9.cell 0) hg (fun r e => by cases e; exact ⟨_, hK9, rfl⟩)
  exact ⟨_, results_cell_bool rfl _ _ (bs + 1 + 1) _ rfl Try.underlying4 hc, rfl, k9.grown hg (fun i e hi => by cases e; omega)⟩
namespace pagesNil
theorem walk {m0 m1 : Nat} (W : World) (v0 v1 : Value) (h0 : Arg Try.prog W m0 29 v0) (h1 : Arg Try.prog W m1 37 v1) :
    Calls Try.prog 8 #[v0, v1] W fun e w' => e = .returned (.bool true) ∧ Keep Nix W w' := by
  obtain ⟨csp, rfl, k⟩ := h0.struct Try.underlying29
  obtain ⟨x, hx, -⟩ := redGPair k
  obtain ⟨css, rfl, k'⟩ := h1.struct Try.underlying37
  obtain ⟨s, hs, -⟩ := redGSpan k'
  exact nil_walk W x csp s css hx hs
end pagesNil
end Go.Proofs.Ythkocgpbpgfocaa
