/- SCHEMA: slices.Delete of one index. Printed by mac.py. -/
import Derived.Test.YtibaehlfpgipfaaGreatQZSchAll
import Derived.Deep.RegionLaw
import Derived.Lib.SliceRun
namespace Go.Proofs.YtibaehlfpgipfaaGreat
open Go.RowKit
theorem RowIs.setCells {b : Nat} {e : TypeId} : ∀ (vs : List Value) {w : World} {o : Nat} {cs : List Value}, RowIs w b e cs → o + vs.length ≤ cs.length → RowIs (w.setCells b o vs) b e (cs.take o ++ vs ++ cs.drop (o + vs.length))
 | [], w, o, cs, h, _ => by
  have e : cs.take o ++ [] ++ cs.drop (o + ([] : List Value).length) = cs := by simp
  rw [e]; exact h
 | v :: r, w, o, cs, h, hl => by
  simp only [List.length_cons] at hl
  have := RowIs.setCells r (h.set o v) (o := o + 1) (by rw [List.length_set]; omega)
  have e1 : (cs.set o v).take (o + 1) = cs.take o ++ [v] := by
   rw [List.take_succ_eq_append_getElem (by rw [List.length_set]; omega), List.getElem_set_self, List.take_set_of_le (Nat.le_refl _)]
  have e2 : (cs.set o v).drop (o + 1 + r.length) = cs.drop (o + (v :: r).length) := by
   rw [List.drop_set_of_lt (by omega), List.length_cons]; congr 1; omega
  rw [e1, e2] at this
  have e3 : cs.take o ++ [v] ++ r ++ cs.drop (o + (v :: r).length) = cs.take o ++ v :: r ++ cs.drop (o + (v :: r).length) := by simp
  rw [e3] at this
  exact this
theorem Keep.setCells (b : Nat) : ∀ (vs : List Value) (w : World) (o : Nat), Keep (· = b) w (w.setCells b o vs)
 | [], w, _ => Keep.refl _ w
 | v :: r, w, o => ((Keep.refl (· = b) w).setCell (p := ⟨b, o, none⟩) (fun _ => rfl) v).trans (Keep.setCells b r _ (o + 1))
theorem run_clear_one {P : Program} (w : World) (t e ty : TypeId) (z : Value) (ht : P.underlying t = some (.slice e)) (hv : ∀ w, (zeroValue e).run P w = .ok z w) (b o c : Nat)
  (hc : ∀ j, j < z.cells.size → (w.cell? ⟨b, o + j, none⟩).isSome = true) (hf : ∀ j, j < z.cells.size → w.frozen? ⟨b, o + j, none⟩ = false) (h1 : ∀ v ∈ z.cells.toList, v.oneCell' = true) :
  (Builtin.clear_ #[t] ty #[.slice (some ⟨b, o, none⟩) 1 c]).run P w = .ok (.tuple #[]) (w.setCells b o z.cells.toList) := by
 have hzc : (Builtin.zeroCells z.cells 1).toList = z.cells.toList := by
  apply List.ext_getElem
  ·simp [Builtin.zeroCells]
  ·intro i h1 h2
   simp at h2
   simp [Builtin.zeroCells, Nat.mod_eq_of_lt h2, h2]
 have hst := run_storeCells_cells (P := P) b o z.cells.toList 0 w (by simpa using hc) (by simpa using hf) h1
 simp only [Nat.add_zero] at hst
 simp [Builtin.clear_, run_underlying ht, hv, hzc, hst]
def RetCut (w : World) (g cap n i : Nat) (cs : List Value) (e : Ending) (w' : World) : Prop := e = .returned (.slice (some ⟨g, 0, none⟩) (n - 1) cap) ∧ ∃ ds, RowIs w' g 41 ds ∧ ds.length = cs.length ∧ ds.take ((n - 1) * 7) = cs.take (i * 7) ++ (cs.drop ((i + 1) * 7)).take ((n - 1 - i) * 7) ∧ Keep (· = g) w w'
set_option maxHeartbeats 4000000 in
set_option maxRecDepth 100000 in
theorem Delete_c (w : World) (g cap n i j : Nat) (hij : j = i + 1) (cs : List Value) (row : RowIs w g 41 cs) (hcs : cs.length = cap * 7) (hi : i < n) (hn : n ≤ cap) (_hm : cap ≤ 9223372036854775807) (h1 : ∀ u ∈ cs.take (n * 7), u.oneCell' = true) :
  Calls Tryz.prog 112 #[.slice (some ⟨g, 0, none⟩) n cap, .int .i64 i, .int .i64 j] w (RetCut w g cap n i cs) := by
 have hjn : j ≤ n := by omega
 obtain ⟨i0, z0, hi', hz0, hs', hby, hzs⟩ := T_lIndex.info
 have T' : Tryz.prog.underlying 48 = some (.slice 41) := T_lIndex.under
 have row1 : RowIs w.drew g 41 cs := row
 obtain ⟨news, hnews⟩ : ∃ news, news = (cs.drop ((i + 1) * 7)).take ((n - 1 - i) * 7) := ⟨_, rfl⟩
 have hlen : news.length = (n - 1 - i) * 7 := by rw [hnews, List.length_take, List.length_drop, hcs]; omega
 have hsrc' : ∀ t u, news[t]? = some u → w.drew.cell? ⟨g, (i + 1) * 7 + t, none⟩ = some u := fun t u hu => by
  rw [row1.cell]
  rw [hnews] at hu
  have ht := (List.getElem?_eq_some_iff.1 hu).1
  rw [List.length_take] at ht
  rw [List.getElem?_take_of_lt (by omega), List.getElem?_drop] at hu
  exact hu
 obtain ⟨A, hA, hsrc⟩ : ∃ A : Addr, (if cap = j then (some ⟨g, 0, none⟩ : Option Addr) else some ⟨g, j * 7, none⟩) = some A ∧ Hid (∀ t u, news[t]? = some u → w.drew.cell? (A.add t) = some u) := by
  by_cases h : cap = j
  ·refine ⟨⟨g, 0, none⟩, by simp [h], fun t u hu => ?_⟩
   have h0 : news.length = 0 := by rw [hlen]; omega
   rw [List.length_eq_zero_iff.1 h0] at hu
   simp at hu
  ·refine ⟨⟨g, j * 7, none⟩, by simp [h], fun t u hu => ?_⟩
   rw [Addr.add_lit, hij]
   exact hsrc' t u hu
 have s2 : Hid (∀ u ∈ news, u.oneCell' = true) := fun u hu => h1 u (by
  have e : news = (cs.take (n * 7)).drop ((i + 1) * 7) := by rw [hnews, List.drop_take]; congr 1; omega
  rw [e] at hu
  exact List.mem_of_mem_drop hu)
 have s3 : Hid (∀ t, t < news.length → (w.drew.cell? ⟨g, 0 + i * 7 + t, none⟩).isSome = true ∧ w.drew.frozen? ⟨g, 0 + i * 7 + t, none⟩ = false) := fun t ht => by
  rw [row1.cell, row1.frozen, Nat.zero_add]
  refine ⟨?_, rfl⟩
  rw [List.getElem?_eq_getElem (by omega)]; rfl
 have hlen' : Hid (news.length = (n - 1 - i) * 7) := hlen
 obtain ⟨W1, hW1⟩ : ∃ W1, W1 = w.drew.setCells g (0 + i * 7) news := ⟨_, rfl⟩
 have row2 : RowIs W1 g 41 (cs.take (i * 7) ++ news ++ cs.drop (i * 7 + news.length)) := by rw [hW1, Nat.zero_add]; exact RowIs.setCells news row1 (by omega)
 have k1 : Keep (· = g) w W1 := by rw [hW1]; exact (Keep.refl (· = g) w).drew.trans (Keep.setCells g news _ _)
 obtain ⟨ds, hds⟩ : ∃ ds, ds = cs.take (i * 7) ++ news ++ cs.drop (i * 7 + news.length) := ⟨_, rfl⟩
 rw [← hds] at row2
 have hdl : ds.length = cs.length := by rw [hds, List.length_append, List.length_append, List.length_take, List.length_drop]; omega
 have hzv : ∀ w, (zeroValue 41).run Tryz.prog w = .ok (.agg #[.int .i64 0, .int .i64 0, .string { data := #[] }, .slice none 0 0, .bool false, .int .i64 0, .bool false]) w := fun w => by kernel_rfl
 have hj1 : i + (n - j) = n - 1 := by omega
 have hcl : ∀ ty, (Builtin.clear_ #[48] ty #[.slice (some ⟨g, (i + (n - j)) * 7, none⟩) (n - (i + (n - j))) (cap - (i + (n - j)))]).run Tryz.prog W1 = .ok (.tuple #[]) (W1.setCells g ((i + (n - j)) * 7) [.int .i64 0, .int .i64 0, .string { data := #[] }, .slice none 0 0, .bool false, .int .i64 0, .bool false]) := fun ty => by
  rw [hj1, show n - (n - 1) = 1 by omega]
  exact run_clear_one W1 _ _ ty (.agg #[.int .i64 0, .int .i64 0, .string { data := #[] }, .slice none 0 0, .bool false, .int .i64 0, .bool false]) T' hzv g ((n - 1) * 7) _ (fun j hj => by
   have hj : j < 7 := hj
   rw [row2.cell, List.getElem?_eq_getElem (by rw [hdl]; omega)]; rfl) (fun j hj => row2.frozen _) (fun v hv => List.all_eq_true.1 (show ([.int .i64 0, .int .i64 0, .string { data := #[] }, .slice none 0 0, .bool false, .int .i64 0, .bool false] : List Value).all Value.oneCell' = true from rfl) v hv)
 have k2 := k1.trans (Keep.setCells g [.int .i64 0, .int .i64 0, .string { data := #[] }, .slice none 0 0, .bool false, .int .i64 0, .bool false] W1 ((n - 1) * 7))
 have hW : Hid (W1 = w.drew.setCells g (0 + i * 7) news) := hW1
 have hic : i ≤ cap := by omega
 have hjc : j ≤ cap := by omega
 have hlt : i < j := by omega
 have hin : i + (n - 1 - i) = n - 1 := by omega
 have HIN := Lib.hid hin
 have HDS := Lib.hid hds
 have HNW := Lib.hid hnews
 have HCS := Lib.hid hcs
 have HDL := Lib.hid hdl
 have HR2 := Lib.hid row2
 have HK2 := Lib.hid k2
 have HIJ := Lib.hid hij
 clear hj1 hij row1 hsrc' hnews hlen hW1 row2 hds hzv hin h1 k1 hcs hdl k2 row hz0 hby hzs
 go_enter Tryz.func112, Tryz.ntmps112
 go_wp2_with fail
 go_region_law (refine step_append_room rfl (.tmp 22) (.tmp 25) 48 rfl 41 i0 7 T' hi' hs' g 0 i cap (by simp [Act.eval, Act.put]) A (n - j) (cap - j) news (by simp [Act.eval, Act.put]) (by rw [hlen'.out, HIJ.out]; omega) hsrc.out s2.out (by omega) s3.out ?_; rw [← hW.out])
 go_wp2_with fail
 go_ret
 have hj1 : i + (n - j) = n - 1 := by have := HIJ.out; omega
 have row3 := RowIs.setCells [.int .i64 0, .int .i64 0, .string { data := #[] }, .slice none 0 0, .bool false, .int .i64 0, .bool false] HR2.out (o := (n - 1) * 7) (by rw [HDL.out, HCS.out]; show (n - 1) * 7 + 7 ≤ _; omega)
 have k2 := HK2.out
 rw [hj1]
 unfold RetCut
 refine ⟨rfl, _, row3, ?_, ?_, k2⟩
 ·have := HDL.out
  have := HCS.out
  rw [List.length_append, List.length_append, List.length_take, List.length_drop]
  simp only [List.length_cons, List.length_nil]
  omega
 ·have h2 : (n - 1) * 7 ≤ ds.length := by rw [HDL.out, HCS.out]; omega
  have h3 := HCS.out
  have h4 := hlen'.out
  have h5 := HIJ.out
  have hl : (cs.take (i * 7) ++ news).length = (n - 1) * 7 := by rw [List.length_append, List.length_take, h4, h3]; omega
  have hl2 : ((cs.take (i * 7) ++ news) ++ cs.drop (i * 7 + news.length)).take ((n - 1) * 7) = cs.take (i * 7) ++ news := List.take_left' hl
  rw [← HDS.out] at hl2
  rw [List.append_assoc, List.take_append_of_le_length (by rw [List.length_take]; omega), List.take_take, Nat.min_self, hl2, HNW.out]
end Go.Proofs.YtibaehlfpgipfaaGreat
