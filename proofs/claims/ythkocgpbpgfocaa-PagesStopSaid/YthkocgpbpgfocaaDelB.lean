/- slices.Delete of one element (B). Printed by genDel.py and mac.py. -/
import Derived.Test.YthkocgpbpgfocaaDelA
import Derived.Test.YthkocgpbpgfocaaInsB
import Derived.Deep.RegionLaw
import Derived.Lib.SliceRun
namespace Go.Proofs.Ythkocgpbpgfocaa
open Go.RowKit


set_option maxHeartbeats 4000000 in
set_option maxRecDepth 100000 in
theorem Del_rowB (w : World) (g cap n i j : Nat) (hij : j = i + 1) (cs : List Value) (row : RowIs w g 22 cs) (hcs : cs.length = cap) (hi : i < n) (hn : n ≤ cap) (_hm : cap ≤ 9223372036854775807) (h1 : ∀ u ∈ cs.take (n), u.oneCell' = true) :
    Calls Try.prog 54 #[.slice (some ⟨g, 0, none⟩) n cap, .int .i64 i, .int .i64 j] w (fun e w' => e = .returned (.slice (some ⟨g, 0, none⟩) (n - 1) cap) ∧ ∃ ds, RowIs w' g 22 ds ∧ ds.length = cs.length ∧ ds.take ((n - 1)) = cs.take (i) ++ (cs.drop ((i + 1))).take ((n - 1 - i)) ∧ Keep (· = g) w w') := by
  have hjn : j ≤ n := by omega
  obtain ⟨i0, z0, hi', hz0, hs', hby, hzs⟩ := T_lPages.info
  have T' : Try.prog.underlying 63 = some (.slice 22) := T_lPages.under
  have row1 : RowIs w.drew g 22 cs := row
  obtain ⟨news, hnews⟩ : ∃ news, news = (cs.drop ((i + 1))).take ((n - 1 - i)) := ⟨_, rfl⟩
  have hlen : news.length = (n - 1 - i) := by rw [hnews, List.length_take, List.length_drop, hcs]; omega
  have hsrc' : ∀ t u, news[t]? = some u → w.drew.cell? ⟨g, (i + 1) + t, none⟩ = some u := fun t u hu => by
    rw [row1.cell]
    rw [hnews] at hu
    have ht := (List.getElem?_eq_some_iff.1 hu).1
    rw [List.length_take] at ht
    rw [List.getElem?_take_of_lt (by omega), List.getElem?_drop] at hu
    exact hu
  obtain ⟨A, hA, hsrc⟩ : ∃ A : Addr, (if cap = j then (some ⟨g, 0, none⟩ : Option Addr) else some ⟨g, j, none⟩) = some A ∧ Hid (∀ t u, news[t]? = some u → w.drew.cell? (A.add t) = some u) := by
    by_cases h : cap = j
    · refine ⟨⟨g, 0, none⟩, by simp [h], fun t u hu => ?_⟩
      have h0 : news.length = 0 := by rw [hlen]; omega
      rw [List.length_eq_zero_iff.1 h0] at hu
      simp at hu
    · refine ⟨⟨g, j, none⟩, by simp [h], fun t u hu => ?_⟩
      rw [Addr.add_lit, hij]
      exact hsrc' t u hu
  have s2 : Hid (∀ u ∈ news, u.oneCell' = true) := fun u hu => h1 u (by
    have e : news = (cs.take (n)).drop ((i + 1)) := by rw [hnews, List.drop_take]; congr 1; omega
    rw [e] at hu
    exact List.mem_of_mem_drop hu)
  have s3 : Hid (∀ t, t < news.length → (w.drew.cell? ⟨g, 0 + i * 1 + t, none⟩).isSome = true ∧ w.drew.frozen? ⟨g, 0 + i * 1 + t, none⟩ = false) := fun t ht => by
    rw [row1.cell, row1.frozen]
    refine ⟨?_, rfl⟩
    rw [List.getElem?_eq_getElem (by omega)]; rfl
  have hlen' : Hid (news.length = (n - 1 - i)) := hlen
  obtain ⟨W1, hW1⟩ : ∃ W1, W1 = w.drew.setCells g (0 + i * 1) news := ⟨_, rfl⟩
  have row2 : RowIs W1 g 22 (cs.take (i) ++ news ++ cs.drop (i + news.length)) := by
    have h := RowIs.setCells news row1 (o := 0 + i * 1) (by omega)
    rw [hW1]
    rw [show 0 + i * 1 = i by omega] at h ⊢
    exact h
  have k1 : Keep (· = g) w W1 := by rw [hW1]; exact (Keep.refl (· = g) w).drew.trans (Keep.setCells g news _ _)
  obtain ⟨ds, hds⟩ : ∃ ds, ds = cs.take (i) ++ news ++ cs.drop (i + news.length) := ⟨_, rfl⟩
  rw [← hds] at row2
  have hdl : ds.length = cs.length := by rw [hds, List.length_append, List.length_append, List.length_take, List.length_drop]; omega
  have hzv : ∀ w, (zeroValue 22).run Try.prog w = .ok (.slice none 0 0) w := fun w => by kernel_rfl
  have hj1 : i + (n - j) = n - 1 := by omega
  have hcl : ∀ ty, (Builtin.clear_ #[63] ty #[.slice (some ⟨g, (i + (n - j)), none⟩) (n - (i + (n - j))) (cap - (i + (n - j)))]).run Try.prog W1 = .ok (.tuple #[]) (W1.setCells g ((i + (n - j))) [.slice none 0 0]) := fun ty => by
    rw [hj1, show n - (n - 1) = 1 by omega]
    exact run_clear_one W1 _ _ ty (.slice none 0 0) T' hzv g ((n - 1)) _ (fun j hj => by
      have hj : j < 1 := hj
      rw [row2.cell, List.getElem?_eq_getElem (by rw [hdl]; omega)]; rfl) (fun j hj => row2.frozen _) (fun v hv => List.all_eq_true.1 (show ([.slice none 0 0] : List Value).all Value.oneCell' = true from rfl) v hv)
  have k2 := k1.trans (Keep.setCells g [.slice none 0 0] W1 ((n - 1)))
  have hW : Hid (W1 = w.drew.setCells g (0 + i * 1) news) := hW1
  have hic : i ≤ cap := by omega
  have hjc : j ≤ cap := by omega
  have hlt : i < j := by omega
  have hin : i + (n - 1 - i) = n - 1 := by omega
  have HIN := Lib.hid hin
  have HDS := Lib.hid hds
  have HNW := Lib.hid hnews
  have HCS := Lib.hid hcs
  have HDL := Lib.hid hdl
  have HR2 := Lib.hid row2
  have HK2 := Lib.hid k2
  have HIJ := Lib.hid hij
  clear hj1 hij row1 hsrc' hnews hlen hW1 row2 hds hzv hin h1 k1 hcs hdl k2 row hz0 hby hzs
  go_enter Try.func54, Try.ntmps54
  go_wp2_with fail
  go_region_law (refine step_append_room rfl (.tmp 22) (.tmp 25) 63 rfl 22 i0 1 T' hi' hs' g 0 i cap (by simp [Act.eval, Act.put]) A (n - j) (cap - j) news (by simp [Act.eval, Act.put]) (by rw [hlen'.out, HIJ.out]; omega) hsrc.out s2.out (by omega) s3.out ?_; rw [← hW.out])
  go_wp2_with fail
  go_ret
  have hj1 : i + (n - j) = n - 1 := by have := HIJ.out; omega
  have row3 := RowIs.setCells [.slice none 0 0] HR2.out (o := (n - 1)) (by rw [HDL.out, HCS.out]; show (n - 1) + 1 ≤ _; omega)
  have k2 := HK2.out
  rw [hj1]
  refine ⟨rfl, _, row3, ?_, ?_, k2⟩
  · have := HDL.out
    have := HCS.out
    rw [List.length_append, List.length_append, List.length_take, List.length_drop]
    simp only [List.length_cons, List.length_nil]
    omega
  · have h2 : (n - 1) ≤ ds.length := by rw [HDL.out, HCS.out]; omega
    have h3 := HCS.out
    have h4 := hlen'.out
    have h5 := HIJ.out
    have hl : (cs.take (i) ++ news).length = (n - 1) := by rw [List.length_append, List.length_take, h4, h3]; omega
    have hl2 : ((cs.take (i) ++ news) ++ cs.drop (i + news.length)).take ((n - 1)) = cs.take (i) ++ news := List.take_left' hl
    rw [← HDS.out] at hl2
    rw [List.append_assoc, List.take_append_of_le_length (by rw [List.length_take]; omega), List.take_take, Nat.min_self, hl2, HNW.out]
/-- slices.Delete of one element of a row of one's own. -/
theorem Delete_cB (w : World) (base n c i j : Nat) (hij : j = i + 1) (a : Option Addr) (xs : List Value) (own : w.ownsRow base 22 1 (.slice a n c) n xs) (ho : ∀ u ∈ xs, u.oneCell' = true) (hi : i < n) :
    Calls Try.prog 54 #[.slice a n c, .int .i64 i, .int .i64 j] w (fun e w' => e = .returned (.slice a (n - 1) c) ∧ w'.ownsRow base 22 1 (.slice a (n - 1) c) (n - 1) (xs.take (i) ++ xs.drop ((i + 1))) ∧ Keep (OwnB (.slice a n c)) w w') := by
  obtain ⟨g, rest, rfl, hg, row, hrl, hxs, hnc, hcm⟩ := own_row own (by omega)
  have hml : cap_ok c := by unfold cap_ok; unfold maxLen at hcm; exact hcm
  have htk : (xs ++ rest).take (n) = xs := List.take_left' (by omega)
  refine (Del_rowB w g c n i j hij (xs ++ rest) row (by omega) hi hnc hml (by rw [htk]; exact ho)).mono ?_
  rintro e w' ⟨rfl, ds, row', hdl, hdt, kk⟩
  refine ⟨rfl, ?_, kk.mono (fun b hb => by rw [hb]; rfl)⟩
  have e1 : ds.take ((n - 1)) = xs.take (i) ++ xs.drop ((i + 1)) := by
    rw [hdt, List.take_append_of_le_length (by omega), List.drop_append_of_le_length (by omega), List.take_left' (by rw [List.length_drop]; omega)]
  have e2 : ds = (xs.take (i) ++ xs.drop ((i + 1))) ++ ds.drop ((n - 1)) := by rw [← e1, List.take_append_drop]
  rw [e2] at row'
  exact row_own row' hg (by rw [← e2, hdl, hrl]) (by rw [List.length_append, List.length_take, List.length_drop]; omega) (by omega) hcm
end Go.Proofs.Ythkocgpbpgfocaa
