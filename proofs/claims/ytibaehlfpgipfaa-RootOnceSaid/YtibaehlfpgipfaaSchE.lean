/- SCHEMA: tables and indexes in memory of their own. Printed by gen26.py. -/
import Derived.Test.YtibaehlfpgipfaaSchAll
import Derived.Deep.RegionWith
namespace Go.Proofs.Ytibaehlfpgipfaa
open Go.RowKit

/-! ### readings that may be written -/
def rListW {α : Type} (R : RD α) : RD (List α) := fun w p cs l => ∃ (a : Option Addr) (cap : Nat) (css : List (List Value)), cs = [.slice a l.length cap] ∧ css.length = l.length ∧ LiesW w p a css.flatten ∧ l.length ≤ cap ∧ l.length ≤ far ∧ ∀ (i : Nat) (c : List Value) (x : α), css[i]? = some c → l[i]? = some x → R w p c x
theorem LiesW.keep {S p : Nat → Prop} {w w' : World} {a : Option Addr} {xs : List Value} (h : LiesW w p a xs) (k : Keep S w w') (hs : ∀ b, p b → ¬ S b) : LiesW w' p a xs := fun hx => by
  obtain ⟨b, off, h1, h2, h3, h4, h5⟩ := h hx
  exact ⟨b, off, h1, h2, Nat.lt_of_lt_of_le h3 k.size, fun j u hu => (k.cell (p := ⟨b, off + j, none⟩) h3 (hs b h2)).trans (h4 j u hu), fun j => (k.frozen (p := ⟨b, j, none⟩) h3 (hs b h2)).trans (h5 j)⟩
theorem LiesW.mono {p q : Nat → Prop} {w : World} {a : Option Addr} {xs : List Value} (h : LiesW w p a xs) (hq : ∀ b, p b → q b) : LiesW w q a xs := fun hx => by
  obtain ⟨b, off, h1, h2, h3⟩ := h hx
  exact ⟨b, off, h1, hq b h2, h3⟩
theorem rListW_lawful {α : Type} {R : RD α} {sz : Nat} (L : Lawful R sz) : Lawful (rListW R) 1 :=
  ⟨fun ⟨_, _, _, h, _⟩ => by rw [h]; rfl,
   fun ⟨a, cap, css, h, h1, hl, h2, h3, r⟩ k hs => ⟨a, cap, css, h, h1, hl.keep k hs, h2, h3, fun i c x hc hx => L.keep (r i c x hc hx) k hs⟩,
   fun ⟨a, cap, css, h, h1, hl, h2, h3, r⟩ hq => ⟨a, cap, css, h, h1, hl.mono hq, h2, h3, fun i c x hc hx => L.mono (r i c x hc hx) hq⟩⟩
theorem rListW_to {α : Type} {R : RD α} {w : World} {p : Nat → Prop} {cs : List Value} {l : List α} (h : rListW R w p cs l) : rList R w p cs l := by
  obtain ⟨a, cap, css, h, h1, hl, h2, h3, r⟩ := h
  exact ⟨a, cap, css, h, h1, hl.lies, h2, h3, r⟩
theorem rListW_open {α : Type} {R : RD α} {w : World} {p : Nat → Prop} {cs : List Value} {l : List α} (h : rListW R w p cs l) : ∃ a cap, cs = [.slice a l.length cap] ∧ rListW R w p [.slice a l.length cap] l := by
  obtain ⟨a, cap, css, rfl, h⟩ := h
  exact ⟨a, cap, rfl, a, cap, css, rfl, h⟩
theorem rListW_owned {α : Type} {R : RD α} {w : World} {q p : Nat → Prop} {base e sz : Nat} {a : Option Addr} {cap : Nat} {css : List (List Value)} {l : List α} (own : w.ownsRow base e sz (.slice a l.length cap) l.length css.flatten) (els : Els R w q css l) (hf : l.length ≤ far)
    (hR : ∀ (c : List Value) (x : α), R w q c x → R w p c x) (hp : ∀ b, base ≤ b → b < w.heap.size → p b) : rListW R w p [.slice a l.length cap] l := by
  refine ⟨a, cap, css, rfl, els.1, fun hx => ?_, (owned_bounds own).2.1, hf, fun i c x hc hx => hR c x (els.2 i c x hc hx)⟩
  obtain ⟨b, off, h1, h2, h3, h4⟩ := LiesW.of_owned own hx
  exact ⟨b, off, h1, hp b h2 h3, h3, h4⟩
def fGTable : RD GTable := fun w p cs x => ∃ c0 c1 c2 c3 : List Value, cs = List.flatten [c0, c1, c2, c3] ∧ (rInt .i64) w p c0 x.fID ∧ rStr w p c1 x.fName ∧ (rListW rGColumn) w p c2 x.fColumns ∧ (rListW (rInt .i64)) w p c3 x.fKey
theorem fGTable_to {w : World} {p : Nat → Prop} {cs : List Value} {x : GTable} (h : fGTable w p cs x) : rGTable w p cs x := by
  obtain ⟨c0, c1, c2, c3, h, h0, h1, h2, h3⟩ := h
  exact ⟨c0, c1, c2, c3, h, h0, h1, rListW_to h2, rListW_to h3⟩
theorem fGTable_lawful : Lawful fGTable 4 :=
  ⟨fun h => rGTable_lawful.len (fGTable_to h),
   fun ⟨c0, c1, c2, c3, h, h0, h1, h2, h3⟩ k hs => ⟨c0, c1, c2, c3, h, (rInt_lawful _).keep h0 k hs, rStr_lawful.keep h1 k hs, (rListW_lawful rGColumn_lawful).keep h2 k hs, (rListW_lawful (rInt_lawful _)).keep h3 k hs⟩,
   fun ⟨c0, c1, c2, c3, h, h0, h1, h2, h3⟩ hq => ⟨c0, c1, c2, c3, h, (rInt_lawful _).mono h0 hq, rStr_lawful.mono h1 hq, (rListW_lawful rGColumn_lawful).mono h2 hq, (rListW_lawful (rInt_lawful _)).mono h3 hq⟩⟩
def fGIndex : RD GIndex := fun w p cs x => ∃ c0 c1 c2 c3 c4 c5 c6 : List Value, cs = List.flatten [c0, c1, c2, c3, c4, c5, c6] ∧ (rInt .i64) w p c0 x.fID ∧ (rInt .i64) w p c1 x.fTable ∧ rStr w p c2 x.fName ∧ (rListW (rInt .i64)) w p c3 x.fColumns ∧ rBool w p c4 x.fUnique ∧ (rInt .i64) w p c5 x.fState ∧ rBool w p c6 x.fBad
theorem fGIndex_to {w : World} {p : Nat → Prop} {cs : List Value} {x : GIndex} (h : fGIndex w p cs x) : rGIndex w p cs x := by
  obtain ⟨c0, c1, c2, c3, c4, c5, c6, h, h0, h1, h2, h3, h4⟩ := h
  exact ⟨c0, c1, c2, c3, c4, c5, c6, h, h0, h1, h2, rListW_to h3, h4⟩
theorem fGIndex_lawful : Lawful fGIndex 7 :=
  ⟨fun h => rGIndex_lawful.len (fGIndex_to h),
   fun ⟨c0, c1, c2, c3, c4, c5, c6, h, h0, h1, h2, h3, h4⟩ k hs => ⟨c0, c1, c2, c3, c4, c5, c6, h, h0, h1, h2, (rListW_lawful (rInt_lawful _)).keep h3 k hs, h4⟩,
   fun ⟨c0, c1, c2, c3, c4, c5, c6, h, h0, h1, h2, h3, h4⟩ hq => ⟨c0, c1, c2, c3, c4, c5, c6, h, h0, h1, h2, (rListW_lawful (rInt_lawful _)).mono h3 hq, h4⟩⟩
theorem rGColumn_any {w : World} {p q : Nat → Prop} {c : List Value} {x : GColumn} (h : rGColumn w p c x) : rGColumn w q c x := h
theorem rInt_any {k : IntKind} {w : World} {p q : Nat → Prop} {c : List Value} {x : Int} (h : rInt k w p c x) : rInt k w q c x := h
/-- A struct that is new. -/
def Ret {α : Type} (R : RD α) (w : World) (x : α) (e : Ending) (w' : World) : Prop := ∃ cs : List Value, e = .returned (.agg cs.toArray) ∧ R w' (NewIn w w') cs x ∧ Keep Nix w w'
section
attribute [local go_sem ↓] ldz_Index stz_Index ldz_Table stz_Table
set_option maxRecDepth 100000 in
set_option maxHeartbeats 8000000 in
theorem ownIndex_c {p : Nat → Prop} (x : GIndex) (cs : List Value) (w : World) (hx : rGIndex w p cs x) (hr : x.fColumns.length * 8 ≤ 140737488355328) :
    Calls Try.prog 31 #[.agg cs.toArray] w (Ret fGIndex w x) := by
  have gx := hx
  obtain ⟨aI, cI, rfl, h0, h1, h2, h3, h5, -⟩ := rGIndex_open hx
  have nf := (rList_len h3).2.2
  have row0 : RowIs ((w.alloc (.cells #[.int .i64 x.fID, .int .i64 x.fTable, .string (strB x.fName), .slice aI x.fColumns.length cI, .bool x.fUnique, .int .i64 x.fState, .bool x.fBad] 51)).alloc (.cells #[.int .i64 0, .int .i64 0, .string { data := #[] }, .slice none 0 0, .bool false, .int .i64 0, .bool false] 51)) w.heap.size 51 [.int .i64 x.fID, .int .i64 x.fTable, .string (strB x.fName), .slice aI x.fColumns.length cI, .bool x.fUnique, .int .i64 x.fState, .bool x.fBad] := (RowIs.alloc w _ _).keep ((Keep.refl Nix _).alloc _) id
  have rowR : RowIs ((w.alloc (.cells #[.int .i64 x.fID, .int .i64 x.fTable, .string (strB x.fName), .slice aI x.fColumns.length cI, .bool x.fUnique, .int .i64 x.fState, .bool x.fBad] 51)).alloc (.cells #[.int .i64 0, .int .i64 0, .string { data := #[] }, .slice none 0 0, .bool false, .int .i64 0, .bool false] 51)) (w.heap.size + 1) 51 [.int .i64 0, .int .i64 0, .string { data := #[] }, .slice none 0 0, .bool false, .int .i64 0, .bool false] := RowIs.alloc_at (w.alloc (.cells #[.int .i64 x.fID, .int .i64 x.fTable, .string (strB x.fName), .slice aI x.fColumns.length cI, .bool x.fUnique, .int .i64 x.fState, .bool x.fBad] 51)) _ (by simp) #[.int .i64 0, .int .i64 0, .string { data := #[] }, .slice none 0 0, .bool false, .int .i64 0, .bool false] 51
  have kk : Keep Nix w ((w.alloc (.cells #[.int .i64 x.fID, .int .i64 x.fTable, .string (strB x.fName), .slice aI x.fColumns.length cI, .bool x.fUnique, .int .i64 x.fState, .bool x.fBad] 51)).alloc (.cells #[.int .i64 0, .int .i64 0, .string { data := #[] }, .slice none 0 0, .bool false, .int .i64 0, .bool false] 51)) := ((Keep.refl Nix w).alloc _).alloc _
  replace h3 := (rList_lawful (rInt_lawful _)).nix h3 kk
  have hc := Lib.hid (clint_c aI x.fColumns.length cI x.fColumns _ h3 hr)
  clear hx h3 hr
  have x3 := row0.cell 3
  simp only [List.getElem?_cons_succ, List.getElem?_cons_zero] at x3
  go_enter Try.func31, Try.ntmps31
  go_wp2_with fail
  go_fit hc.out
  rintro e w1 ⟨a', cap', css, rfl, own, els, k1⟩
  replace row0 := row0.keep k1 id
  replace rowR := rowR.keep k1 id
  replace kk := kk.trans k1
  have hs0 := row0.lt
  have hs1 := rowR.lt
  have xf := row0.frozen 3
  have x3 := row0.cell 3
  simp only [List.getElem?_cons_succ, List.getElem?_cons_zero] at x3
  have row1 := row0.set 3 (.slice a' x.fColumns.length cap')
  have kS := (Keep.refl (fun b => b = w.heap.size) w1).setCell (p := ⟨w.heap.size, 3, none⟩) (fun _ => rfl) (.slice a' x.fColumns.length cap')
  simp only [List.set_cons_succ, List.set_cons_zero] at row1
  have rowR1 := rowR.keep kS (by omega)
  have hsz : w.heap.size + 1 + 1 ≤ w1.heap.size := by omega
  have own1 := owned_keep own kS (fun b hb e => by have := (own.lt b hb).1; simp at this; omega)
  have els1 : Els (rInt .i64) (w1.setCell ⟨w.heap.size, 3, none⟩ (.slice a' x.fColumns.length cap')) p css x.fColumns := ⟨els.1, fun i c y hc hy => els.2 i c y hc hy⟩
  have kk1 := kk.then kS (fun i hi e => by omega)
  have ld := Whole.row (P := Try.prog) S_Index rfl row1
  unfold Whole at ld
  have hst := store_run (P := Try.prog) (cs := [.int .i64 x.fID, .int .i64 x.fTable, .string (strB x.fName), .slice a' x.fColumns.length cap', .bool x.fUnique, .int .i64 x.fState, .bool x.fBad]) S_Index rowR1 rfl rfl rfl
  have rowF := rowR1.setRow [.int .i64 x.fID, .int .i64 x.fTable, .string (strB x.fName), .slice a' x.fColumns.length cap', .bool x.fUnique, .int .i64 x.fState, .bool x.fBad]
  have kF := (Keep.refl (fun b => b = w.heap.size + 1) (w1.setCell ⟨w.heap.size, 3, none⟩ (.slice a' x.fColumns.length cap'))).setRow (g := w.heap.size + 1) (fun _ => rfl) [.int .i64 x.fID, .int .i64 x.fTable, .string (strB x.fName), .slice a' x.fColumns.length cap', .bool x.fUnique, .int .i64 x.fState, .bool x.fBad].toArray
  have own2 := owned_keep own1 kF (fun b hb e => by have := (own.lt b hb).1; simp at this; omega)
  have els2 : Els (rInt .i64) ((w1.setCell ⟨w.heap.size, 3, none⟩ (.slice a' x.fColumns.length cap')).setRow (w.heap.size + 1) [.int .i64 x.fID, .int .i64 x.fTable, .string (strB x.fName), .slice a' x.fColumns.length cap', .bool x.fUnique, .int .i64 x.fState, .bool x.fBad].toArray) p css x.fColumns := ⟨els1.1, fun i c y hc hy => els1.2 i c y hc hy⟩
  have hL : rListW (rInt .i64) ((w1.setCell ⟨w.heap.size, 3, none⟩ (.slice a' x.fColumns.length cap')).setRow (w.heap.size + 1) [.int .i64 x.fID, .int .i64 x.fTable, .string (strB x.fName), .slice a' x.fColumns.length cap', .bool x.fUnique, .int .i64 x.fState, .bool x.fBad].toArray) (NewIn w ((w1.setCell ⟨w.heap.size, 3, none⟩ (.slice a' x.fColumns.length cap')).setRow (w.heap.size + 1) [.int .i64 x.fID, .int .i64 x.fTable, .string (strB x.fName), .slice a' x.fColumns.length cap', .bool x.fUnique, .int .i64 x.fState, .bool x.fBad].toArray)) [.slice a' x.fColumns.length cap'] x.fColumns := rListW_owned own2 els2 nf (fun c y h => rInt_any h) (fun b hb hlt => ⟨by simp at hb; omega, hlt⟩)
  have hres : fGIndex ((w1.setCell ⟨w.heap.size, 3, none⟩ (.slice a' x.fColumns.length cap')).setRow (w.heap.size + 1) [.int .i64 x.fID, .int .i64 x.fTable, .string (strB x.fName), .slice a' x.fColumns.length cap', .bool x.fUnique, .int .i64 x.fState, .bool x.fBad].toArray) (NewIn w ((w1.setCell ⟨w.heap.size, 3, none⟩ (.slice a' x.fColumns.length cap')).setRow (w.heap.size + 1) [.int .i64 x.fID, .int .i64 x.fTable, .string (strB x.fName), .slice a' x.fColumns.length cap', .bool x.fUnique, .int .i64 x.fState, .bool x.fBad].toArray)) [.int .i64 x.fID, .int .i64 x.fTable, .string (strB x.fName), .slice a' x.fColumns.length cap', .bool x.fUnique, .int .i64 x.fState, .bool x.fBad] x := ⟨[_], [_], [_], [_], [_], [_], [_], rfl, ⟨rfl, wf_of_isI64 h0⟩, ⟨rfl, wf_of_isI64 h1⟩, ⟨rfl, h2⟩, hL, rfl, ⟨rfl, wf_of_isI64 h5⟩, rfl⟩
  have kk2 := kk1.then kF (fun i hi e => by omega)
  clear hc own own1 own2 els els1 els2 row0 row1 rowR rowR1 kS kF kk kk1 k1 hL
  go_wp2_with fail
  refine bodyPost_ret (results_cell_row (by rfl) _ _ _ _ _ _ _ (by rfl) rowF Try.underlying51 (by rfl) S_Index.info) rfl ?_
  exact ⟨_, rfl, hres, kk2⟩
set_option maxRecDepth 100000 in
set_option maxHeartbeats 8000000 in
theorem ownTable_c {p : Nat → Prop} (t : GTable) (cs : List Value) (w : World) (ht : rGTable w p cs t) (hr1 : t.fColumns.length * 32 ≤ 140737488355328) (hr2 : t.fKey.length * 8 ≤ 140737488355328) :
    Calls Try.prog 30 #[.agg cs.toArray] w (Ret fGTable w t) := by
  obtain ⟨aC, cC, aK, cK, rfl, h0, h1, h2, h3, -⟩ := rGTable_open ht
  have nf1 := (rList_len h2).2.2
  have nf2 := (rList_len h3).2.2
  have row0 : RowIs ((w.alloc (.cells #[.int .i64 t.fID, .string (strB t.fName), .slice aC t.fColumns.length cC, .slice aK t.fKey.length cK] 49)).alloc (.cells #[.int .i64 0, .string { data := #[] }, .slice none 0 0, .slice none 0 0] 49)) w.heap.size 49 [.int .i64 t.fID, .string (strB t.fName), .slice aC t.fColumns.length cC, .slice aK t.fKey.length cK] := (RowIs.alloc w _ _).keep ((Keep.refl Nix _).alloc _) id
  have rowR : RowIs ((w.alloc (.cells #[.int .i64 t.fID, .string (strB t.fName), .slice aC t.fColumns.length cC, .slice aK t.fKey.length cK] 49)).alloc (.cells #[.int .i64 0, .string { data := #[] }, .slice none 0 0, .slice none 0 0] 49)) (w.heap.size + 1) 49 [.int .i64 0, .string { data := #[] }, .slice none 0 0, .slice none 0 0] := RowIs.alloc_at (w.alloc (.cells #[.int .i64 t.fID, .string (strB t.fName), .slice aC t.fColumns.length cC, .slice aK t.fKey.length cK] 49)) _ (by simp) #[.int .i64 0, .string { data := #[] }, .slice none 0 0, .slice none 0 0] 49
  have kk : Keep Nix w ((w.alloc (.cells #[.int .i64 t.fID, .string (strB t.fName), .slice aC t.fColumns.length cC, .slice aK t.fKey.length cK] 49)).alloc (.cells #[.int .i64 0, .string { data := #[] }, .slice none 0 0, .slice none 0 0] 49)) := ((Keep.refl Nix w).alloc _).alloc _
  clear ht
  go_enter Try.func30, Try.ntmps30
  go_wp2_with fail
  replace row0 := row0.same (w' := ((w.alloc (.cells #[.int .i64 t.fID, .string (strB t.fName), .slice aC t.fColumns.length cC, .slice aK t.fKey.length cK] 49)).alloc (.cells #[.int .i64 0, .string { data := #[] }, .slice none 0 0, .slice none 0 0] 49)).drew)
  replace rowR := rowR.same (w' := ((w.alloc (.cells #[.int .i64 t.fID, .string (strB t.fName), .slice aC t.fColumns.length cC, .slice aK t.fKey.length cK] 49)).alloc (.cells #[.int .i64 0, .string { data := #[] }, .slice none 0 0, .slice none 0 0] 49)).drew)
  replace kk := kk.drew
  have x2 := row0.cell 2
  have x3 := row0.cell 3
  have f2 := row0.frozen 2
  have f3 := row0.frozen 3
  simp only [List.getElem?_cons_succ, List.getElem?_cons_zero] at x2 x3
  go_region_with (first
    | (go_at_call 44; go_fit (clColumn_c aC t.fColumns.length cC t.fColumns _ ((rList_lawful rGColumn_lawful).nix h2 kk) hr1); rintro e w1 ⟨a1, cap1, css1, rfl, own1, els1, k1⟩; replace row0 := row0.keep k1 id; replace rowR := rowR.keep k1 id; replace kk := kk.trans k1; clear k1; replace x2 := row0.cell 2; replace x3 := row0.cell 3; replace f2 := row0.frozen 2; replace f3 := row0.frozen 3; simp only [List.getElem?_cons_succ, List.getElem?_cons_zero] at x2 x3)
    | (go_at_call 45; have hsA := rowR.lt; go_fit (clint_c aK t.fKey.length cK t.fKey _ ((rList_lawful (rInt_lawful _)).nix h3 kk) hr2); rintro e w2 ⟨a2, cap2, css2, rfl, own2, els2, k1⟩; replace row0 := row0.keep k1 id; replace rowR := rowR.keep k1 id; replace kk := kk.trans k1; replace own1 := owned_keep own1 k1 (fun _ _ h => h); clear k1; replace x2 := row0.cell 2; replace x3 := row0.cell 3; replace f2 := row0.frozen 2; replace f3 := row0.frozen 3; simp only [List.getElem?_cons_succ, List.getElem?_cons_zero] at x2 x3))
  all_goals
    have hs0 := row0.lt
    have hs1 := rowR.lt
    have row1 := (row0.set 2 (.slice a1 t.fColumns.length cap1)).set 3 (.slice a2 t.fKey.length cap2)
    simp only [List.set_cons_succ, List.set_cons_zero] at row1
    have kS : Keep (fun b => b = w.heap.size) w2 ((w2.setCell ⟨w.heap.size, 2, none⟩ (.slice a1 t.fColumns.length cap1)).setCell ⟨w.heap.size, 3, none⟩ (.slice a2 t.fKey.length cap2)) := ((Keep.refl (fun b => b = w.heap.size) w2).setCell (p := ⟨w.heap.size, 2, none⟩) (fun _ => rfl) _).setCell (p := ⟨w.heap.size, 3, none⟩) (fun _ => rfl) _
    have rowR1 := rowR.keep kS (by omega)
    have hb1 : ∀ b, OwnB (.slice a1 t.fColumns.length cap1) b → w.heap.size + 1 + 1 ≤ b := fun b hb => by have := (own1.lt b hb).1; simp at this; omega
    have hb2 : ∀ b, OwnB (.slice a2 t.fKey.length cap2) b → w.heap.size + 1 + 1 ≤ b := fun b hb => by have := (own2.lt b hb).1; first | omega | (simp at this; omega) | (simp at this hsA; omega)
    have own11 := owned_keep own1 kS (fun b hb e => by have := hb1 b hb; omega)
    have own21 := owned_keep own2 kS (fun b hb e => by have := hb2 b hb; omega)
    have kk1 := kk.then kS (fun i hi e => by omega)
    have ld := Whole.row (P := Try.prog) S_Table rfl row1
    unfold Whole at ld
    have hst := store_run (P := Try.prog) (cs := [.int .i64 t.fID, .string (strB t.fName), .slice a1 t.fColumns.length cap1, .slice a2 t.fKey.length cap2]) S_Table rowR1 rfl rfl rfl
    have rowF := rowR1.setRow [.int .i64 t.fID, .string (strB t.fName), .slice a1 t.fColumns.length cap1, .slice a2 t.fKey.length cap2]
    have kF := (Keep.refl (fun b => b = w.heap.size + 1) ((w2.setCell ⟨w.heap.size, 2, none⟩ (.slice a1 t.fColumns.length cap1)).setCell ⟨w.heap.size, 3, none⟩ (.slice a2 t.fKey.length cap2))).setRow (g := w.heap.size + 1) (fun _ => rfl) [.int .i64 t.fID, .string (strB t.fName), .slice a1 t.fColumns.length cap1, .slice a2 t.fKey.length cap2].toArray
    have own12 := owned_keep own11 kF (fun b hb e => by have := hb1 b hb; omega)
    have own22 := owned_keep own21 kF (fun b hb e => by have := hb2 b hb; omega)
    have e1 : Els rGColumn (((w2.setCell ⟨w.heap.size, 2, none⟩ (.slice a1 t.fColumns.length cap1)).setCell ⟨w.heap.size, 3, none⟩ (.slice a2 t.fKey.length cap2)).setRow (w.heap.size + 1) [.int .i64 t.fID, .string (strB t.fName), .slice a1 t.fColumns.length cap1, .slice a2 t.fKey.length cap2].toArray) p css1 t.fColumns := ⟨els1.1, fun i c y hc hy => els1.2 i c y hc hy⟩
    have e2 : Els (rInt .i64) (((w2.setCell ⟨w.heap.size, 2, none⟩ (.slice a1 t.fColumns.length cap1)).setCell ⟨w.heap.size, 3, none⟩ (.slice a2 t.fKey.length cap2)).setRow (w.heap.size + 1) [.int .i64 t.fID, .string (strB t.fName), .slice a1 t.fColumns.length cap1, .slice a2 t.fKey.length cap2].toArray) p css2 t.fKey := ⟨els2.1, fun i c y hc hy => els2.2 i c y hc hy⟩
    have hL1 : rListW rGColumn (((w2.setCell ⟨w.heap.size, 2, none⟩ (.slice a1 t.fColumns.length cap1)).setCell ⟨w.heap.size, 3, none⟩ (.slice a2 t.fKey.length cap2)).setRow (w.heap.size + 1) [.int .i64 t.fID, .string (strB t.fName), .slice a1 t.fColumns.length cap1, .slice a2 t.fKey.length cap2].toArray) (NewIn w (((w2.setCell ⟨w.heap.size, 2, none⟩ (.slice a1 t.fColumns.length cap1)).setCell ⟨w.heap.size, 3, none⟩ (.slice a2 t.fKey.length cap2)).setRow (w.heap.size + 1) [.int .i64 t.fID, .string (strB t.fName), .slice a1 t.fColumns.length cap1, .slice a2 t.fKey.length cap2].toArray)) [.slice a1 t.fColumns.length cap1] t.fColumns := rListW_owned own12 e1 nf1 (fun c y h => rGColumn_any h) (fun b hb hlt => ⟨by simp at hb; omega, hlt⟩)
    have hL2 : rListW (rInt .i64) (((w2.setCell ⟨w.heap.size, 2, none⟩ (.slice a1 t.fColumns.length cap1)).setCell ⟨w.heap.size, 3, none⟩ (.slice a2 t.fKey.length cap2)).setRow (w.heap.size + 1) [.int .i64 t.fID, .string (strB t.fName), .slice a1 t.fColumns.length cap1, .slice a2 t.fKey.length cap2].toArray) (NewIn w (((w2.setCell ⟨w.heap.size, 2, none⟩ (.slice a1 t.fColumns.length cap1)).setCell ⟨w.heap.size, 3, none⟩ (.slice a2 t.fKey.length cap2)).setRow (w.heap.size + 1) [.int .i64 t.fID, .string (strB t.fName), .slice a1 t.fColumns.length cap1, .slice a2 t.fKey.length cap2].toArray)) [.slice a2 t.fKey.length cap2] t.fKey := rListW_owned own22 e2 nf2 (fun c y h => rInt_any h) (fun b hb hlt => ⟨by first | omega | (simp at hb; omega) | (simp at hb hsA; omega), hlt⟩)
    have hres : fGTable (((w2.setCell ⟨w.heap.size, 2, none⟩ (.slice a1 t.fColumns.length cap1)).setCell ⟨w.heap.size, 3, none⟩ (.slice a2 t.fKey.length cap2)).setRow (w.heap.size + 1) [.int .i64 t.fID, .string (strB t.fName), .slice a1 t.fColumns.length cap1, .slice a2 t.fKey.length cap2].toArray) (NewIn w (((w2.setCell ⟨w.heap.size, 2, none⟩ (.slice a1 t.fColumns.length cap1)).setCell ⟨w.heap.size, 3, none⟩ (.slice a2 t.fKey.length cap2)).setRow (w.heap.size + 1) [.int .i64 t.fID, .string (strB t.fName), .slice a1 t.fColumns.length cap1, .slice a2 t.fKey.length cap2].toArray)) [.int .i64 t.fID, .string (strB t.fName), .slice a1 t.fColumns.length cap1, .slice a2 t.fKey.length cap2] t := ⟨[_], [_], [_], [_], rfl, ⟨rfl, wf_of_isI64 h0⟩, ⟨rfl, h1⟩, hL1, hL2⟩
    have kk2 := kk1.then kF (fun i hi e => by omega)
    clear own1 own2 own11 own21 own12 own22 els1 els2 e1 e2 row0 row1 rowR rowR1 kS kF kk kk1 hL1 hL2 x2 x3 f2 f3
    go_wp2_with fail
    refine bodyPost_ret (results_cell_row (by rfl) _ _ _ _ _ _ _ (by rfl) rowF Try.underlying49 (by rfl) S_Table.info) rfl ?_
    exact ⟨_, rfl, hres, kk2⟩
end
end Go.Proofs.Ytibaehlfpgipfaa
