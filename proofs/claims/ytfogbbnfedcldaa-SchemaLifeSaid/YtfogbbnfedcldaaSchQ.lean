/- SCHEMA: a table's indexes, by the program and by the reference. Printed by mac.py. -/
import Derived.Test.YtfogbbnfedcldaaSchP
import Derived.Test.YtfogbbnfedcldaaSchF
namespace Go.Proofs.Ytfogbbnfedcldaa
open Go.RowKit

def pickI (d : Int) (l : List GIndex) : List GIndex := l.filter fun x => decide (x.fTable = d)
theorem pickI_snoc_yes {d : Int} {l : List GIndex} {x : GIndex} (h : x.fTable = d) : pickI d (l ++ [x]) = pickI d l ++ [x] := by simp [pickI, List.filter_append, h]
theorem pickI_snoc_no {d : Int} {l : List GIndex} {x : GIndex} (h : x.fTable ≠ d) : pickI d (l ++ [x]) = pickI d l := by simp [pickI, List.filter_append, h]
/-- A list of one's own, its elements in memory apart from its row. -/
def RetOwnL {α : Type} (R : RD α) (t sz : Nat) (w : World) (ys : List α) (e : Ending) (w' : World) : Prop := ∃ (a : Option Addr) (cap : Nat) (css : List (List Value)), e = .returned (.slice a ys.length cap) ∧ w'.ownsRow w.heap.size t sz (.slice a ys.length cap) ys.length css.flatten ∧ Els R w' (fun b => NewIn w w' b ∧ ¬ OwnB (.slice a ys.length cap) b) css ys ∧ Keep Nix w w'
/-- A list of one's own, its elements in memory of the blocks p. -/
def RetOwnP {α : Type} (R : RD α) (p : Nat → Prop) (t sz : Nat) (w : World) (ys : List α) (e : Ending) (w' : World) : Prop := ∃ (a : Option Addr) (cap : Nat) (css : List (List Value)), e = .returned (.slice a ys.length cap) ∧ w'.ownsRow w.heap.size t sz (.slice a ys.length cap) ys.length css.flatten ∧ Els R w' p css ys ∧ Keep Nix w w'
section
attribute [local go_sem ↓] ldz_Catalog ldz_Index stz_Index lsz_Index
set_option maxRecDepth 100000 in
set_option maxHeartbeats 8000000 in
theorem sOf_c {p : Nat → Prop} (c : GCatalog) (csc : List Value) (d : Int) (w : World) (hc : rGCatalog w p csc c) (hs : ∀ x ∈ c.fIndexes, smallX x) (nX : c.fIndexes.length ≤ 1000) :
    Calls Try.prog 19 #[.agg csc.toArray, .int .i64 d] w (RetOwnL fGIndex 37 7 w (pickI d c.fIndexes)) := by
  obtain ⟨aT, cT, aX, cX, rfl, hv, hn, hT, hX, -⟩ := rGCatalog_open hc
  have mX : c.fIndexes.length ≤ 140737488351232 := by omega
  have HSX := Lib.hid hs
  have row0 : RowIs (w.alloc (.cells #[.int .i64 c.fVersion, .int .i64 c.fNext, .slice aT c.fTables.length cT, .slice aX c.fIndexes.length cX] 25)) w.heap.size 25 [.int .i64 c.fVersion, .int .i64 c.fNext, .slice aT c.fTables.length cT, .slice aX c.fIndexes.length cX] := RowIs.alloc w _ _
  have kk : Keep Nix w (w.alloc (.cells #[.int .i64 c.fVersion, .int .i64 c.fNext, .slice aT c.fTables.length cT, .slice aX c.fIndexes.length cX] 25)) := (Keep.refl Nix w).alloc _
  clear hc hs hT
  have x3 := row0.cell 3
  (try simp only [List.getElem?_cons_succ] at x3); (try simp only [List.getElem?_cons_zero] at x3)
  go_enter Try.func19, Try.ntmps19
  go_wp2_with fail
  clear x3
  go_loopw [5, 11] (fun l i wr => ∃ (k : Nat) (a : Option Addr) (cap : Nat) (css : List (List Value)) (ys : List GIndex), k ≤ c.fIndexes.length ∧ i = .int .i64 k ∧ l = .slice a ys.length cap ∧ Hid (ys = pickI d (c.fIndexes.take k)) ∧ ys.length ≤ k ∧ wr.ownsRow w.heap.size 37 7 (.slice a ys.length cap) ys.length css.flatten ∧ Els fGIndex wr (fun b => NewIn w wr b ∧ ¬ OwnB (.slice a ys.length cap) b) css ys ∧ Keep Nix w wr) (fun _ i _ => c.fIndexes.length - (intOf i).toNat)
  case atStart => exact ⟨0, none, 0, [], [], by omega, rfl, rfl, rfl, by simp, World.ownsRow_nil _ _ _ _, Els.nil _ _ _, kk⟩
  case round =>
    clear row0 kk
    obtain ⟨k, ao, co, css, ys, hk, rfl, rfl, HY, hyk, own, els, kk⟩ := hrel
    by_cases hlt : k < c.fIndexes.length
    · have hi0 : (0 : Int) ≤ (k : Int) := by omega
      have hi1 : (k : Int) < (c.fIndexes.length : Int) := by omega
      obtain ⟨b, o, cc, cs, e1, -, hb, r, hcl⟩ := rList_at rGIndex_lawful (by decide) ((rList_lawful rGIndex_lawful).nix hX kk) k hlt
      simp only [List.cons.injEq, Value.slice.injEq, and_true] at e1
      obtain ⟨rfl, -, -⟩ := e1
      have HTK : Hid (c.fIndexes.take (k + 1) = c.fIndexes.take k ++ [c.fIndexes[k]]) := List.take_succ_eq_append_getElem hlt
      have hx1 := HSX.out _ (List.getElem_mem hlt)
      unfold smallX at hx1
      generalize c.fIndexes[k] = x at r HTK hx1
      have rr := r
      obtain ⟨aK, cK, rfl, h0, h1, h2, h3, h5, -⟩ := rGIndex_open r
      have ld := Whole.at (P := Try.prog) S_Index rfl hcl
      unfold Whole at ld
      have hst := store_run (P := Try.prog) (cs := [.int .i64 x.fID, .int .i64 x.fTable, .string (strB x.fName), .slice aK x.fColumns.length cK, .bool x.fUnique, .int .i64 x.fState, .bool x.fBad]) S_Index (RowIs.alloc wr #[.int .i64 0, .int .i64 0, .string { data := #[] }, .slice none 0 0, .bool false, .int .i64 0, .bool false] 37) rfl rfl rfl
      have rowX := (RowIs.alloc wr #[.int .i64 0, .int .i64 0, .string { data := #[] }, .slice none 0 0, .bool false, .int .i64 0, .bool false] 37).setRow [.int .i64 x.fID, .int .i64 x.fTable, .string (strB x.fName), .slice aK x.fColumns.length cK, .bool x.fUnique, .int .i64 x.fState, .bool x.fBad]
      have kr : Keep Nix wr ((wr.alloc (.cells #[.int .i64 0, .int .i64 0, .string { data := #[] }, .slice none 0 0, .bool false, .int .i64 0, .bool false] 37)).setRow wr.heap.size [.int .i64 x.fID, .int .i64 x.fTable, .string (strB x.fName), .slice aK x.fColumns.length cK, .bool x.fUnique, .int .i64 x.fState, .bool x.fBad].toArray) := ((Keep.refl Nix wr).alloc (.cells #[.int .i64 0, .int .i64 0, .string { data := #[] }, .slice none 0 0, .bool false, .int .i64 0, .bool false] 37)).setRow (fun h => absurd h (Nat.lt_irrefl _)) _
      replace rr := rGIndex_lawful.nix rr kr
      have y1 := rowX.cell 1
      (try simp only [List.getElem?_cons_succ] at y1); (try simp only [List.getElem?_cons_zero] at y1)
      clear h0 h1 h2 h3 h5 hcl r
      rcases test_eq x.fTable d with ⟨ht, hT⟩ | ⟨ht, hT⟩
      · have HP : Hid (pickI d (c.fIndexes.take (k + 1)) = ys ++ [x]) := by show _ = _; rw [HTK.out, pickI_snoc_yes hT.out, HY.out]
        have ldx := Whole.row (P := Try.prog) S_Index rfl rowX
        unfold Whole at ldx
        have HO := Lib.hid (ownIndex_c x [.int .i64 x.fID, .int .i64 x.fTable, .string (strB x.fName), .slice aK x.fColumns.length cK, .bool x.fUnique, .int .i64 x.fState, .bool x.fBad] ((wr.alloc (.cells #[.int .i64 0, .int .i64 0, .string { data := #[] }, .slice none 0 0, .bool false, .int .i64 0, .bool false] 37)).setRow wr.heap.size [.int .i64 x.fID, .int .i64 x.fTable, .string (strB x.fName), .slice aK x.fColumns.length cK, .bool x.fUnique, .int .i64 x.fState, .bool x.fBad].toArray) rr (by omega))
        clear rr hT
        go_wp2_with fail
        clear ld hst y1 ldx
        go_fit HO.out
        rintro e w1 ⟨cn, rfl, hN, k1⟩
        have hln := fGIndex_lawful.len hN
        have hls := list_run (P := Try.prog) T_lIndex (by decide) cn hln w1
        have ownZ := owned_keep (owned_keep own kr (fun _ _ h => h)) k1 (fun _ _ h => h)
        have hs0 := kk.size
        have hs1 := kr.size
        have hs2 := k1.size
        clear HO rowX
        go_wp2_with (at_builtin; refine wpl_append1_at (c := 1) T_lIndex ?hgd (.tmp 19) (.tmp 22) ?ho _ ?hs ownZ ?hx ?c0 ?c1 ?c2 ?c3 ?c4 ?_)
        case hgd => rfl
        case ho => rfl
        case hs => rfl
        case hx => rfl
        case c0 => simpa using hln
        case c1 => simpa [ones] using fGIndex_ones hN
        case c2 => unfold maxLen; omega
        case c3 => omega
        case c4 => omega
        intro a' cap' w6 own6 k6 hfresh
        have els2 := els.push0 fGIndex_lawful (fGIndex_lawful.mono hN (q := NewIn wr w1) (fun b hb => ⟨by have := hb.1; omega, hb.2⟩)) (kr.trans k1) k6 hs0 (fun b hb => (own.lt b hb).2) hfresh
        have hn6 : ∀ b, OwnB (.slice ao ys.length co) b → w.heap.size ≤ b := fun b hb => (own.lt b hb).1
        replace kk := ((kk.trans kr).trans k1).then k6 (fun i hi hb => by have := hn6 _ hb; omega)
        clear ownZ hN els own k6 kr k1 hfresh hls
        go_wp2_with fail
        go_roundw
        case rel => exact ⟨k + 1, a', cap', css ++ [cn], ys ++ [x], by omega, by go_num, by simp, HP.out.symm, by simp; omega, by simpa using own6, by simpa using els2, kk⟩
        case measure => simp [intOf]; omega
      · have HP : Hid (pickI d (c.fIndexes.take (k + 1)) = ys) := by show _ = _; rw [HTK.out, pickI_snoc_no hT, HY.out]
        replace own := owned_keep own kr (fun _ _ h => h)
        have hs1 := kr.size
        have els2 := (els.keep fGIndex_lawful kr (fun _ _ h => h)).mono (q := fun b => NewIn w ((wr.alloc (.cells #[.int .i64 0, .int .i64 0, .string { data := #[] }, .slice none 0 0, .bool false, .int .i64 0, .bool false] 37)).setRow wr.heap.size [.int .i64 x.fID, .int .i64 x.fTable, .string (strB x.fName), .slice aK x.fColumns.length cK, .bool x.fUnique, .int .i64 x.fState, .bool x.fBad].toArray) b ∧ ¬ OwnB (.slice ao ys.length co) b) fGIndex_lawful (fun b hb => ⟨⟨hb.1.1, by have := hb.1.2; omega⟩, hb.2⟩)
        replace kk := kk.trans kr
        clear rr hT kr els rowX
        go_wp2_with fail
        clear ld hst y1
        go_roundw
        case rel => exact ⟨k + 1, ao, co, css, ys, by omega, by go_num, rfl, HP.out.symm, by omega, own, els2, kk⟩
        case measure => simp [intOf]; omega
    · obtain rfl : k = c.fIndexes.length := by omega
      have HP : Hid (pickI d c.fIndexes = ys) := by have := HY.out; rw [List.take_length] at this; exact this.symm
      clear HY hlt hk
      go_wp2_with fail
      go_ret
      rw [HP.out]
      exact ⟨_, _, css, rfl, own, els, kk⟩
set_option maxRecDepth 100000 in
set_option maxHeartbeats 8000000 in
theorem rOf_c {p : Nat → Prop} (c : GCatalog) (csc : List Value) (d : Int) (w : World) (hc : rGCatalog w p csc c) (_hp : ∀ b, p b → b < w.heap.size) (nX : c.fIndexes.length ≤ 1000) :
    Calls Try.prog 23 #[.agg csc.toArray, .int .i64 d] w (RetOwnP rGIndex p 37 7 w (pickI d c.fIndexes)) := by
  obtain ⟨aT, cT, aX, cX, rfl, hv, hn, hT, hX, -⟩ := rGCatalog_open hc
  have mX : c.fIndexes.length ≤ 140737488351232 := by omega
  have row0 : RowIs (w.alloc (.cells #[.int .i64 c.fVersion, .int .i64 c.fNext, .slice aT c.fTables.length cT, .slice aX c.fIndexes.length cX] 25)) w.heap.size 25 [.int .i64 c.fVersion, .int .i64 c.fNext, .slice aT c.fTables.length cT, .slice aX c.fIndexes.length cX] := RowIs.alloc w _ _
  have kk : Keep Nix w (w.alloc (.cells #[.int .i64 c.fVersion, .int .i64 c.fNext, .slice aT c.fTables.length cT, .slice aX c.fIndexes.length cX] 25)) := (Keep.refl Nix w).alloc _
  have hbs : w.heap.size + 1 ≤ (w.alloc (.cells #[.int .i64 c.fVersion, .int .i64 c.fNext, .slice aT c.fTables.length cT, .slice aX c.fIndexes.length cX] 25)).heap.size := by simp
  clear hc hT
  have x3 := row0.cell 3
  (try simp only [List.getElem?_cons_succ] at x3); (try simp only [List.getElem?_cons_zero] at x3)
  go_enter Try.func23, Try.ntmps23
  go_wp2_with fail
  clear x3
  go_loopw [5, 6] (fun l i wr => ∃ (k : Nat) (a : Option Addr) (cap : Nat) (css : List (List Value)) (ys : List GIndex), k ≤ c.fIndexes.length ∧ i = .int .i64 k ∧ l = .slice a ys.length cap ∧ Hid (ys = pickI d (c.fIndexes.take k)) ∧ ys.length ≤ k ∧ wr.ownsRow (w.heap.size + 1) 37 7 (.slice a ys.length cap) ys.length css.flatten ∧ Els rGIndex wr p css ys ∧ RowIs wr w.heap.size 25 [.int .i64 c.fVersion, .int .i64 c.fNext, .slice aT c.fTables.length cT, .slice aX c.fIndexes.length cX] ∧ w.heap.size + 1 ≤ wr.heap.size ∧ Keep Nix w wr) (fun _ i _ => c.fIndexes.length - (intOf i).toNat)
  case atStart => exact ⟨0, none, 0, [], [], by omega, rfl, rfl, rfl, by simp, World.ownsRow_nil _ _ _ _, Els.nil _ _ _, row0, hbs, kk⟩
  case round =>
    clear row0 kk hbs
    obtain ⟨k, ao, co, css, ys, hk, rfl, rfl, HY, hyk, own, els, row0, hbs, kk⟩ := hrel
    have x3 := row0.cell 3
    (try simp only [List.getElem?_cons_succ] at x3); (try simp only [List.getElem?_cons_zero] at x3)
    by_cases hlt : k < c.fIndexes.length
    · have hi0 : (0 : Int) ≤ (k : Int) := by omega
      have hi1 : (k : Int) < (c.fIndexes.length : Int) := by omega
      obtain ⟨b, o, cc, cs, e1, -, hb, r, hcl⟩ := rList_at rGIndex_lawful (by decide) ((rList_lawful rGIndex_lawful).nix hX kk) k hlt
      simp only [List.cons.injEq, Value.slice.injEq, and_true] at e1
      obtain ⟨rfl, -, -⟩ := e1
      have HTK : Hid (c.fIndexes.take (k + 1) = c.fIndexes.take k ++ [c.fIndexes[k]]) := List.take_succ_eq_append_getElem hlt
      generalize c.fIndexes[k] = x at r HTK
      have rr := r
      obtain ⟨aK, cK, rfl, h0, h1, h2, h3, h5, -⟩ := rGIndex_open r
      have ld := Whole.at (P := Try.prog) S_Index rfl hcl
      unfold Whole at ld
      have y1 := hcl 1 _ rfl
      have hls := list_run (P := Try.prog) T_lIndex (by decide) [.int .i64 x.fID, .int .i64 x.fTable, .string (strB x.fName), .slice aK x.fColumns.length cK, .bool x.fUnique, .int .i64 x.fState, .bool x.fBad] rfl wr
      clear h0 h1 h2 h3 h5 hcl r
      rcases test_eq x.fTable d with ⟨ht, hT⟩ | ⟨ht, hT⟩
      · have HP : Hid (pickI d (c.fIndexes.take (k + 1)) = ys ++ [x]) := by show _ = _; rw [HTK.out, pickI_snoc_yes hT.out, HY.out]
        have hs0 := kk.size
        clear hT
        go_wp2_with (at_builtin; refine wpl_append1_at (c := 1) T_lIndex ?hgd (.tmp 22) (.tmp 28) ?ho _ ?hs own ?hx ?c0 ?c1 ?c2 ?c3 ?c4 ?_)
        case hgd => rfl
        case ho => rfl
        case hs => rfl
        case hx => rfl
        case c0 => rfl
        case c1 => exact ⟨rfl, rfl, rfl, rfl, rfl, rfl, rfl⟩
        case c2 => unfold maxLen; omega
        case c3 => omega
        case c4 => omega
        intro a' cap' w6 own6 k6 hfresh
        have hn6 : ∀ b, OwnB (.slice ao ys.length co) b → w.heap.size + 1 ≤ b := fun b hb => (own.lt b hb).1
        have els2 := Els.snoc (els.keep rGIndex_lawful k6 (fun b hb e => by have := hn6 _ e; have := _hp b hb; omega)) (rGIndex_lawful.keep rr k6 (fun b hb e => by have := hn6 _ e; have := _hp b hb; omega))
        replace row0 := row0.keep k6 (fun hb => by have := hn6 _ hb; omega)
        have hs6 := k6.size
        replace kk := kk.then k6 (fun i hi hb => by have := hn6 _ hb; omega)
        clear els own k6 hfresh hls ld y1 x3 rr
        go_wp2_with fail
        go_roundw
        case rel => exact ⟨k + 1, a', cap', css ++ [[.int .i64 x.fID, .int .i64 x.fTable, .string (strB x.fName), .slice aK x.fColumns.length cK, .bool x.fUnique, .int .i64 x.fState, .bool x.fBad]], ys ++ [x], by omega, by go_num, by simp, HP.out.symm, by simp; omega, by simpa using own6, els2, row0, by omega, kk⟩
        case measure => simp [intOf]; omega
      · have HP : Hid (pickI d (c.fIndexes.take (k + 1)) = ys) := by show _ = _; rw [HTK.out, pickI_snoc_no hT, HY.out]
        clear rr hT hls ld
        go_wp2_with fail
        clear y1 x3
        go_roundw
        case rel => exact ⟨k + 1, ao, co, css, ys, by omega, by go_num, rfl, HP.out.symm, by omega, own, els, row0, hbs, kk⟩
        case measure => simp [intOf]; omega
    · obtain rfl : k = c.fIndexes.length := by omega
      have HP : Hid (pickI d c.fIndexes = ys) := by have := HY.out; rw [List.take_length] at this; exact this.symm
      clear HY hlt hk
      go_wp2_with fail
      go_ret
      rw [HP.out]
      exact ⟨_, _, css, rfl, owned_base own (by omega), els, kk⟩
end
end Go.Proofs.Ytfogbbnfedcldaa
