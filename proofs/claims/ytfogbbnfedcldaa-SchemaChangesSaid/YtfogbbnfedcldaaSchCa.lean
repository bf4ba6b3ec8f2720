/- SCHEMA: an index has another state, by the reference. Printed by mac.py. -/
import Derived.Test.YtfogbbnfedcldaaSchZb
namespace Go.Proofs.Ytfogbbnfedcldaa
open Go.RowKit

def setX (d to : Int) (bad : Bool) (x : GIndex) : GIndex := if x.fID = d then { x with fState := to, fBad := bad } else x
def setL (d to : Int) (bad : Bool) (l : List GIndex) : List GIndex := (l.map (setX d to bad)).filter fun x => decide (x.fState ≠ 0)
theorem setL_yes {d to : Int} {bad : Bool} {l : List GIndex} {x : GIndex} (h : (setX d to bad x).fState ≠ 0) : setL d to bad (l ++ [x]) = setL d to bad l ++ [setX d to bad x] := by unfold setL; simp [List.filter_append, h]
theorem setL_no {d to : Int} {bad : Bool} {l : List GIndex} {x : GIndex} (h : (setX d to bad x).fState = 0) : setL d to bad (l ++ [x]) = setL d to bad l := by unfold setL; simp [List.filter_append, h]
def setF (c : GCatalog) (d to : Int) (bad : Bool) : GCatalog := { c with fVersion := c.fVersion + 1, fIndexes := setL d to bad c.fIndexes }
theorem kk_set2 {w cur : World} {g : Nat} (k : Keep Nix w cur) (hg : w.heap.size ≤ g) (cs : Array Value) : Keep Nix w (cur.setRow g cs) ∧ Keep (· = g) cur (cur.setRow g cs) := ⟨k.setRow (fun h => absurd h (Nat.not_lt.2 hg)) cs, (Keep.refl (· = g) cur).setRow (fun _ => rfl) cs⟩
section
attribute [local go_sem ↓] ldz_Catalog stz_Catalog ldz_Index stz_Index lsz_Index
set_option maxRecDepth 100000 in
set_option maxHeartbeats 16000000 in
theorem set_c {p : Nat → Prop} (c : GCatalog) (csc : List Value) (d to : Int) (bad : Bool) (w : World) (hc : rGCatalog w p csc c) (hs : smallC c) (hv : c.fVersion ≤ 4611686018427387904) (hto : isI64 to) :
    Calls Try.prog 64 #[.agg csc.toArray, .int .i64 d, .int .i64 to, .bool bad] w (Ret rGCatalog w (setF c d to bad)) := by
  obtain ⟨hlc, hcv, hcn, nT, nX⟩ := cat_facts hc
  have row0 : RowIs ((w.alloc (.cells csc.toArray 25)).alloc (.cells #[.int .i64 0, .int .i64 0, .slice none 0 0, .slice none 0 0] 25)) w.heap.size 25 csc := by have := (RowIs.alloc w csc.toArray 25).keep ((Keep.refl Nix _).alloc (.cells #[.int .i64 0, .int .i64 0, .slice none 0 0, .slice none 0 0] 25)) id; simpa using this
  have rowR : RowIs ((w.alloc (.cells csc.toArray 25)).alloc (.cells #[.int .i64 0, .int .i64 0, .slice none 0 0, .slice none 0 0] 25)) (w.heap.size + 1) 25 [.int .i64 0, .int .i64 0, .slice none 0 0, .slice none 0 0] := RowIs.alloc_at (w.alloc (.cells csc.toArray 25)) _ (by simp) #[.int .i64 0, .int .i64 0, .slice none 0 0, .slice none 0 0] 25
  have kk : Keep Nix w ((w.alloc (.cells csc.toArray 25)).alloc (.cells #[.int .i64 0, .int .i64 0, .slice none 0 0, .slice none 0 0] 25)) := ((Keep.refl Nix w).alloc _).alloc _
  have gc := rGCatalog_lawful.nix hc kk
  clear hc
  have ld0 := Whole.run (P := Try.prog) S_Catalog hlc row0
  go_enter Try.func64, Try.ntmps64
  go_wp2_with fail
  clear ld0
  go_fit (Copy_o c _ _ gc hs)
  rintro e w1 ⟨csn, rfl, hOwn, k1⟩
  (try replace row0 := row0.keep k1 id)
  (try replace rowR := rowR.keep k1 id)
  (try replace gc := rGCatalog_lawful.nix gc k1)
  (try replace hN := rGCatalog_lawful.nix hN k1)
  replace kk := kk.trans k1
  clear k1
  have hN := hOwn.read hcv hcn nT nX
  replace hN := rGCatalog_lawful.mono hN (q := fun b => w.heap.size + 1 < b ∧ b < w1.heap.size) (fun b hb => ⟨by have := hb.1; simp at this; omega, hb.2⟩)
  have hR1 : Hid (w.heap.size + 1 < w1.heap.size) := rowR.lt
  clear hOwn
  obtain ⟨hst, rowN, kV⟩ := boxed (P := Try.prog) (zs := [.int .i64 0, .int .i64 0, .slice none 0 0, .slice none 0 0]) S_Catalog w1 rfl (rGCatalog_lawful.len hN) (rGCatalog_ones hN)
  (try replace row0 := row0.keep kV id)
  (try replace rowR := rowR.keep kV id)
  (try replace gc := rGCatalog_lawful.nix gc kV)
  (try replace hN := rGCatalog_lawful.nix hN kV)
  replace kk := kk.trans kV
  clear kV gc row0
  obtain ⟨aT, cT, aX, cX, rfl, -, -, hT, hX, -⟩ := rGCatalog_open hN
  have mX : c.fIndexes.length ≤ 140737488351232 := by have := hs.2.2.2; omega
  have hnX := hs.2.2.2
  have x3 := rowN.cell 3
  (try simp only [List.getElem?_cons_succ] at x3); (try simp only [List.getElem?_cons_zero] at x3)
  go_wp2_with fail
  clear hst x3
  generalize (w1.alloc (.cells #[.int .i64 0, .int .i64 0, .slice none 0 0, .slice none 0 0] 25)).setRow w1.heap.size #[.int .i64 c.fVersion, .int .i64 c.fNext, .slice aT c.fTables.length cT, .slice aX c.fIndexes.length cX] = w2 at *
  have hw12 : w1.heap.size < w2.heap.size := rowN.lt
  go_loopw [10, 11] (fun l i wr => ∃ (k : Nat) (a : Option Addr) (cap : Nat) (css : List (List Value)) (ys : List GIndex), k ≤ c.fIndexes.length ∧ i = .int .i64 k ∧ l = .slice a ys.length cap ∧ Hid (ys = setL d to bad (c.fIndexes.take k)) ∧ ys.length ≤ k ∧ wr.ownsRow w2.heap.size 37 7 (.slice a ys.length cap) ys.length css.flatten ∧ Els rGIndex wr (fun b => w.heap.size + 1 < b ∧ b < w1.heap.size) css ys ∧ Keep Nix w2 wr) (fun _ i _ => c.fIndexes.length - (intOf i).toNat)
  case atStart => exact ⟨0, none, 0, [], [], by omega, rfl, rfl, rfl, by simp, World.ownsRow_nil _ _ _ _, Els.nil _ _ _, Keep.refl _ _⟩
  case round =>
    obtain ⟨k, ao, co, css, ys, hk, rfl, rfl, HY, hyk, own, els, kq⟩ := hrel
    have rowN2 := rowN.keep kq id
    have x3 := rowN2.cell 3
    (try simp only [List.getElem?_cons_succ] at x3); (try simp only [List.getElem?_cons_zero] at x3)
    by_cases hlt : k < c.fIndexes.length
    · have hi0 : (0 : Int) ≤ (k : Int) := by omega
      have hi1 : (k : Int) < (c.fIndexes.length : Int) := by omega
      obtain ⟨b, o, cc, cs, e1, -, hb, r, hcl⟩ := rList_at rGIndex_lawful (by decide) ((rList_lawful rGIndex_lawful).nix hX kq) k hlt
      simp only [List.cons.injEq, Value.slice.injEq, and_true] at e1
      obtain ⟨rfl, -, -⟩ := e1
      have HTK : Hid (c.fIndexes.take (k + 1) = c.fIndexes.take k ++ [c.fIndexes[k]]) := List.take_succ_eq_append_getElem hlt
      generalize c.fIndexes[k] = x at r HTK
      have hR := r
      obtain ⟨aK, cK, rfl, h0, h1, h2, h3, h5, -⟩ := rGIndex_open r
      have ld := Whole.at (P := Try.prog) S_Index rfl hcl
      unfold Whole at ld
      have hst := store_run (P := Try.prog) (cs := [.int .i64 x.fID, .int .i64 x.fTable, .string (strB x.fName), .slice aK x.fColumns.length cK, .bool x.fUnique, .int .i64 x.fState, .bool x.fBad]) S_Index (RowIs.alloc wr #[.int .i64 0, .int .i64 0, .string { data := #[] }, .slice none 0 0, .bool false, .int .i64 0, .bool false] 37) rfl rfl rfl
      have rowX := (RowIs.alloc wr #[.int .i64 0, .int .i64 0, .string { data := #[] }, .slice none 0 0, .bool false, .int .i64 0, .bool false] 37).setRow [.int .i64 x.fID, .int .i64 x.fTable, .string (strB x.fName), .slice aK x.fColumns.length cK, .bool x.fUnique, .int .i64 x.fState, .bool x.fBad]
      have kr : Keep Nix wr ((wr.alloc (.cells #[.int .i64 0, .int .i64 0, .string { data := #[] }, .slice none 0 0, .bool false, .int .i64 0, .bool false] 37)).setRow wr.heap.size [.int .i64 x.fID, .int .i64 x.fTable, .string (strB x.fName), .slice aK x.fColumns.length cK, .bool x.fUnique, .int .i64 x.fState, .bool x.fBad].toArray) := ((Keep.refl Nix wr).alloc (.cells #[.int .i64 0, .int .i64 0, .string { data := #[] }, .slice none 0 0, .bool false, .int .i64 0, .bool false] 37)).setRow (fun h => absurd h (Nat.lt_irrefl _)) _
      have y0 := rowX.cell 0
      (try simp only [List.getElem?_cons_succ] at y0); (try simp only [List.getElem?_cons_zero] at y0)
      clear hcl r rowN2
      have HSX : Hid ((((wr.alloc (.cells #[.int .i64 0, .int .i64 0, .string { data := #[] }, .slice none 0 0, .bool false, .int .i64 0, .bool false] 37)).setRow wr.heap.size [.int .i64 x.fID, .int .i64 x.fTable, .string (strB x.fName), .slice aK x.fColumns.length cK, .bool x.fUnique, .int .i64 x.fState, .bool x.fBad].toArray)).heap.size = wr.heap.size + 1) := (size_setRow _ _ _).trans (by simp)
      rcases test_eq x.fID d with ⟨ht, hT⟩ | ⟨ht, hT⟩
      · have hsx : setX d to bad x = { x with fState := to, fBad := bad } := by unfold setX; rw [if_pos hT.out]
        have hR : rGIndex wr (fun b => w.heap.size + 1 < b ∧ b < w1.heap.size) [.int .i64 x.fID, .int .i64 x.fTable, .string (strB x.fName), .slice aK x.fColumns.length cK, .bool x.fUnique, .int .i64 to, .bool bad] (setX d to bad x) := by rw [hsx]; exact rGIndex_mk wr _ (x := { x with fState := to, fBad := bad }) h0 h1 h2 h3 hto
        have y5 := rowX.cell 5
        (try simp only [List.getElem?_cons_succ] at y5); (try simp only [List.getElem?_cons_zero] at y5)
        have f5 := rowX.frozen 5
        have rowX5 := rowX.set 5 (.int .i64 to)
        simp only [List.set_cons_succ, List.set_cons_zero] at rowX5
        have y6 := rowX5.cell 6
        (try simp only [List.getElem?_cons_succ] at y6); (try simp only [List.getElem?_cons_zero] at y6)
        have f6 := rowX5.frozen 6
        have rowX6 := rowX5.set 6 (.bool bad)
        simp only [List.set_cons_succ, List.set_cons_zero] at rowX6
        have z5 := rowX6.cell 5
        (try simp only [List.getElem?_cons_succ] at z5); (try simp only [List.getElem?_cons_zero] at z5)
        replace kr : Keep Nix wr ((((wr.alloc (.cells #[.int .i64 0, .int .i64 0, .string { data := #[] }, .slice none 0 0, .bool false, .int .i64 0, .bool false] 37)).setRow wr.heap.size [.int .i64 x.fID, .int .i64 x.fTable, .string (strB x.fName), .slice aK x.fColumns.length cK, .bool x.fUnique, .int .i64 x.fState, .bool x.fBad].toArray).setCell ⟨wr.heap.size, 5, none⟩ (.int .i64 to)).setCell ⟨wr.heap.size, 6, none⟩ (.bool bad)) := (kr.setCell (p := ⟨wr.heap.size, 5, none⟩) (fun h => absurd h (Nat.lt_irrefl _)) (.int .i64 to)).setCell (p := ⟨wr.heap.size, 6, none⟩) (fun h => absurd h (Nat.lt_irrefl _)) (.bool bad)
        clear h0 h1 h2 h3 h5 hT
        rcases test_eq to 0 with ⟨t0, hT0⟩ | ⟨t0, hT0⟩
        · have t1 : (to != 0) = false := by rw [bne_eq_false_iff_eq]; exact hT0.out
          have HP : Hid (setL d to bad (c.fIndexes.take (k + 1)) = ys) := by show _ = _; rw [HTK.out, setL_no (by rw [hsx]; exact hT0.out), HY.out]
          clear hsx hT0
          have ownZ := owned_keep own kr (fun _ _ h => h)
          have els2 := els.keep rGIndex_lawful kr (fun _ _ h => h)
          replace kq := kq.trans kr
          clear own els kr hR
          go_wp2_with fail
          go_roundw
          case rel => exact ⟨k + 1, ao, co, css, ys, by omega, by go_num, rfl, HP.out.symm, by omega, ownZ, els2, kq⟩
          case measure => simp [intOf]; omega
        · have t1 : (to != 0) = true := by rw [bne_iff_ne]; exact hT0
          have HP : Hid (setL d to bad (c.fIndexes.take (k + 1)) = ys ++ [setX d to bad x]) := by show _ = _; rw [HTK.out, setL_yes (by rw [hsx]; exact hT0), HY.out]
          clear hsx hT0
          have HSW := Lib.hid ((size_setCell (((wr.alloc (.cells #[.int .i64 0, .int .i64 0, .string { data := #[] }, .slice none 0 0, .bool false, .int .i64 0, .bool false] 37)).setRow wr.heap.size [.int .i64 x.fID, .int .i64 x.fTable, .string (strB x.fName), .slice aK x.fColumns.length cK, .bool x.fUnique, .int .i64 x.fState, .bool x.fBad].toArray).setCell ⟨wr.heap.size, 5, none⟩ (.int .i64 to)) ⟨wr.heap.size, 6, none⟩ (.bool bad)).trans ((size_setCell _ _ _).trans HSX.out))
          have hls := list_run (P := Try.prog) T_lIndex (by decide) [.int .i64 x.fID, .int .i64 x.fTable, .string (strB x.fName), .slice aK x.fColumns.length cK, .bool x.fUnique, .int .i64 to, .bool bad] rfl ((((wr.alloc (.cells #[.int .i64 0, .int .i64 0, .string { data := #[] }, .slice none 0 0, .bool false, .int .i64 0, .bool false] 37)).setRow wr.heap.size [.int .i64 x.fID, .int .i64 x.fTable, .string (strB x.fName), .slice aK x.fColumns.length cK, .bool x.fUnique, .int .i64 x.fState, .bool x.fBad].toArray).setCell ⟨wr.heap.size, 5, none⟩ (.int .i64 to)).setCell ⟨wr.heap.size, 6, none⟩ (.bool bad))
          have ldx := Whole.row (P := Try.prog) S_Index rfl rowX6
          unfold Whole at ldx
          have ownZ := owned_keep own kr (fun _ _ h => h)
          have hs1 := kr.size
          have hsz := Lib.hid hs1
          have hs2 := kq.size
          go_wp2_with (at_builtin; refine wpl_append1_at (c := 1) T_lIndex ?hgd (.tmp 38) (.tmp 40) ?ho _ ?hs ownZ ?hx ?c0 ?c1 ?c2 ?c3 ?c4 ?_)
          case hgd => rfl
          case ho => rfl
          case hs => rfl
          case hx => rw [HSW.out]; rfl
          case c0 => rfl
          case c1 => exact ⟨rfl, rfl, rfl, rfl, rfl, rfl, rfl⟩
          case c2 => unfold maxLen; omega
          case c3 => omega
          case c4 => exact Nat.le_trans hs2 hs1
          intro a' cap' w6 own6 k6 hfresh
          have hn6 : ∀ b, OwnB (.slice ao ys.length co) b → w2.heap.size ≤ b := fun b hb => (own.lt b hb).1
          have hR2 := rGIndex_lawful.keep (rGIndex_lawful.nix hR kr) k6 (fun b hb e => by have := hn6 _ e; have := hb.2; omega)
          have els2 := Els.snoc ((els.keep rGIndex_lawful kr (fun _ _ h => h)).keep rGIndex_lawful k6 (fun b hb e => by have := hn6 _ e; have := hb.2; omega)) hR2
          replace kq := (kq.trans kr).then k6 (fun i hi hb => by have := hn6 _ hb; omega)
          clear ownZ own els k6 kr hfresh hls ldx hR hR2 hs1 hs2 hsz
          go_wp2_with fail
          go_roundw
          case rel => exact ⟨k + 1, a', cap', css ++ [[.int .i64 x.fID, .int .i64 x.fTable, .string (strB x.fName), .slice aK x.fColumns.length cK, .bool x.fUnique, .int .i64 to, .bool bad]], ys ++ [_], by omega, by go_num, by simp, HP.out.symm, by simp; omega, by simpa using own6, els2, kq⟩
          case measure => simp [intOf]; omega
      · have hsx : setX d to bad x = x := by unfold setX; rw [if_neg hT]
        replace hR : rGIndex wr (fun b => w.heap.size + 1 < b ∧ b < w1.heap.size) [.int .i64 x.fID, .int .i64 x.fTable, .string (strB x.fName), .slice aK x.fColumns.length cK, .bool x.fUnique, .int .i64 x.fState, .bool x.fBad] (setX d to bad x) := by rw [hsx]; exact hR
        have y5 := rowX.cell 5
        (try simp only [List.getElem?_cons_succ] at y5); (try simp only [List.getElem?_cons_zero] at y5)
        clear h0 h1 h2 h3 h5 hT
        rcases test_eq x.fState 0 with ⟨t0, hT0⟩ | ⟨t0, hT0⟩
        · have t1 : (x.fState != 0) = false := by rw [bne_eq_false_iff_eq]; exact hT0.out
          have HP : Hid (setL d to bad (c.fIndexes.take (k + 1)) = ys) := by show _ = _; rw [HTK.out, setL_no (by rw [hsx]; exact hT0.out), HY.out]
          clear hsx hT0
          have ownZ := owned_keep own kr (fun _ _ h => h)
          have els2 := els.keep rGIndex_lawful kr (fun _ _ h => h)
          replace kq := kq.trans kr
          clear own els kr hR
          go_wp2_with fail
          go_roundw
          case rel => exact ⟨k + 1, ao, co, css, ys, by omega, by go_num, rfl, HP.out.symm, by omega, ownZ, els2, kq⟩
          case measure => simp [intOf]; omega
        · have t1 : (x.fState != 0) = true := by rw [bne_iff_ne]; exact hT0
          have HP : Hid (setL d to bad (c.fIndexes.take (k + 1)) = ys ++ [setX d to bad x]) := by show _ = _; rw [HTK.out, setL_yes (by rw [hsx]; exact hT0), HY.out]
          clear hsx hT0
          have hls := list_run (P := Try.prog) T_lIndex (by decide) [.int .i64 x.fID, .int .i64 x.fTable, .string (strB x.fName), .slice aK x.fColumns.length cK, .bool x.fUnique, .int .i64 x.fState, .bool x.fBad] rfl ((wr.alloc (.cells #[.int .i64 0, .int .i64 0, .string { data := #[] }, .slice none 0 0, .bool false, .int .i64 0, .bool false] 37)).setRow wr.heap.size [.int .i64 x.fID, .int .i64 x.fTable, .string (strB x.fName), .slice aK x.fColumns.length cK, .bool x.fUnique, .int .i64 x.fState, .bool x.fBad].toArray)
          have ldx := Whole.row (P := Try.prog) S_Index rfl rowX
          unfold Whole at ldx
          have ownZ := owned_keep own kr (fun _ _ h => h)
          have hs1 := kr.size
          have hsz := Lib.hid hs1
          have hs2 := kq.size
          go_wp2_with (at_builtin; refine wpl_append1_at (c := 1) T_lIndex ?hgd (.tmp 38) (.tmp 40) ?ho _ ?hs ownZ ?hx ?c0 ?c1 ?c2 ?c3 ?c4 ?_)
          case hgd => rfl
          case ho => rfl
          case hs => rfl
          case hx => rw [HSX.out]; rfl
          case c0 => rfl
          case c1 => exact ⟨rfl, rfl, rfl, rfl, rfl, rfl, rfl⟩
          case c2 => unfold maxLen; omega
          case c3 => omega
          case c4 => exact Nat.le_trans hs2 hs1
          intro a' cap' w6 own6 k6 hfresh
          have hn6 : ∀ b, OwnB (.slice ao ys.length co) b → w2.heap.size ≤ b := fun b hb => (own.lt b hb).1
          have hR2 := rGIndex_lawful.keep (rGIndex_lawful.nix hR kr) k6 (fun b hb e => by have := hn6 _ e; have := hb.2; omega)
          have els2 := Els.snoc ((els.keep rGIndex_lawful kr (fun _ _ h => h)).keep rGIndex_lawful k6 (fun b hb e => by have := hn6 _ e; have := hb.2; omega)) hR2
          replace kq := (kq.trans kr).then k6 (fun i hi hb => by have := hn6 _ hb; omega)
          clear ownZ own els k6 kr hfresh hls ldx hR hR2 hs1 hs2 hsz
          go_wp2_with fail
          go_roundw
          case rel => exact ⟨k + 1, a', cap', css ++ [[.int .i64 x.fID, .int .i64 x.fTable, .string (strB x.fName), .slice aK x.fColumns.length cK, .bool x.fUnique, .int .i64 x.fState, .bool x.fBad]], ys ++ [_], by omega, by go_num, by simp, HP.out.symm, by simp; omega, by simpa using own6, els2, kq⟩
          case measure => simp [intOf]; omega
    · obtain rfl : k = c.fIndexes.length := by omega
      have HP : Hid (setL d to bad c.fIndexes = ys) := by have := HY.out; rw [List.take_length] at this; exact this.symm
      clear HY hlt hk
      have rowN2 := rowN.keep kq id
      have rowR2 := rowR.keep kq id
      have hT2 := (rList_lawful rGTable_lawful).nix hT kq
      have f3 := rowN2.frozen 3
      have rowN3 := rowN2.set 3 (.slice ao ys.length co)
      simp only [List.set_cons_succ, List.set_cons_zero] at rowN3
      have x0 := rowN3.cell 0
      (try simp only [List.getElem?_cons_succ] at x0); (try simp only [List.getElem?_cons_zero] at x0)
      have f0 := rowN3.frozen 0
      have rowN4 := rowN3.set 0 (.int .i64 (c.fVersion + 1))
      simp only [List.set_cons_zero] at rowN4
      have i2 : IntKind.i64.wrap (c.fVersion + 1) = c.fVersion + 1 := by have := hcv.1; rw [IntKind.wrap_i64]; omega
      have hcv2 : isI64 (c.fVersion + 1) := ⟨by have := hcv.1; omega, by omega⟩
      have kB : Keep (· = w1.heap.size) wr ((wr.setCell ⟨w1.heap.size, 3, none⟩ (.slice ao ys.length co)).setCell ⟨w1.heap.size, 0, none⟩ (.int .i64 (c.fVersion + 1))) := ((Keep.refl (· = w1.heap.size) wr).setCell (p := ⟨w1.heap.size, 3, none⟩) (fun _ => rfl) _).setCell (p := ⟨w1.heap.size, 0, none⟩) (fun _ => rfl) _
      have hRlt := rowR.lt
      have hw1 : w.heap.size + 1 < w1.heap.size := hR1.out
      have rowR3 := rowR2.keep kB (by omega)
      have ldO := Whole.run (P := Try.prog) S_Catalog rfl rowN4
      have hstR := store_run (P := Try.prog) (cs := [.int .i64 (c.fVersion + 1), .int .i64 c.fNext, .slice aT c.fTables.length cT, .slice ao ys.length co]) S_Catalog rowR3 rfl rfl rfl
      have rowF := rowR3.setRow [.int .i64 (c.fVersion + 1), .int .i64 c.fNext, .slice aT c.fTables.length cT, .slice ao ys.length co]
      obtain ⟨kF, kS⟩ := kk_set2 ((kk.trans kq).then kB (fun i hi e => by omega)) (Nat.le_succ w.heap.size) [.int .i64 (c.fVersion + 1), .int .i64 c.fNext, .slice aT c.fTables.length cT, .slice ao ys.length co].toArray
      have hgl : ∀ b, OwnB (.slice ao ys.length co) b → w2.heap.size ≤ b ∧ b < wr.heap.size := fun b hb => own.lt b hb
      have hs4 := kB.size
      have hs5 := kS.size
      have hs6 := kq.size
      have e : setF c d to bad = { c with fVersion := c.fVersion + 1, fIndexes := ys } := by unfold setF; rw [HP.out]
      have hres : rGCatalog (((wr.setCell ⟨w1.heap.size, 3, none⟩ (.slice ao ys.length co)).setCell ⟨w1.heap.size, 0, none⟩ (.int .i64 (c.fVersion + 1))).setRow (w.heap.size + 1) [.int .i64 (c.fVersion + 1), .int .i64 c.fNext, .slice aT c.fTables.length cT, .slice ao ys.length co].toArray) (NewIn w (((wr.setCell ⟨w1.heap.size, 3, none⟩ (.slice ao ys.length co)).setCell ⟨w1.heap.size, 0, none⟩ (.int .i64 (c.fVersion + 1))).setRow (w.heap.size + 1) [.int .i64 (c.fVersion + 1), .int .i64 c.fNext, .slice aT c.fTables.length cT, .slice ao ys.length co].toArray)) [.int .i64 (c.fVersion + 1), .int .i64 c.fNext, .slice aT c.fTables.length cT, .slice ao ys.length co] (setF c d to bad) := by
        rw [e]
        refine rGCatalog_mk _ _ (x := { c with fVersion := c.fVersion + 1, fIndexes := ys }) hcv2 hcn ?_ ?_
        · exact (rList_lawful rGTable_lawful).mono ((rList_lawful rGTable_lawful).keep ((rList_lawful rGTable_lawful).keep hT2 kB (fun b hb e => by have := hb.2; omega)) kS (fun b hb e => by have := hb.1; omega)) (fun b hb => ⟨by have := hb.1; omega, by have := hb.2; exact Nat.lt_of_lt_of_le (show b < wr.heap.size by omega) (Nat.le_trans hs4 hs5)⟩)
        · exact list_owned (R := rGIndex) (owned_keep (owned_keep own kB (fun b hb e => by have := hgl b hb; omega)) kS (fun b hb e => by have := hgl b hb; omega))
            ((els.keep rGIndex_lawful kB (fun b hb e => by have := hb.2; omega)).keep rGIndex_lawful kS (fun b hb e => by have := hb.1; omega)) (by show ys.length ≤ far; unfold far; omega) (fun _ _ h => rGIndex_lawful.mono h (fun b hb => ⟨by have := hb.1; omega, by have := hb.2; exact Nat.lt_of_lt_of_le (show b < wr.heap.size by omega) (Nat.le_trans hs4 hs5)⟩)) (fun b h1 h2 => by have := hgl b h2; exact ⟨by omega, by exact Nat.lt_of_lt_of_le (show b < wr.heap.size by omega) (Nat.le_trans hs4 hs5)⟩)
      have HRES := Lib.hid hres
      have HKF := Lib.hid kF
      clear hres kF kS kB own els hT2 rowN2 rowN3 rowN4 rowR2 rowR3 kq kk hgl e
      go_wp2_with fail
      refine bodyPost_ret (results_cell_row (by rfl) _ _ _ _ _ _ _ (by rfl) rowF Try.underlying25 (by rfl) S_Catalog.info) rfl ?_
      exact ⟨_, rfl, HRES.out, HKF.out⟩
end
end Go.Proofs.Ytfogbbnfedcldaa
