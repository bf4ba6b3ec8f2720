/- SCHEMA: a catalog of one's own, by the reference. Printed by mac.py. -/
import Derived.Test.YtfogbbnfedcldaaSchH
namespace Go.Proofs.Ytfogbbnfedcldaa
open Go.RowKit

/-- 'append(nil, l...)' at a step of a region that draws. -/
theorem step_clone {P : Program} {t e sz bytes : Nat} (T : SliceT P t e sz bytes) {w : World} {ops : Array Oper} {o : Oper} {a : Act} {K : Act → World → Prop} {Q : Exit → Act → World → Prop} {E : Prop} (hgd : o.guard = none) (x : Operand)
    (ho : o.op = .call { callee := .builtin .append, args := #[.const (.slice none 0 0), x], argTypes := #[t, t] })
    {p : Nat → Prop} {ad : Option Addr} {m c : Nat} (news : List Value) (hx : a.eval x = .slice ad m c) (hl : news.length = m * sz) (hlies : Lies w p ad news) (h1 : ∀ u ∈ news, u.oneCell' = true)
    (h63 : m ≤ maxLen) (hbytes : m * bytes ≤ 140737488355328)
    (h : ∀ a' cap' w', w'.ownsRow w.heap.size e sz (.slice a' m cap') m news → Keep Nix w w' → K (a.put o.dst (.slice a' m cap')) w') :
    if Region.wanted o (yielded ops a.tmps) = true then Oper.wp P o a w K Q else E := by
  obtain ⟨i, z, hi, hz, hsz, hby, hzs⟩ := T.info
  by_cases hm : m = 0
  · subst hm
    have hn : news = [] := List.eq_nil_of_length_eq_zero (by simpa using hl)
    subst hn
    have hw : Region.wanted o (yielded ops a.tmps) = true := by simp [Region.wanted, hgd]
    rw [if_pos hw]
    have hrun : (Builtin.append_ #[t, t] o.type #[.slice none 0 0, .slice ad 0 c]).run P w = .ok (.slice none 0 0) w := by
      cases ad <;> simp [Builtin.append_, run_underlying T.under, sizeOf, typeInfo, hi, Builtin.lenOf, Builtin.firstCells, loadCells, loadCellsFrom]
    unfold Oper.wp
    have hs : a.eval (.const (.slice none 0 0)) = .slice none 0 0 := rfl
    simp only [execOp, ho, resolve, invoke, builtin, List.map_toArray, List.map_cons, List.map_nil, hs, hx, hrun, Sem.run_bind, Sem.run_pure, Result.andThen_ok]
    exact h none 0 w (World.ownsRow_nil _ _ _ _) (Keep.refl _ _)
  · have hne : news ≠ [] := fun e => by subst e; have := Nat.mul_pos (Nat.pos_of_ne_zero hm) T.pos; simp at hl; omega
    obtain ⟨b, off, rfl, hp, hb, hc⟩ := hlies hne
    refine step_append_lies w hgd (.const (.slice none 0 0)) x t ho w.heap.size e i z sz bytes T.under hi hz hsz hby hzs T.pos (.slice none 0 0) 0 [] rfl (World.ownsRow_nil _ _ _ _) ⟨b, off, none⟩ m c news hx hl (fun j u hu => by rw [Addr.add_lit]; exact hc j u hu) h1 (Nat.pos_of_ne_zero hm) (by omega) (by rw [Nat.zero_add]; exact hbytes) (Nat.le_refl _) _ rfl ?_
    intro g cap' w' ho' hg hat hlt'
    rw [Nat.zero_add, List.nil_append] at ho'
    have := h (some ⟨g, 0, none⟩) cap' w' ho' ((Keep.refl _ _).grown hg fun k hk => nomatch hk)
    rw [Nat.zero_add]
    exact this
def RetOwn2 (w : World) (c : GCatalog) (e : Ending) (w' : World) : Prop := ∃ cs : List Value, e = .returned (.agg cs.toArray) ∧ OwnCat (w.heap.size + 1 + 1) w' cs c ∧ Keep Nix w w'
section
attribute [local go_sem ↓] ldz_Table stz_Table ldz_Catalog stz_Catalog ldz_Index stz_Index lsz_Table lsz_Index bdz_Catalog
set_option maxRecDepth 100000 in
set_option maxHeartbeats 8000000 in
theorem Copy_o {p : Nat → Prop} (c : GCatalog) (csc : List Value) (w : World) (hc : rGCatalog w p csc c) (hs : smallC c) :
    Calls Try.prog 11 #[.agg csc.toArray] w (RetOwn2 w c) := by
  obtain ⟨aT, cT, aX, cX, rfl, hv, hn, hT, hX, -⟩ := rGCatalog_open hc
  obtain ⟨hsT, hsX, nT, nX⟩ := hs
  have mT : c.fTables.length ≤ 140737488351232 := by omega
  have mX : c.fIndexes.length ≤ 140737488351232 := by omega
  have HST := Lib.hid hsT
  have HSX := Lib.hid hsX
  have row0 : RowIs ((w.alloc (.cells #[.int .i64 c.fVersion, .int .i64 c.fNext, .slice aT c.fTables.length cT, .slice aX c.fIndexes.length cX] 25)).alloc (.cells #[.int .i64 0, .int .i64 0, .slice none 0 0, .slice none 0 0] 25)) w.heap.size 25 [.int .i64 c.fVersion, .int .i64 c.fNext, .slice aT c.fTables.length cT, .slice aX c.fIndexes.length cX] := (RowIs.alloc w _ _).keep ((Keep.refl Nix _).alloc _) id
  have rowR : RowIs ((w.alloc (.cells #[.int .i64 c.fVersion, .int .i64 c.fNext, .slice aT c.fTables.length cT, .slice aX c.fIndexes.length cX] 25)).alloc (.cells #[.int .i64 0, .int .i64 0, .slice none 0 0, .slice none 0 0] 25)) (w.heap.size + 1) 25 [.int .i64 0, .int .i64 0, .slice none 0 0, .slice none 0 0] := RowIs.alloc_at (w.alloc (.cells #[.int .i64 c.fVersion, .int .i64 c.fNext, .slice aT c.fTables.length cT, .slice aX c.fIndexes.length cX] 25)) _ (by simp) #[.int .i64 0, .int .i64 0, .slice none 0 0, .slice none 0 0] 25
  have kk : Keep Nix w ((w.alloc (.cells #[.int .i64 c.fVersion, .int .i64 c.fNext, .slice aT c.fTables.length cT, .slice aX c.fIndexes.length cX] 25)).alloc (.cells #[.int .i64 0, .int .i64 0, .slice none 0 0, .slice none 0 0] 25)) := ((Keep.refl Nix w).alloc _).alloc _
  obtain ⟨w0, hw0⟩ : ∃ w0 : World, w0.heap.size = w.heap.size + 1 + 1 := ⟨((w.alloc (.cells #[.int .i64 c.fVersion, .int .i64 c.fNext, .slice aT c.fTables.length cT, .slice aX c.fIndexes.length cX] 25)).alloc (.cells #[.int .i64 0, .int .i64 0, .slice none 0 0, .slice none 0 0] 25)), by simp⟩
  clear hc hsT hsX
  have x2 := row0.cell 2
  (try simp only [List.getElem?_cons_succ] at x2); (try simp only [List.getElem?_cons_zero] at x2)
  go_enter Try.func11, Try.ntmps11
  go_wp2_with fail
  clear x2
  go_loopw [3, 4] (fun l i wr => ∃ (k : Nat) (a : Option Addr) (cap : Nat) (css : List (List Value)), k ≤ c.fTables.length ∧ i = .int .i64 k ∧ l = .slice a k cap ∧ wr.ownsRow (w.heap.size + 1 + 1) 33 4 (.slice a k cap) k css.flatten ∧ Els fGTable wr (fun b => NewIn w0 wr b ∧ ¬ OwnB (.slice a k cap) b) css (c.fTables.take k) ∧ RowIs wr w.heap.size 25 [.int .i64 c.fVersion, .int .i64 c.fNext, .slice aT c.fTables.length cT, .slice aX c.fIndexes.length cX] ∧ RowIs wr (w.heap.size + 1) 25 [.int .i64 0, .int .i64 0, .slice none 0 0, .slice none 0 0] ∧ Keep Nix w wr) (fun _ i _ => c.fTables.length - (intOf i).toNat)
  case atStart => exact ⟨0, none, 0, [], by omega, rfl, rfl, World.ownsRow_nil _ _ _ _, Els.nil _ _ _, row0, rowR, kk⟩
  case round =>
    clear row0 kk rowR
    obtain ⟨k, ao, co, css, hk, rfl, rfl, own, els, row0, rowR, kk⟩ := hrel
    have hbO : w.heap.size + 1 < wr.heap.size := rowR.lt
    have x2 := row0.cell 2
    (try simp only [List.getElem?_cons_succ] at x2); (try simp only [List.getElem?_cons_zero] at x2)
    by_cases hlt : k < c.fTables.length
    rotate_left
    · obtain rfl : k = c.fTables.length := by omega
      have hTge : ∀ b, OwnB (.slice ao c.fTables.length co) b → w.heap.size + 1 + 1 ≤ b := fun b hb => (own.lt b hb).1
      have hTlt : ∀ b, OwnB (.slice ao c.fTables.length co) b → b < wr.heap.size := fun b hb => (own.lt b hb).2
      have ownT := own
      have elsT : Els fGTable wr (fun b => NewIn w0 wr b ∧ ¬ OwnB (.slice ao c.fTables.length co) b) css c.fTables := by
        have e : c.fTables.take c.fTables.length = c.fTables := List.take_length
        rw [e] at els
        exact els
      obtain ⟨cssT, hcssT⟩ : ∃ cssT, cssT = css := ⟨_, rfl⟩
      rw [← hcssT] at ownT elsT
      obtain ⟨wo, rfl⟩ : ∃ wo : World, wo = wr := ⟨_, rfl⟩
      clear els own HST hk hlt hcssT
      have x3 := row0.cell 3
      (try simp only [List.getElem?_cons_succ] at x3); (try simp only [List.getElem?_cons_zero] at x3)
      go_wp2_with fail
      clear x2 x3
      go_loopw [6, 7] (fun l i wi => ∃ (k : Nat) (a : Option Addr) (cap : Nat) (css : List (List Value)), k ≤ c.fIndexes.length ∧ i = .int .i64 k ∧ l = .slice a k cap ∧ wi.ownsRow wo.heap.size 37 7 (.slice a k cap) k css.flatten ∧ Els fGIndex wi (fun b => NewIn wo wi b ∧ ¬ OwnB (.slice a k cap) b) css (c.fIndexes.take k) ∧ wi.ownsRow (w.heap.size + 1 + 1) 33 4 (.slice ao c.fTables.length co) c.fTables.length cssT.flatten ∧ Els fGTable wi (fun b => NewIn w0 wo b ∧ ¬ OwnB (.slice ao c.fTables.length co) b) cssT c.fTables ∧ RowIs wi w.heap.size 25 [.int .i64 c.fVersion, .int .i64 c.fNext, .slice aT c.fTables.length cT, .slice aX c.fIndexes.length cX] ∧ RowIs wi (w.heap.size + 1) 25 [.int .i64 0, .int .i64 0, .slice none 0 0, .slice none 0 0] ∧ wo.heap.size ≤ wi.heap.size ∧ Keep Nix w wi) (fun _ i _ => c.fIndexes.length - (intOf i).toNat)
      case atStart => exact ⟨0, none, 0, [], by omega, rfl, rfl, World.ownsRow_nil _ _ _ _, Els.nil _ _ _, ownT, elsT, row0, rowR, Nat.le_refl _, kk⟩
      case round =>
        clear row0 kk rowR ownT elsT
        obtain ⟨k, ai, ci, css, hk, rfl, rfl, own, els, ownT, elsT, row0, rowR, hwo, kk⟩ := hrel
        have x3 := row0.cell 3
        (try simp only [List.getElem?_cons_succ] at x3); (try simp only [List.getElem?_cons_zero] at x3)
        by_cases hlt : k < c.fIndexes.length
        · have hi0 : (0 : Int) ≤ (k : Int) := by omega
          have hi1 : (k : Int) < (c.fIndexes.length : Int) := by omega
          obtain ⟨b, o, cc, cs, e1, -, hb, r, hcl⟩ := rList_at rGIndex_lawful (by decide) ((rList_lawful rGIndex_lawful).nix hX kk) k hlt
          simp only [List.cons.injEq, Value.slice.injEq, and_true] at e1
          obtain ⟨rfl, -, -⟩ := e1
          have HTK : Hid (c.fIndexes.take (k + 1) = c.fIndexes.take k ++ [c.fIndexes[k]]) := List.take_succ_eq_append_getElem hlt
          have hx1 := HSX.out _ (List.getElem_mem hlt)
          unfold smallX at hx1
          generalize c.fIndexes[k] = x at r HTK hx1
          obtain ⟨aK, cK, rfl, h0, h1, h2, h3, h5, -⟩ := rGIndex_open r
          have ld := Whole.at (P := Try.prog) S_Index rfl hcl
          unfold Whole at ld
          have hst := store_run (P := Try.prog) (cs := [.int .i64 x.fID, .int .i64 x.fTable, .string (strB x.fName), .slice aK x.fColumns.length cK, .bool x.fUnique, .int .i64 x.fState, .bool x.fBad]) S_Index (RowIs.alloc wr #[.int .i64 0, .int .i64 0, .string { data := #[] }, .slice none 0 0, .bool false, .int .i64 0, .bool false] 37) rfl rfl rfl
          have rowX := (RowIs.alloc wr #[.int .i64 0, .int .i64 0, .string { data := #[] }, .slice none 0 0, .bool false, .int .i64 0, .bool false] 37).setRow [.int .i64 x.fID, .int .i64 x.fTable, .string (strB x.fName), .slice aK x.fColumns.length cK, .bool x.fUnique, .int .i64 x.fState, .bool x.fBad]
          have kr : Keep Nix wr ((wr.alloc (.cells #[.int .i64 0, .int .i64 0, .string { data := #[] }, .slice none 0 0, .bool false, .int .i64 0, .bool false] 37)).setRow wr.heap.size [.int .i64 x.fID, .int .i64 x.fTable, .string (strB x.fName), .slice aK x.fColumns.length cK, .bool x.fUnique, .int .i64 x.fState, .bool x.fBad].toArray) := ((Keep.refl Nix wr).alloc (.cells #[.int .i64 0, .int .i64 0, .string { data := #[] }, .slice none 0 0, .bool false, .int .i64 0, .bool false] 37)).setRow (fun h => absurd h (Nat.lt_irrefl _)) _
          replace h3 := (rList_lawful (rInt_lawful _)).nix h3 kr
          obtain ⟨cssK, liesK, elsK⟩ := rList_css h3
          have hflK := elsK.flat_len (rInt_lawful _)
          have H1K := elsK.ones rInt_ones
          have y3 := rowX.cell 3
          (try simp only [List.getElem?_cons_succ] at y3); (try simp only [List.getElem?_cons_zero] at y3)
          have hsx := rowX.lt
          clear h3 hcl
          go_wp2_with (at_builtin; refine wpl_append T_lint rfl (.const (.slice none 0 0)) (.tmp 46) rfl (wr.heap.size + 1) rfl (World.ownsRow_nil _ _ _ _) cssK.flatten rfl hflK liesK H1K ?c1 ?c2 ?c3 ?_)
          case c1 => unfold maxLen; omega
          case c2 => omega
          case c3 => simp
          intro a1 cap1 wa own1 hg
          (try rw [Nat.zero_add, List.nil_append] at own1)
          (try rw [Nat.zero_add])
          have ka : Keep Nix ((wr.alloc (.cells #[.int .i64 0, .int .i64 0, .string { data := #[] }, .slice none 0 0, .bool false, .int .i64 0, .bool false] 37)).setRow wr.heap.size [.int .i64 x.fID, .int .i64 x.fTable, .string (strB x.fName), .slice aK x.fColumns.length cK, .bool x.fUnique, .int .i64 x.fState, .bool x.fBad].toArray) wa := (Keep.refl _ _).grown hg fun k hk => nomatch hk
          replace rowX := rowX.keep ka id
          replace kr := kr.trans ka
          have s1 := ka.size
          clear ka hg ld hst y3
          have y3 := rowX.cell 3
          (try simp only [List.getElem?_cons_succ] at y3); (try simp only [List.getElem?_cons_zero] at y3)
          have f3 := rowX.frozen 3
          have rowX4 := rowX.set 3 (.slice a1 x.fColumns.length cap1)
          simp only [List.set_cons_succ, List.set_cons_zero] at rowX4
          have kS : Keep (· = wr.heap.size) wa (wa.setCell ⟨wr.heap.size, 3, none⟩ (.slice a1 x.fColumns.length cap1)) := (Keep.refl (· = wr.heap.size) wa).setCell (p := ⟨wr.heap.size, 3, none⟩) (fun _ => rfl) _
          replace kr := kr.then kS (fun i hi e => by omega)
          have g1 : ∀ b, OwnB (.slice a1 x.fColumns.length cap1) b → wr.heap.size < b := fun b hb => by have := (own1.lt b hb).1; omega
          have hL1 : rListW (rInt .i64) (wa.setCell ⟨wr.heap.size, 3, none⟩ (.slice a1 x.fColumns.length cap1)) (NewIn wr (wa.setCell ⟨wr.heap.size, 3, none⟩ (.slice a1 x.fColumns.length cap1))) [.slice a1 x.fColumns.length cap1] x.fColumns :=
            rListW_owned (q := p) (owned_keep own1 kS (fun b hb e => by have := g1 b hb; omega)) ⟨elsK.1, fun i c y hc hy => elsK.2 i c y hc hy⟩ (by unfold far; omega) (fun c y h => rInt_any h) (fun b hb hlt => ⟨by omega, hlt⟩)
          have hN : fGIndex (wa.setCell ⟨wr.heap.size, 3, none⟩ (.slice a1 x.fColumns.length cap1)) (NewIn wr (wa.setCell ⟨wr.heap.size, 3, none⟩ (.slice a1 x.fColumns.length cap1))) [.int .i64 x.fID, .int .i64 x.fTable, .string (strB x.fName), .slice a1 x.fColumns.length cap1, .bool x.fUnique, .int .i64 x.fState, .bool x.fBad] x := ⟨[_], [_], [_], [_], [_], [_], [_], rfl, ⟨rfl, wf_of_isI64 h0⟩, ⟨rfl, wf_of_isI64 h1⟩, ⟨rfl, h2⟩, hL1, rfl, ⟨rfl, wf_of_isI64 h5⟩, rfl⟩
          have ld := Whole.row (P := Try.prog) S_Index rfl rowX4
          unfold Whole at ld
          have hls := list_run (P := Try.prog) T_lIndex (by decide) [.int .i64 x.fID, .int .i64 x.fTable, .string (strB x.fName), .slice a1 x.fColumns.length cap1, .bool x.fUnique, .int .i64 x.fState, .bool x.fBad] rfl (wa.setCell ⟨wr.heap.size, 3, none⟩ (.slice a1 x.fColumns.length cap1))
          have ownZ := owned_keep own kr (fun _ _ h => h)
          have hsZ := kr.size
          have hsw := size_setCell wa ⟨wr.heap.size, 3, none⟩ (.slice a1 x.fColumns.length cap1)
          have HSW := Lib.hid hsw
          clear hsw hL1 own1 g1 kS rowX rowX4
          go_wp2_with (at_builtin; refine wpl_append1_at (c := 1) T_lIndex ?hgd (.tmp 49) (.tmp 51) ?ho _ ?hs ownZ ?hx ?c0 ?c1 ?c2 ?c3 ?c4 ?_)
          case hgd => rfl
          case ho => rfl
          case hs => rfl
          case hx => rw [HSW.out]; rfl
          case c0 => rfl
          case c1 => exact ⟨rfl, rfl, rfl, rfl, rfl, rfl, rfl⟩
          case c2 => unfold maxLen; omega
          case c3 => omega
          case c4 => have := HSW.out; omega
          intro a' cap' w6 own6 k6 hfresh
          have hn6 : ∀ b, OwnB (.slice ai k ci) b → wo.heap.size ≤ b ∧ b < wr.heap.size := fun b hb => own.lt b hb
          have els2 := els.push0 fGIndex_lawful hN kr k6 hwo (fun b hb => (own.lt b hb).2) (fun b hb => (hfresh b hb).imp id (fun h => Nat.le_trans (Nat.le_of_eq HSW.out) h))
          have hbo := rowR.lt
          have hwo' := hTlt
          replace row0 := (row0.keep kr id).keep k6 (fun hb => by have := hn6 _ hb; omega)
          replace rowR := (rowR.keep kr id).keep k6 (fun hb => by have := hn6 _ hb; omega)
          replace ownT := owned_keep (owned_keep ownT kr (fun _ _ h => h)) k6 (fun b hb e => by have := hn6 _ e; have := hTlt _ hb; omega)
          replace elsT := (elsT.keep fGTable_lawful kr (fun _ _ h => h)).keep fGTable_lawful k6 (fun b hb e => by have := hn6 _ e; have := hb.1.2; omega)
          replace kk := (kk.trans kr).then k6 (fun i hi hb => by have := hn6 _ hb; omega)
          have hs6 : wo.heap.size ≤ w6.heap.size := by have := k6.size; omega
          clear ownZ hN els own k6 kr hfresh ld hls
          go_wp2_with fail
          go_roundw
          case rel => exact ⟨k + 1, a', cap', css ++ [[.int .i64 x.fID, .int .i64 x.fTable, .string (strB x.fName), .slice a1 x.fColumns.length cap1, .bool x.fUnique, .int .i64 x.fState, .bool x.fBad]], by omega, by go_num, rfl, by simpa using own6, by rw [HTK.out]; exact els2, ownT, elsT, row0, rowR, hs6, kk⟩
          case measure => simp [intOf]; omega
        · obtain rfl : k = c.fIndexes.length := by omega
          have hX' : Els fGIndex wr (fun b => NewIn wo wr b ∧ ¬ OwnB (.slice ai c.fIndexes.length ci) b) css c.fIndexes := by
            have e : c.fIndexes.take c.fIndexes.length = c.fIndexes := List.take_length
            rw [e] at els
            exact els
          have hXge : ∀ b, OwnB (.slice ai c.fIndexes.length ci) b → wo.heap.size ≤ b := fun b hb => (own.lt b hb).1
          have x0 := row0.cell 0
          (try simp only [List.getElem?_cons_succ] at x0); (try simp only [List.getElem?_cons_zero] at x0)
          have x1 := row0.cell 1
          (try simp only [List.getElem?_cons_succ] at x1); (try simp only [List.getElem?_cons_zero] at x1)
          have hbd : (buildSem 25 #[(0, .int .i64 c.fVersion), (1, .int .i64 c.fNext), (2, .slice ao c.fTables.length co), (3, .slice ai c.fIndexes.length ci)]).run Try.prog wr = .ok (.value (.agg #[.int .i64 c.fVersion, .int .i64 c.fNext, .slice ao c.fTables.length co, .slice ai c.fIndexes.length ci])) wr := build_run B_Catalog [.int .i64 c.fVersion, .int .i64 c.fNext, .slice ao c.fTables.length co, .slice ai c.fIndexes.length ci] rfl wr
          have hst := store_run (P := Try.prog) (cs := [.int .i64 c.fVersion, .int .i64 c.fNext, .slice ao c.fTables.length co, .slice ai c.fIndexes.length ci]) S_Catalog rowR rfl rfl rfl
          have rowF := rowR.setRow [.int .i64 c.fVersion, .int .i64 c.fNext, .slice ao c.fTables.length co, .slice ai c.fIndexes.length ci]
          have kS : Keep (· = w.heap.size + 1) wr (wr.setRow (w.heap.size + 1) [.int .i64 c.fVersion, .int .i64 c.fNext, .slice ao c.fTables.length co, .slice ai c.fIndexes.length ci].toArray) := (Keep.refl (· = w.heap.size + 1) wr).setRow (fun _ => rfl) _
          have kF := kk.setRow (g := w.heap.size + 1) (fun h => by omega) [.int .i64 c.fVersion, .int .i64 c.fNext, .slice ao c.fTables.length co, .slice ai c.fIndexes.length ci].toArray
          have hss := kS.size
          have hres : OwnCat (w.heap.size + 1 + 1) (wr.setRow (w.heap.size + 1) [.int .i64 c.fVersion, .int .i64 c.fNext, .slice ao c.fTables.length co, .slice ai c.fIndexes.length ci].toArray) [.int .i64 c.fVersion, .int .i64 c.fNext, .slice ao c.fTables.length co, .slice ai c.fIndexes.length ci] c := ⟨ao, co, ai, ci, cssT, css, wo.heap.size, rfl, by omega, Nat.le_trans hwo hss,
            owned_keep ownT kS (fun b hb e => by have := hTge b hb; omega), hTlt, (elsT.keep fGTable_lawful kS (fun b hb e => by have := hb.1.1; omega)).mono fGTable_lawful (fun b hb => ⟨by have := hb.1.1; omega, hb.1.2, hb.2⟩),
            owned_keep own kS (fun b hb e => by have := hXge b hb; omega), (hX'.keep fGIndex_lawful kS (fun b hb e => by have := hb.1.1; omega)).mono fGIndex_lawful (fun b hb => ⟨hb.1.1, by have := hb.1.2; omega, hb.2⟩)⟩
          clear ownT elsT hX' own els row0 rowR kk kS
          go_wp2_with fail
          refine bodyPost_ret (results_cell_row (by rfl) _ _ _ _ _ _ _ (by rfl) rowF Try.underlying25 (by rfl) S_Catalog.info) rfl ?_
          exact ⟨_, rfl, hres, kF⟩
    · have hi0 : (0 : Int) ≤ (k : Int) := by omega
      have hi1 : (k : Int) < (c.fTables.length : Int) := by omega
      obtain ⟨b, o, cc, cs, e1, -, hb, r, hcl⟩ := rList_at rGTable_lawful (by decide) ((rList_lawful rGTable_lawful).nix hT kk) k hlt
      simp only [List.cons.injEq, Value.slice.injEq, and_true] at e1
      obtain ⟨rfl, -, -⟩ := e1
      have HTK : Hid (c.fTables.take (k + 1) = c.fTables.take k ++ [c.fTables[k]]) := List.take_succ_eq_append_getElem hlt
      obtain ⟨hx1, hx2⟩ := HST.out _ (List.getElem_mem hlt)
      generalize c.fTables[k] = x at r HTK hx1 hx2
      obtain ⟨aC, cC, aK, cK, rfl, h0, h1, h2, h3, -⟩ := rGTable_open r
      have ld := Whole.at (P := Try.prog) S_Table rfl hcl
      unfold Whole at ld
      have hst := store_run (P := Try.prog) (cs := [.int .i64 x.fID, .string (strB x.fName), .slice aC x.fColumns.length cC, .slice aK x.fKey.length cK]) S_Table (RowIs.alloc wr #[.int .i64 0, .string { data := #[] }, .slice none 0 0, .slice none 0 0] 33) rfl rfl rfl
      have rowX := (RowIs.alloc wr #[.int .i64 0, .string { data := #[] }, .slice none 0 0, .slice none 0 0] 33).setRow [.int .i64 x.fID, .string (strB x.fName), .slice aC x.fColumns.length cC, .slice aK x.fKey.length cK]
      have kV : Keep Nix wr ((wr.alloc (.cells #[.int .i64 0, .string { data := #[] }, .slice none 0 0, .slice none 0 0] 33)).setRow wr.heap.size [.int .i64 x.fID, .string (strB x.fName), .slice aC x.fColumns.length cC, .slice aK x.fKey.length cK].toArray) := ((Keep.refl Nix wr).alloc (.cells #[.int .i64 0, .string { data := #[] }, .slice none 0 0, .slice none 0 0] 33)).setRow (fun h => absurd h (Nat.lt_irrefl _)) _
      have kr := kV
      replace h2 := (rList_lawful rGColumn_lawful).nix h2 kV
      replace h3 := (rList_lawful (rInt_lawful _)).nix h3 kV
      clear kV hcl
      go_wp2_with fail
      clear ld hst x2
      obtain ⟨cssC, liesC, elsC⟩ := rList_css h2
      obtain ⟨cssK, liesK, elsK⟩ := rList_css h3
      have hflC := elsC.flat_len rGColumn_lawful
      have hflK := elsK.flat_len (rInt_lawful _)
      have H1C := elsC.ones rGColumn_ones
      have H1K := elsK.ones rInt_ones
      have mC : x.fColumns.length ≤ maxLen := by unfold maxLen; omega
      have bC : x.fColumns.length * 32 ≤ 140737488355328 := by omega
      have mK : x.fKey.length ≤ maxLen := by unfold maxLen; omega
      have bK : x.fKey.length * 8 ≤ 140737488355328 := by omega
      clear h2 h3
      generalize hwx : ((wr.alloc (.cells #[.int .i64 0, .string { data := #[] }, .slice none 0 0, .slice none 0 0] 33)).setRow wr.heap.size [.int .i64 x.fID, .string (strB x.fName), .slice aC x.fColumns.length cC, .slice aK x.fKey.length cK].toArray) = wx at *
      have hsx : wr.heap.size < wx.heap.size := by rw [← hwx]; simp
      clear hwx
      replace rowX := rowX.same (w' := wx.drew)
      replace liesC := liesC.same (w' := wx.drew)
      replace liesK := liesK.same (w' := wx.drew)
      replace kr := kr.drew
      replace hsx : wr.heap.size < wx.drew.heap.size := hsx
      refine wp_region_held_drew (S := fun _ => True) (by kernel_rfl) trivial (fun hHeld => ?_)
      refine wpAnyH_take (i := 0) (v := ?_) rfl (by kernel_rfl) (by kernel_rfl) (by kernel_rfl) (fun _ _ _ h => h) (Or.inl ⟨by kernel_rfl, ?_⟩) hHeld ?_
      rotate_left
      · intro w' hSw
        (try dsimp only at hSw)
        (try simp only [List.getElem_toArray]); (try simp only [List.getElem_cons_succ]); (try simp only [List.getElem_cons_zero])
        go_simp
        try with_reducible rfl
      (try simp only [Act.put]); (try simp only [List.getElem_toArray]); (try simp only [List.getElem_cons_succ]); (try simp only [List.getElem_cons_zero]); (try simp only [List.setIfInBounds_toArray]); (try simp only [List.set_cons_succ]); (try simp only [List.set_cons_zero])
      refine wpAnyH_take (i := 3) (v := ?_) rfl (by kernel_rfl) (by kernel_rfl) (by kernel_rfl) (fun _ _ _ h => h) (Or.inl ⟨by kernel_rfl, ?_⟩) hHeld ?_
      rotate_left
      · intro w' hSw
        (try dsimp only at hSw)
        (try simp only [List.getElem_toArray]); (try simp only [List.getElem_cons_succ]); (try simp only [List.getElem_cons_zero])
        go_simp
        try with_reducible rfl
      (try simp only [Act.put]); (try simp only [List.getElem_toArray]); (try simp only [List.getElem_cons_succ]); (try simp only [List.getElem_cons_zero]); (try simp only [List.setIfInBounds_toArray]); (try simp only [List.set_cons_succ]); (try simp only [List.set_cons_zero])
      refine wpAnyH_ready (rs := [1, 4]) (by kernel_rfl) (by simp) ?_
      refine AllReadyH.cons rfl (fun K hK => ?_) (AllReadyH.cons rfl (fun K hK => ?_) AllReadyH.nil)
      · have xl := rowX.cell 2
        (try simp only [List.getElem?_cons_succ] at xl); (try simp only [List.getElem?_cons_zero] at xl)
        go_simp
        clear xl
        refine hK.out _ _ (trivial) (fun hHeld => ?_)
        clear hK K
        (try simp only [Act.put]); (try simp only [List.getElem_toArray]); (try simp only [List.getElem_cons_succ]); (try simp only [List.getElem_cons_zero]); (try simp only [List.setIfInBounds_toArray]); (try simp only [List.set_cons_succ]); (try simp only [List.set_cons_zero])
        refine wpAnyH_ready (rs := [2, 4]) (by kernel_rfl) (by simp) ?_
        refine AllReadyH.cons rfl (fun K hK => ?_) (AllReadyH.cons rfl (fun K hK => ?_) AllReadyH.nil)
        · refine step_clone T_lColumn (by rfl) (.tmp 22) (by rfl) cssC.flatten (by rfl) hflC liesC H1C mC bC ?_
          intro a1 cap1 wa own1 ka
          replace rowX := rowX.keep ka id
          replace kr := kr.trans ka
          have liesK := liesK.keep ka (fun _ _ h => h)
          have s1 := ka.size
          refine hK.out _ _ (trivial) (fun hHeld => ?_)
          clear hK K
          (try simp only [Act.put]); (try simp only [List.getElem_toArray]); (try simp only [List.getElem_cons_succ]); (try simp only [List.getElem_cons_zero]); (try simp only [List.setIfInBounds_toArray]); (try simp only [List.set_cons_succ]); (try simp only [List.set_cons_zero])
          refine wpAnyH_ready (rs := [4]) (by kernel_rfl) (by simp) ?_
          refine AllReadyH.cons rfl (fun K hK => ?_) AllReadyH.nil
          have xl := rowX.cell 3
          (try simp only [List.getElem?_cons_succ] at xl); (try simp only [List.getElem?_cons_zero] at xl)
          go_simp
          clear xl
          refine hK.out _ _ (trivial) (fun hHeld => ?_)
          clear hK K
          (try simp only [Act.put]); (try simp only [List.getElem_toArray]); (try simp only [List.getElem_cons_succ]); (try simp only [List.getElem_cons_zero]); (try simp only [List.setIfInBounds_toArray]); (try simp only [List.set_cons_succ]); (try simp only [List.set_cons_zero])
          refine wpAnyH_take (i := 6) (v := ?_) rfl (by kernel_rfl) (by kernel_rfl) (by kernel_rfl) (fun _ _ _ h => h) (Or.inl ⟨by kernel_rfl, ?_⟩) hHeld ?_
          rotate_left
          · intro w' hSw
            (try dsimp only at hSw)
            (try simp only [List.getElem_toArray]); (try simp only [List.getElem_cons_succ]); (try simp only [List.getElem_cons_zero])
            go_simp
            try with_reducible rfl
          (try simp only [Act.put]); (try simp only [List.getElem_toArray]); (try simp only [List.getElem_cons_succ]); (try simp only [List.getElem_cons_zero]); (try simp only [List.setIfInBounds_toArray]); (try simp only [List.set_cons_succ]); (try simp only [List.set_cons_zero])
          refine wpAnyH_ready (rs := [5]) (by kernel_rfl) (by simp) ?_
          refine AllReadyH.cons rfl (fun K hK => ?_) AllReadyH.nil
          refine step_clone T_lint (by rfl) (.tmp 25) (by rfl) cssK.flatten (by rfl) hflK liesK H1K mK bK ?_
          intro a2 cap2 wb own2 kb
          replace rowX := rowX.keep kb id
          replace kr := kr.trans kb
          have s2 := kb.size
          replace own1 := owned_keep own1 kb (fun _ _ h => h)
          refine hK.out _ _ (trivial) (fun hHeld => ?_)
          clear hK K
          (try simp only [Act.put]); (try simp only [List.getElem_toArray]); (try simp only [List.getElem_cons_succ]); (try simp only [List.getElem_cons_zero]); (try simp only [List.setIfInBounds_toArray]); (try simp only [List.set_cons_succ]); (try simp only [List.set_cons_zero])
          refine wpAnyH_ready (rs := [7]) (by kernel_rfl) (by simp) ?_
          refine AllReadyH.cons rfl (fun K hK => ?_) AllReadyH.nil
          have x2 := rowX.cell 2
          have f2 := rowX.frozen 2
          simp only [List.getElem?_cons_succ, List.getElem?_cons_zero] at x2
          go_simp
          clear x2 f2
          have rowX2 := rowX.set 2 (.slice a1 x.fColumns.length cap1)
          simp only [List.set_cons_succ, List.set_cons_zero] at rowX2
          refine hK.out _ _ (trivial) (fun hHeld => ?_)
          clear hK K
          (try simp only [Act.put]); (try simp only [List.getElem_toArray]); (try simp only [List.getElem_cons_succ]); (try simp only [List.getElem_cons_zero]); (try simp only [List.setIfInBounds_toArray]); (try simp only [List.set_cons_succ]); (try simp only [List.set_cons_zero])
          refine wpAnyH_take (i := 8) (v := ?_) rfl (by kernel_rfl) (by kernel_rfl) (by kernel_rfl) (fun _ _ _ h => h) (Or.inl ⟨by kernel_rfl, ?_⟩) hHeld ?_
          rotate_left
          · intro w' hSw
            (try dsimp only at hSw)
            (try simp only [List.getElem_toArray]); (try simp only [List.getElem_cons_succ]); (try simp only [List.getElem_cons_zero])
            go_simp
            try with_reducible rfl
          (try simp only [Act.put]); (try simp only [List.getElem_toArray]); (try simp only [List.getElem_cons_succ]); (try simp only [List.getElem_cons_zero]); (try simp only [List.setIfInBounds_toArray]); (try simp only [List.set_cons_succ]); (try simp only [List.set_cons_zero])
          refine wpAnyH_ready (rs := [9]) (by kernel_rfl) (by simp) ?_
          refine AllReadyH.cons rfl (fun K hK => ?_) AllReadyH.nil
          have x3 := rowX2.cell 3
          have f3 := rowX2.frozen 3
          simp only [List.getElem?_cons_succ, List.getElem?_cons_zero] at x3
          go_simp
          clear x3 f3
          refine hK.out _ _ (trivial) (fun hHeld => ?_)
          clear hK K
          (try simp only [Act.put]); (try simp only [List.getElem_toArray]); (try simp only [List.getElem_cons_succ]); (try simp only [List.getElem_cons_zero]); (try simp only [List.setIfInBounds_toArray]); (try simp only [List.set_cons_succ]); (try simp only [List.set_cons_zero])
          refine wpAnyH_done (by kernel_rfl) ?_ _
          clear hHeld
          have rowX4 := rowX2.set 3 (.slice a2 x.fKey.length cap2)
          simp only [List.set_cons_succ, List.set_cons_zero] at rowX4
          have kS : Keep (· = wr.heap.size) wb ((wb.setCell ⟨wr.heap.size, 2, none⟩ (.slice a1 x.fColumns.length cap1)).setCell ⟨wr.heap.size, 3, none⟩ (.slice a2 x.fKey.length cap2)) := ((Keep.refl (· = wr.heap.size) wb).setCell (p := ⟨wr.heap.size, 2, none⟩) (fun _ => rfl) _).setCell (p := ⟨wr.heap.size, 3, none⟩) (fun _ => rfl) _
          replace kr := kr.then kS (fun i hi e => by omega)
          have g1 : ∀ b, OwnB (.slice a1 x.fColumns.length cap1) b → wr.heap.size < b := fun b hb => by have := (own1.lt b hb).1; omega
          have g2 : ∀ b, OwnB (.slice a2 x.fKey.length cap2) b → wr.heap.size < b := fun b hb => by have := (own2.lt b hb).1; omega
          have hL1 : rListW rGColumn ((wb.setCell ⟨wr.heap.size, 2, none⟩ (.slice a1 x.fColumns.length cap1)).setCell ⟨wr.heap.size, 3, none⟩ (.slice a2 x.fKey.length cap2)) (NewIn wr ((wb.setCell ⟨wr.heap.size, 2, none⟩ (.slice a1 x.fColumns.length cap1)).setCell ⟨wr.heap.size, 3, none⟩ (.slice a2 x.fKey.length cap2))) [.slice a1 x.fColumns.length cap1] x.fColumns :=
            rListW_owned (q := p) (owned_keep own1 kS (fun b hb e => by have := g1 b hb; omega)) ⟨elsC.1, fun i c y hc hy => elsC.2 i c y hc hy⟩ (by unfold far; omega) (fun c y h => rGColumn_any h) (fun b hb hlt => ⟨by omega, hlt⟩)
          have hL2 : rListW (rInt .i64) ((wb.setCell ⟨wr.heap.size, 2, none⟩ (.slice a1 x.fColumns.length cap1)).setCell ⟨wr.heap.size, 3, none⟩ (.slice a2 x.fKey.length cap2)) (NewIn wr ((wb.setCell ⟨wr.heap.size, 2, none⟩ (.slice a1 x.fColumns.length cap1)).setCell ⟨wr.heap.size, 3, none⟩ (.slice a2 x.fKey.length cap2))) [.slice a2 x.fKey.length cap2] x.fKey :=
            rListW_owned (q := p) (owned_keep own2 kS (fun b hb e => by have := g2 b hb; omega)) ⟨elsK.1, fun i c y hc hy => elsK.2 i c y hc hy⟩ (by unfold far; omega) (fun c y h => rInt_any h) (fun b hb hlt => ⟨by omega, hlt⟩)
          have hN : fGTable ((wb.setCell ⟨wr.heap.size, 2, none⟩ (.slice a1 x.fColumns.length cap1)).setCell ⟨wr.heap.size, 3, none⟩ (.slice a2 x.fKey.length cap2)) (NewIn wr ((wb.setCell ⟨wr.heap.size, 2, none⟩ (.slice a1 x.fColumns.length cap1)).setCell ⟨wr.heap.size, 3, none⟩ (.slice a2 x.fKey.length cap2))) [.int .i64 x.fID, .string (strB x.fName), .slice a1 x.fColumns.length cap1, .slice a2 x.fKey.length cap2] x := ⟨[_], [_], [_], [_], rfl, ⟨rfl, wf_of_isI64 h0⟩, ⟨rfl, h1⟩, hL1, hL2⟩
          clear hL1 hL2 own1 own2 g1 g2 liesK kS rowX rowX2
          have ld := Whole.row (P := Try.prog) S_Table rfl rowX4
          unfold Whole at ld
          have hls := list_run (P := Try.prog) T_lTable (by decide) [.int .i64 x.fID, .string (strB x.fName), .slice a1 x.fColumns.length cap1, .slice a2 x.fKey.length cap2] rfl ((wb.setCell ⟨wr.heap.size, 2, none⟩ (.slice a1 x.fColumns.length cap1)).setCell ⟨wr.heap.size, 3, none⟩ (.slice a2 x.fKey.length cap2))
          have ownZ := owned_keep own kr (fun _ _ h => h)
          have hsZ := kr.size
          have hsw := (size_setCell (wb.setCell ⟨wr.heap.size, 2, none⟩ (.slice a1 x.fColumns.length cap1)) ⟨wr.heap.size, 3, none⟩ (.slice a2 x.fKey.length cap2)).trans (size_setCell _ _ _)
          have HSW := Lib.hid hsw
          clear hsw
          go_wp2_with (at_builtin; refine wpl_append1_at (c := 1) T_lTable ?hgd (.tmp 29) (.tmp 31) ?ho _ ?hs ownZ ?hx ?c0 ?c1 ?c2 ?c3 ?c4 ?_)
          case hgd => rfl
          case ho => rfl
          case hs => rfl
          case hx => rw [HSW.out]; rfl
          case c0 => rfl
          case c1 => exact ⟨rfl, rfl, rfl, rfl⟩
          case c2 => unfold maxLen; omega
          case c3 => omega
          case c4 => have := HSW.out; omega
          intro a' cap' w6 own6 k6 hfresh
          have hn6 : ∀ b, OwnB (.slice ao k co) b → w.heap.size + 1 + 1 ≤ b ∧ b < wr.heap.size := fun b hb => own.lt b hb
          have els2 := els.push0 fGTable_lawful hN kr k6 (by omega) (fun b hb => (own.lt b hb).2) (fun b hb => (hfresh b hb).imp id (fun h => Nat.le_trans (Nat.le_of_eq HSW.out) h))
          replace row0 := (row0.keep kr id).keep k6 (fun hb => by have := hn6 _ hb; omega)
          replace rowR := (rowR.keep kr id).keep k6 (fun hb => by have := hn6 _ hb; omega)
          replace kk := (kk.trans kr).then k6 (fun i hi hb => by have := hn6 _ hb; omega)
          clear ownZ hN els own k6 kr hfresh ld hls rowX4
          go_wp2_with fail
          go_roundw
          case rel => exact ⟨k + 1, a', cap', css ++ [[.int .i64 x.fID, .string (strB x.fName), .slice a1 x.fColumns.length cap1, .slice a2 x.fKey.length cap2]], by omega, by go_num, rfl, by simpa using own6, by rw [HTK.out]; exact els2, row0, rowR, kk⟩
          case measure => simp [intOf]; omega
        · have xl := rowX.cell 3
          (try simp only [List.getElem?_cons_succ] at xl); (try simp only [List.getElem?_cons_zero] at xl)
          go_simp
          clear xl
          refine hK.out _ _ (trivial) (fun hHeld => ?_)
          clear hK K
          (try simp only [Act.put]); (try simp only [List.getElem_toArray]); (try simp only [List.getElem_cons_succ]); (try simp only [List.getElem_cons_zero]); (try simp only [List.setIfInBounds_toArray]); (try simp only [List.set_cons_succ]); (try simp only [List.set_cons_zero])
          refine wpAnyH_ready (rs := [2]) (by kernel_rfl) (by simp) ?_
          refine AllReadyH.cons rfl (fun K hK => ?_) AllReadyH.nil
          refine step_clone T_lColumn (by rfl) (.tmp 22) (by rfl) cssC.flatten (by rfl) hflC liesC H1C mC bC ?_
          intro a1 cap1 wa own1 ka
          replace rowX := rowX.keep ka id
          replace kr := kr.trans ka
          have liesK := liesK.keep ka (fun _ _ h => h)
          have s1 := ka.size
          refine hK.out _ _ (trivial) (fun hHeld => ?_)
          clear hK K
          (try simp only [Act.put]); (try simp only [List.getElem_toArray]); (try simp only [List.getElem_cons_succ]); (try simp only [List.getElem_cons_zero]); (try simp only [List.setIfInBounds_toArray]); (try simp only [List.set_cons_succ]); (try simp only [List.set_cons_zero])
          refine wpAnyH_take (i := 6) (v := ?_) rfl (by kernel_rfl) (by kernel_rfl) (by kernel_rfl) (fun _ _ _ h => h) (Or.inl ⟨by kernel_rfl, ?_⟩) hHeld ?_
          rotate_left
          · intro w' hSw
            (try dsimp only at hSw)
            (try simp only [List.getElem_toArray]); (try simp only [List.getElem_cons_succ]); (try simp only [List.getElem_cons_zero])
            go_simp
            try with_reducible rfl
          (try simp only [Act.put]); (try simp only [List.getElem_toArray]); (try simp only [List.getElem_cons_succ]); (try simp only [List.getElem_cons_zero]); (try simp only [List.setIfInBounds_toArray]); (try simp only [List.set_cons_succ]); (try simp only [List.set_cons_zero])
          refine wpAnyH_ready (rs := [5]) (by kernel_rfl) (by simp) ?_
          refine AllReadyH.cons rfl (fun K hK => ?_) AllReadyH.nil
          refine step_clone T_lint (by rfl) (.tmp 25) (by rfl) cssK.flatten (by rfl) hflK liesK H1K mK bK ?_
          intro a2 cap2 wb own2 kb
          replace rowX := rowX.keep kb id
          replace kr := kr.trans kb
          have s2 := kb.size
          replace own1 := owned_keep own1 kb (fun _ _ h => h)
          refine hK.out _ _ (trivial) (fun hHeld => ?_)
          clear hK K
          (try simp only [Act.put]); (try simp only [List.getElem_toArray]); (try simp only [List.getElem_cons_succ]); (try simp only [List.getElem_cons_zero]); (try simp only [List.setIfInBounds_toArray]); (try simp only [List.set_cons_succ]); (try simp only [List.set_cons_zero])
          refine wpAnyH_ready (rs := [7]) (by kernel_rfl) (by simp) ?_
          refine AllReadyH.cons rfl (fun K hK => ?_) AllReadyH.nil
          have x2 := rowX.cell 2
          have f2 := rowX.frozen 2
          simp only [List.getElem?_cons_succ, List.getElem?_cons_zero] at x2
          go_simp
          clear x2 f2
          have rowX2 := rowX.set 2 (.slice a1 x.fColumns.length cap1)
          simp only [List.set_cons_succ, List.set_cons_zero] at rowX2
          refine hK.out _ _ (trivial) (fun hHeld => ?_)
          clear hK K
          (try simp only [Act.put]); (try simp only [List.getElem_toArray]); (try simp only [List.getElem_cons_succ]); (try simp only [List.getElem_cons_zero]); (try simp only [List.setIfInBounds_toArray]); (try simp only [List.set_cons_succ]); (try simp only [List.set_cons_zero])
          refine wpAnyH_take (i := 8) (v := ?_) rfl (by kernel_rfl) (by kernel_rfl) (by kernel_rfl) (fun _ _ _ h => h) (Or.inl ⟨by kernel_rfl, ?_⟩) hHeld ?_
          rotate_left
          · intro w' hSw
            (try dsimp only at hSw)
            (try simp only [List.getElem_toArray]); (try simp only [List.getElem_cons_succ]); (try simp only [List.getElem_cons_zero])
            go_simp
            try with_reducible rfl
          (try simp only [Act.put]); (try simp only [List.getElem_toArray]); (try simp only [List.getElem_cons_succ]); (try simp only [List.getElem_cons_zero]); (try simp only [List.setIfInBounds_toArray]); (try simp only [List.set_cons_succ]); (try simp only [List.set_cons_zero])
          refine wpAnyH_ready (rs := [9]) (by kernel_rfl) (by simp) ?_
          refine AllReadyH.cons rfl (fun K hK => ?_) AllReadyH.nil
          have x3 := rowX2.cell 3
          have f3 := rowX2.frozen 3
          simp only [List.getElem?_cons_succ, List.getElem?_cons_zero] at x3
          go_simp
          clear x3 f3
          refine hK.out _ _ (trivial) (fun hHeld => ?_)
          clear hK K
          (try simp only [Act.put]); (try simp only [List.getElem_toArray]); (try simp only [List.getElem_cons_succ]); (try simp only [List.getElem_cons_zero]); (try simp only [List.setIfInBounds_toArray]); (try simp only [List.set_cons_succ]); (try simp only [List.set_cons_zero])
          refine wpAnyH_done (by kernel_rfl) ?_ _
          clear hHeld
          have rowX4 := rowX2.set 3 (.slice a2 x.fKey.length cap2)
          simp only [List.set_cons_succ, List.set_cons_zero] at rowX4
          have kS : Keep (· = wr.heap.size) wb ((wb.setCell ⟨wr.heap.size, 2, none⟩ (.slice a1 x.fColumns.length cap1)).setCell ⟨wr.heap.size, 3, none⟩ (.slice a2 x.fKey.length cap2)) := ((Keep.refl (· = wr.heap.size) wb).setCell (p := ⟨wr.heap.size, 2, none⟩) (fun _ => rfl) _).setCell (p := ⟨wr.heap.size, 3, none⟩) (fun _ => rfl) _
          replace kr := kr.then kS (fun i hi e => by omega)
          have g1 : ∀ b, OwnB (.slice a1 x.fColumns.length cap1) b → wr.heap.size < b := fun b hb => by have := (own1.lt b hb).1; omega
          have g2 : ∀ b, OwnB (.slice a2 x.fKey.length cap2) b → wr.heap.size < b := fun b hb => by have := (own2.lt b hb).1; omega
          have hL1 : rListW rGColumn ((wb.setCell ⟨wr.heap.size, 2, none⟩ (.slice a1 x.fColumns.length cap1)).setCell ⟨wr.heap.size, 3, none⟩ (.slice a2 x.fKey.length cap2)) (NewIn wr ((wb.setCell ⟨wr.heap.size, 2, none⟩ (.slice a1 x.fColumns.length cap1)).setCell ⟨wr.heap.size, 3, none⟩ (.slice a2 x.fKey.length cap2))) [.slice a1 x.fColumns.length cap1] x.fColumns :=
            rListW_owned (q := p) (owned_keep own1 kS (fun b hb e => by have := g1 b hb; omega)) ⟨elsC.1, fun i c y hc hy => elsC.2 i c y hc hy⟩ (by unfold far; omega) (fun c y h => rGColumn_any h) (fun b hb hlt => ⟨by omega, hlt⟩)
          have hL2 : rListW (rInt .i64) ((wb.setCell ⟨wr.heap.size, 2, none⟩ (.slice a1 x.fColumns.length cap1)).setCell ⟨wr.heap.size, 3, none⟩ (.slice a2 x.fKey.length cap2)) (NewIn wr ((wb.setCell ⟨wr.heap.size, 2, none⟩ (.slice a1 x.fColumns.length cap1)).setCell ⟨wr.heap.size, 3, none⟩ (.slice a2 x.fKey.length cap2))) [.slice a2 x.fKey.length cap2] x.fKey :=
            rListW_owned (q := p) (owned_keep own2 kS (fun b hb e => by have := g2 b hb; omega)) ⟨elsK.1, fun i c y hc hy => elsK.2 i c y hc hy⟩ (by unfold far; omega) (fun c y h => rInt_any h) (fun b hb hlt => ⟨by omega, hlt⟩)
          have hN : fGTable ((wb.setCell ⟨wr.heap.size, 2, none⟩ (.slice a1 x.fColumns.length cap1)).setCell ⟨wr.heap.size, 3, none⟩ (.slice a2 x.fKey.length cap2)) (NewIn wr ((wb.setCell ⟨wr.heap.size, 2, none⟩ (.slice a1 x.fColumns.length cap1)).setCell ⟨wr.heap.size, 3, none⟩ (.slice a2 x.fKey.length cap2))) [.int .i64 x.fID, .string (strB x.fName), .slice a1 x.fColumns.length cap1, .slice a2 x.fKey.length cap2] x := ⟨[_], [_], [_], [_], rfl, ⟨rfl, wf_of_isI64 h0⟩, ⟨rfl, h1⟩, hL1, hL2⟩
          clear hL1 hL2 own1 own2 g1 g2 liesK kS rowX rowX2
          have ld := Whole.row (P := Try.prog) S_Table rfl rowX4
          unfold Whole at ld
          have hls := list_run (P := Try.prog) T_lTable (by decide) [.int .i64 x.fID, .string (strB x.fName), .slice a1 x.fColumns.length cap1, .slice a2 x.fKey.length cap2] rfl ((wb.setCell ⟨wr.heap.size, 2, none⟩ (.slice a1 x.fColumns.length cap1)).setCell ⟨wr.heap.size, 3, none⟩ (.slice a2 x.fKey.length cap2))
          have ownZ := owned_keep own kr (fun _ _ h => h)
          have hsZ := kr.size
          have hsw := (size_setCell (wb.setCell ⟨wr.heap.size, 2, none⟩ (.slice a1 x.fColumns.length cap1)) ⟨wr.heap.size, 3, none⟩ (.slice a2 x.fKey.length cap2)).trans (size_setCell _ _ _)
          have HSW := Lib.hid hsw
          clear hsw
          go_wp2_with (at_builtin; refine wpl_append1_at (c := 1) T_lTable ?hgd (.tmp 29) (.tmp 31) ?ho _ ?hs ownZ ?hx ?c0 ?c1 ?c2 ?c3 ?c4 ?_)
          case hgd => rfl
          case ho => rfl
          case hs => rfl
          case hx => rw [HSW.out]; rfl
          case c0 => rfl
          case c1 => exact ⟨rfl, rfl, rfl, rfl⟩
          case c2 => unfold maxLen; omega
          case c3 => omega
          case c4 => have := HSW.out; omega
          intro a' cap' w6 own6 k6 hfresh
          have hn6 : ∀ b, OwnB (.slice ao k co) b → w.heap.size + 1 + 1 ≤ b ∧ b < wr.heap.size := fun b hb => own.lt b hb
          have els2 := els.push0 fGTable_lawful hN kr k6 (by omega) (fun b hb => (own.lt b hb).2) (fun b hb => (hfresh b hb).imp id (fun h => Nat.le_trans (Nat.le_of_eq HSW.out) h))
          replace row0 := (row0.keep kr id).keep k6 (fun hb => by have := hn6 _ hb; omega)
          replace rowR := (rowR.keep kr id).keep k6 (fun hb => by have := hn6 _ hb; omega)
          replace kk := (kk.trans kr).then k6 (fun i hi hb => by have := hn6 _ hb; omega)
          clear ownZ hN els own k6 kr hfresh ld hls rowX4
          go_wp2_with fail
          go_roundw
          case rel => exact ⟨k + 1, a', cap', css ++ [[.int .i64 x.fID, .string (strB x.fName), .slice a1 x.fColumns.length cap1, .slice a2 x.fKey.length cap2]], by omega, by go_num, rfl, by simpa using own6, by rw [HTK.out]; exact els2, row0, rowR, kk⟩
          case measure => simp [intOf]; omega
      · have xl := rowX.cell 3
        (try simp only [List.getElem?_cons_succ] at xl); (try simp only [List.getElem?_cons_zero] at xl)
        go_simp
        clear xl
        refine hK.out _ _ (trivial) (fun hHeld => ?_)
        clear hK K
        (try simp only [Act.put]); (try simp only [List.getElem_toArray]); (try simp only [List.getElem_cons_succ]); (try simp only [List.getElem_cons_zero]); (try simp only [List.setIfInBounds_toArray]); (try simp only [List.set_cons_succ]); (try simp only [List.set_cons_zero])
        refine wpAnyH_ready (rs := [1]) (by kernel_rfl) (by simp) ?_
        refine AllReadyH.cons rfl (fun K hK => ?_) AllReadyH.nil
        have xl := rowX.cell 2
        (try simp only [List.getElem?_cons_succ] at xl); (try simp only [List.getElem?_cons_zero] at xl)
        go_simp
        clear xl
        refine hK.out _ _ (trivial) (fun hHeld => ?_)
        clear hK K
        (try simp only [Act.put]); (try simp only [List.getElem_toArray]); (try simp only [List.getElem_cons_succ]); (try simp only [List.getElem_cons_zero]); (try simp only [List.setIfInBounds_toArray]); (try simp only [List.set_cons_succ]); (try simp only [List.set_cons_zero])
        refine wpAnyH_ready (rs := [2]) (by kernel_rfl) (by simp) ?_
        refine AllReadyH.cons rfl (fun K hK => ?_) AllReadyH.nil
        refine step_clone T_lColumn (by rfl) (.tmp 22) (by rfl) cssC.flatten (by rfl) hflC liesC H1C mC bC ?_
        intro a1 cap1 wa own1 ka
        replace rowX := rowX.keep ka id
        replace kr := kr.trans ka
        have liesK := liesK.keep ka (fun _ _ h => h)
        have s1 := ka.size
        refine hK.out _ _ (trivial) (fun hHeld => ?_)
        clear hK K
        (try simp only [Act.put]); (try simp only [List.getElem_toArray]); (try simp only [List.getElem_cons_succ]); (try simp only [List.getElem_cons_zero]); (try simp only [List.setIfInBounds_toArray]); (try simp only [List.set_cons_succ]); (try simp only [List.set_cons_zero])
        refine wpAnyH_take (i := 6) (v := ?_) rfl (by kernel_rfl) (by kernel_rfl) (by kernel_rfl) (fun _ _ _ h => h) (Or.inl ⟨by kernel_rfl, ?_⟩) hHeld ?_
        rotate_left
        · intro w' hSw
          (try dsimp only at hSw)
          (try simp only [List.getElem_toArray]); (try simp only [List.getElem_cons_succ]); (try simp only [List.getElem_cons_zero])
          go_simp
          try with_reducible rfl
        (try simp only [Act.put]); (try simp only [List.getElem_toArray]); (try simp only [List.getElem_cons_succ]); (try simp only [List.getElem_cons_zero]); (try simp only [List.setIfInBounds_toArray]); (try simp only [List.set_cons_succ]); (try simp only [List.set_cons_zero])
        refine wpAnyH_ready (rs := [5]) (by kernel_rfl) (by simp) ?_
        refine AllReadyH.cons rfl (fun K hK => ?_) AllReadyH.nil
        refine step_clone T_lint (by rfl) (.tmp 25) (by rfl) cssK.flatten (by rfl) hflK liesK H1K mK bK ?_
        intro a2 cap2 wb own2 kb
        replace rowX := rowX.keep kb id
        replace kr := kr.trans kb
        have s2 := kb.size
        replace own1 := owned_keep own1 kb (fun _ _ h => h)
        refine hK.out _ _ (trivial) (fun hHeld => ?_)
        clear hK K
        (try simp only [Act.put]); (try simp only [List.getElem_toArray]); (try simp only [List.getElem_cons_succ]); (try simp only [List.getElem_cons_zero]); (try simp only [List.setIfInBounds_toArray]); (try simp only [List.set_cons_succ]); (try simp only [List.set_cons_zero])
        refine wpAnyH_ready (rs := [7]) (by kernel_rfl) (by simp) ?_
        refine AllReadyH.cons rfl (fun K hK => ?_) AllReadyH.nil
        have x2 := rowX.cell 2
        have f2 := rowX.frozen 2
        simp only [List.getElem?_cons_succ, List.getElem?_cons_zero] at x2
        go_simp
        clear x2 f2
        have rowX2 := rowX.set 2 (.slice a1 x.fColumns.length cap1)
        simp only [List.set_cons_succ, List.set_cons_zero] at rowX2
        refine hK.out _ _ (trivial) (fun hHeld => ?_)
        clear hK K
        (try simp only [Act.put]); (try simp only [List.getElem_toArray]); (try simp only [List.getElem_cons_succ]); (try simp only [List.getElem_cons_zero]); (try simp only [List.setIfInBounds_toArray]); (try simp only [List.set_cons_succ]); (try simp only [List.set_cons_zero])
        refine wpAnyH_take (i := 8) (v := ?_) rfl (by kernel_rfl) (by kernel_rfl) (by kernel_rfl) (fun _ _ _ h => h) (Or.inl ⟨by kernel_rfl, ?_⟩) hHeld ?_
        rotate_left
        · intro w' hSw
          (try dsimp only at hSw)
          (try simp only [List.getElem_toArray]); (try simp only [List.getElem_cons_succ]); (try simp only [List.getElem_cons_zero])
          go_simp
          try with_reducible rfl
        (try simp only [Act.put]); (try simp only [List.getElem_toArray]); (try simp only [List.getElem_cons_succ]); (try simp only [List.getElem_cons_zero]); (try simp only [List.setIfInBounds_toArray]); (try simp only [List.set_cons_succ]); (try simp only [List.set_cons_zero])
        refine wpAnyH_ready (rs := [9]) (by kernel_rfl) (by simp) ?_
        refine AllReadyH.cons rfl (fun K hK => ?_) AllReadyH.nil
        have x3 := rowX2.cell 3
        have f3 := rowX2.frozen 3
        simp only [List.getElem?_cons_succ, List.getElem?_cons_zero] at x3
        go_simp
        clear x3 f3
        refine hK.out _ _ (trivial) (fun hHeld => ?_)
        clear hK K
        (try simp only [Act.put]); (try simp only [List.getElem_toArray]); (try simp only [List.getElem_cons_succ]); (try simp only [List.getElem_cons_zero]); (try simp only [List.setIfInBounds_toArray]); (try simp only [List.set_cons_succ]); (try simp only [List.set_cons_zero])
        refine wpAnyH_done (by kernel_rfl) ?_ _
        clear hHeld
        have rowX4 := rowX2.set 3 (.slice a2 x.fKey.length cap2)
        simp only [List.set_cons_succ, List.set_cons_zero] at rowX4
        have kS : Keep (· = wr.heap.size) wb ((wb.setCell ⟨wr.heap.size, 2, none⟩ (.slice a1 x.fColumns.length cap1)).setCell ⟨wr.heap.size, 3, none⟩ (.slice a2 x.fKey.length cap2)) := ((Keep.refl (· = wr.heap.size) wb).setCell (p := ⟨wr.heap.size, 2, none⟩) (fun _ => rfl) _).setCell (p := ⟨wr.heap.size, 3, none⟩) (fun _ => rfl) _
        replace kr := kr.then kS (fun i hi e => by omega)
        have g1 : ∀ b, OwnB (.slice a1 x.fColumns.length cap1) b → wr.heap.size < b := fun b hb => by have := (own1.lt b hb).1; omega
        have g2 : ∀ b, OwnB (.slice a2 x.fKey.length cap2) b → wr.heap.size < b := fun b hb => by have := (own2.lt b hb).1; omega
        have hL1 : rListW rGColumn ((wb.setCell ⟨wr.heap.size, 2, none⟩ (.slice a1 x.fColumns.length cap1)).setCell ⟨wr.heap.size, 3, none⟩ (.slice a2 x.fKey.length cap2)) (NewIn wr ((wb.setCell ⟨wr.heap.size, 2, none⟩ (.slice a1 x.fColumns.length cap1)).setCell ⟨wr.heap.size, 3, none⟩ (.slice a2 x.fKey.length cap2))) [.slice a1 x.fColumns.length cap1] x.fColumns :=
          rListW_owned (q := p) (owned_keep own1 kS (fun b hb e => by have := g1 b hb; omega)) ⟨elsC.1, fun i c y hc hy => elsC.2 i c y hc hy⟩ (by unfold far; omega) (fun c y h => rGColumn_any h) (fun b hb hlt => ⟨by omega, hlt⟩)
        have hL2 : rListW (rInt .i64) ((wb.setCell ⟨wr.heap.size, 2, none⟩ (.slice a1 x.fColumns.length cap1)).setCell ⟨wr.heap.size, 3, none⟩ (.slice a2 x.fKey.length cap2)) (NewIn wr ((wb.setCell ⟨wr.heap.size, 2, none⟩ (.slice a1 x.fColumns.length cap1)).setCell ⟨wr.heap.size, 3, none⟩ (.slice a2 x.fKey.length cap2))) [.slice a2 x.fKey.length cap2] x.fKey :=
          rListW_owned (q := p) (owned_keep own2 kS (fun b hb e => by have := g2 b hb; omega)) ⟨elsK.1, fun i c y hc hy => elsK.2 i c y hc hy⟩ (by unfold far; omega) (fun c y h => rInt_any h) (fun b hb hlt => ⟨by omega, hlt⟩)
        have hN : fGTable ((wb.setCell ⟨wr.heap.size, 2, none⟩ (.slice a1 x.fColumns.length cap1)).setCell ⟨wr.heap.size, 3, none⟩ (.slice a2 x.fKey.length cap2)) (NewIn wr ((wb.setCell ⟨wr.heap.size, 2, none⟩ (.slice a1 x.fColumns.length cap1)).setCell ⟨wr.heap.size, 3, none⟩ (.slice a2 x.fKey.length cap2))) [.int .i64 x.fID, .string (strB x.fName), .slice a1 x.fColumns.length cap1, .slice a2 x.fKey.length cap2] x := ⟨[_], [_], [_], [_], rfl, ⟨rfl, wf_of_isI64 h0⟩, ⟨rfl, h1⟩, hL1, hL2⟩
        clear hL1 hL2 own1 own2 g1 g2 liesK kS rowX rowX2
        have ld := Whole.row (P := Try.prog) S_Table rfl rowX4
        unfold Whole at ld
        have hls := list_run (P := Try.prog) T_lTable (by decide) [.int .i64 x.fID, .string (strB x.fName), .slice a1 x.fColumns.length cap1, .slice a2 x.fKey.length cap2] rfl ((wb.setCell ⟨wr.heap.size, 2, none⟩ (.slice a1 x.fColumns.length cap1)).setCell ⟨wr.heap.size, 3, none⟩ (.slice a2 x.fKey.length cap2))
        have ownZ := owned_keep own kr (fun _ _ h => h)
        have hsZ := kr.size
        have hsw := (size_setCell (wb.setCell ⟨wr.heap.size, 2, none⟩ (.slice a1 x.fColumns.length cap1)) ⟨wr.heap.size, 3, none⟩ (.slice a2 x.fKey.length cap2)).trans (size_setCell _ _ _)
        have HSW := Lib.hid hsw
        clear hsw
        go_wp2_with (at_builtin; refine wpl_append1_at (c := 1) T_lTable ?hgd (.tmp 29) (.tmp 31) ?ho _ ?hs ownZ ?hx ?c0 ?c1 ?c2 ?c3 ?c4 ?_)
        case hgd => rfl
        case ho => rfl
        case hs => rfl
        case hx => rw [HSW.out]; rfl
        case c0 => rfl
        case c1 => exact ⟨rfl, rfl, rfl, rfl⟩
        case c2 => unfold maxLen; omega
        case c3 => omega
        case c4 => have := HSW.out; omega
        intro a' cap' w6 own6 k6 hfresh
        have hn6 : ∀ b, OwnB (.slice ao k co) b → w.heap.size + 1 + 1 ≤ b ∧ b < wr.heap.size := fun b hb => own.lt b hb
        have els2 := els.push0 fGTable_lawful hN kr k6 (by omega) (fun b hb => (own.lt b hb).2) (fun b hb => (hfresh b hb).imp id (fun h => Nat.le_trans (Nat.le_of_eq HSW.out) h))
        replace row0 := (row0.keep kr id).keep k6 (fun hb => by have := hn6 _ hb; omega)
        replace rowR := (rowR.keep kr id).keep k6 (fun hb => by have := hn6 _ hb; omega)
        replace kk := (kk.trans kr).then k6 (fun i hi hb => by have := hn6 _ hb; omega)
        clear ownZ hN els own k6 kr hfresh ld hls rowX4
        go_wp2_with fail
        go_roundw
        case rel => exact ⟨k + 1, a', cap', css ++ [[.int .i64 x.fID, .string (strB x.fName), .slice a1 x.fColumns.length cap1, .slice a2 x.fKey.length cap2]], by omega, by go_num, rfl, by simpa using own6, by rw [HTK.out]; exact els2, row0, rowR, kk⟩
        case measure => simp [intOf]; omega
end
end Go.Proofs.Ytfogbbnfedcldaa
