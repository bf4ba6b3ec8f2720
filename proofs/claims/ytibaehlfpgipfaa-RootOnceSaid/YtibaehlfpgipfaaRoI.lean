/- ROOT: Run, any command. Printed by mac.py. -/
import Derived.Test.YtibaehlfpgipfaaRoH
import Derived.Test.YtibaehlfpgipfaaRoC
namespace Go.Proofs.Ytibaehlfpgipfaa
open Go.RowKit

theorem i64_lit {n : Int} (h0 : 0 ≤ n) (h1 : n ≤ 100) : isI64 n := ⟨by omega, by omega⟩
theorem smallC_set {c : GCatalog} (h : smallC c) (k : Nat) (x : GIndex) (hx : x.fColumns.length ≤ 1000) : smallC (setAt c k x) := by
  refine ⟨h.1, fun y hy => ?_, h.2.2.1, ?_⟩
  · rcases List.mem_or_eq_of_mem_set hy with hy | hy
    · exact h.2.1 y hy
    · subst hy; exact hx
  · show (c.fIndexes.set k x).length ≤ _
    rw [List.length_set]
    exact h.2.2.2
theorem smallC_cut {c : GCatalog} (h : smallC c) (k : Nat) : smallC (cutAt c k) := by
  refine ⟨h.1, fun y hy => h.2.1 y (List.mem_of_mem_eraseIdx hy), h.2.2.1, ?_⟩
  show (c.fIndexes.eraseIdx k).length ≤ _
  have := List.length_eraseIdx_le (l := c.fIndexes) (i := k)
  have := h.2.2.2
  omega
def Fine (c : GCatalog) (y : GCatalog × Int) : Prop := (y.2 = 0 → smallC y.1 ∧ y.1.fVersion = c.fVersion + 1) ∧ isI64 y.2
theorem Fine.no {c : GCatalog} {n : Int} (h0 : 0 < n) (h1 : n ≤ 100) : Fine c (c, n) := ⟨fun h => absurd (show n = 0 from h) (by omega), i64_lit (n := n) (by omega) h1⟩
theorem Fine.yes {c d : GCatalog} (h : smallC d) (hv : d.fVersion = c.fVersion + 1) : Fine c (d, 0) := ⟨fun _ => ⟨h, hv⟩, i64_lit (n := 0) (by decide) (by decide)⟩
theorem addIndex_good {c : GCatalog} {x : GIndex} {tn : List UInt8} (h : smallC c) (hx : x.fColumns.length ≤ 1000) : Fine c (addIndexF c x tn) := by
  unfold addIndexF
  simp only
  split
  · exact Fine.no (by decide) (by decide)
  · split
    · exact Fine.no (by decide) (by decide)
    · split
      · exact Fine.no (by decide) (by decide)
      · split
        · exact Fine.no (by decide) (by decide)
        · rename_i h4
          refine Fine.yes ⟨h.1, fun y hy => ?_, h.2.2.1, ?_⟩ rfl
          · rcases List.mem_append.1 hy with hy | hy
            · exact h.2.1 y hy
            · have : y = newX c x (firstB (fun t => decide (t.fName = tn)) c.fTables zTab).1.fID := by simpa using hy
              subst this
              exact hx
          · show (c.fIndexes ++ [_]).length ≤ _
            rw [List.length_append, List.length_singleton]
            omega
theorem drop_good {c : GCatalog} {nm : List UInt8} (h : smallC c) : Fine c (dropF c nm) := by
  unfold dropF
  rcases findB_cases (fun x : GIndex => decide (x.fName = nm)) c.fIndexes with ⟨h1, -⟩ | ⟨k, hk, h1, -, -⟩
  · rw [h1, atI_neg]; exact Fine.no (by decide) (by decide)
  · rw [h1, atI_nat hk]
    have hx := h.2.1 _ (List.getElem_mem hk)
    unfold dropAt
    split
    · exact Fine.yes (smallC_set h k _ hx) rfl
    · split
      · exact Fine.yes (smallC_set h k _ hx) rfl
      · exact Fine.no (by decide) (by decide)
theorem step_good {c : GCatalog} {d f t : Int} {bad : Bool} (h : smallC c) : Fine c (stepF c d f t bad) := by
  unfold stepF
  rcases findB_cases (fun x : GIndex => decide (x.fID = d)) c.fIndexes with ⟨h1, -⟩ | ⟨k, hk, h1, -, -⟩
  · rw [h1, atI_neg]; exact Fine.no (by decide) (by decide)
  · rw [h1, atI_nat hk]
    have hx := h.2.1 _ (List.getElem_mem hk)
    unfold stepAt
    split
    · exact Fine.no (by decide) (by decide)
    · split
      · exact Fine.yes (smallC_cut h k) rfl
      · exact Fine.yes (smallC_set h k _ hx) rfl
def decP (R : RootS) (t : Int) (b : Bool) : GReply × RootS := (repG (decideF R t b).1 0 (decideF R t b).2.1, (decideF R t b).2.2)
def runF (R : RootS) (c : GCommand) : GReply × RootS :=
  if c.fKind = 11 then (repL (R.begun + 1) 0 (lastC R) R.routes, bump R)
  else if c.fKind = 12 then decP R c.fTxn (goodB R c.fN c.fFlag)
  else if c.fKind = 13 then decP R c.fTxn false
  else if c.fKind = 14 then changeP R 0 (addTableF (lastC R) c.fTable)
  else if c.fKind = 15 then changeP R (IntKind.u64.wrap (lastC R).fNext) (addIndexF (lastC R) c.fIndex c.fName)
  else if c.fKind = 16 then changeP R 0 (dropF (lastC R) c.fName)
  else if c.fKind = 17 then changeP R 0 (stepF (lastC R) c.fN c.fFrom c.fTo c.fFlag)
  else if c.fKind = 18 ∨ c.fKind = 19 then moveF R c.fKind c.fN c.fFlag c.fKey
  else if c.fKind = 20 then (repL 0 R.begun (lastC R) R.routes, R)
  else (repG 1 0 0, R)
/-- What grows by one command at most. -/
structure Small (k : Nat) (R : RootS) : Prop where
  cats : R.cats.length ≤ k + 1
  ord : R.order.length ≤ k
  beg : R.begun ≤ (k : Int)
  rt : RtOk R.routes
  dom : ∀ t p, R.dec t = some p → t ≠ 0 ∧ t ≤ R.begun
theorem Small.more {k : Nat} {R : RootS} (h : Small k R) : Small (k + 1) R := ⟨by have := h.cats; omega, by have := h.ord; omega, by have := h.beg; omega, h.rt, h.dom⟩
theorem Small.dec {k : Nat} {R : RootS} (h : Small k R) (t : Int) (b : Bool) : Small (k + 1) (decideF R t b).2.2 := by
  have h1 := h.cats
  have h2 := h.ord
  have h3 := h.beg
  unfold decideF
  split
  · exact h.more
  · rename_i hb
    have hd : ∀ x t' p, updD R.dec t x t' = some p → t' ≠ 0 ∧ t' ≤ R.begun := fun x t' p hp => by
      unfold updD at hp
      split at hp
      · rename_i he
        subst he
        omega
      · exact h.dom t' p hp
    split
    · split
      · exact h.more
      · exact h.more
    · split
      · exact ⟨by show R.cats.length ≤ _; omega, by show (R.order ++ [t]).length ≤ _; rw [List.length_append, List.length_singleton]; omega, by show R.begun ≤ _; omega, h.rt, hd _⟩
      · exact ⟨by show R.cats.length ≤ _; omega, by show R.order.length ≤ _; omega, by show R.begun ≤ _; omega, h.rt, hd _⟩
theorem Small.change {k : Nat} {R : RootS} (h : Small k R) (id : Int) (y : GCatalog × Int) : Small (k + 1) (changeP R id y).2 := by
  have h1 := h.cats
  have h2 := h.ord
  have h3 := h.beg
  unfold changeP
  split
  · exact ⟨by show (R.cats ++ [y.1]).length ≤ _; rw [List.length_append, List.length_singleton]; omega, by show R.order.length ≤ _; omega, by show R.begun ≤ _; omega, h.rt, h.dom⟩
  · exact h.more
theorem moveY_ok {R : RootS} (h : RtOk R.routes) (k x : Int) (f : Bool) (l : List UInt8) : RtOk (moveY R k x f l).2.1 := by
  unfold moveY
  split
  · exact h
  · split
    · exact h.cut x l
    · split
      · exact h
      · split
        · exact h.still
        · split
          · exact h
          · exact h.moved x
theorem Small.move {k : Nat} {R : RootS} (h : Small k R) (kd x : Int) (f : Bool) (l : List UInt8) : Small (k + 1) (moveF R kd x f l).2 := by
  have h1 := h.cats
  have h2 := h.ord
  have h3 := h.beg
  unfold moveF moveP
  split
  · exact ⟨by show R.cats.length ≤ _; omega, by show R.order.length ≤ _; omega, by show R.begun ≤ _; omega, moveY_ok h.rt _ _ _ _, h.dom⟩
  · exact h.more
theorem Small.run {k : Nat} {R : RootS} (h : Small k R) (c : GCommand) : Small (k + 1) (runF R c).2 := by
  have h1 := h.cats
  have h2 := h.ord
  have h3 := h.beg
  unfold runF
  split
  · exact ⟨by show R.cats.length ≤ _; omega, by show R.order.length ≤ _; omega, by show R.begun + 1 ≤ _; omega, h.rt, fun t p hp => by have := h.dom t p hp; exact ⟨this.1, by show t ≤ R.begun + 1; omega⟩⟩
  · split
    · exact h.dec _ _
    · split
      · exact h.dec _ _
      · split
        · exact h.change _ _
        · split
          · exact h.change _ _
          · split
            · exact h.change _ _
            · split
              · exact h.change _ _
              · split
                · exact h.move _ _ _ _
                · split
                  · exact h.more
                  · exact h.more
theorem dec_order (R : RootS) (t : Int) (b : Bool) : (decideF R t b).2.2.order = R.order ∨ (b = true ∧ R.dec t = none ∧ (decideF R t b).2.2.order = R.order ++ [t]) := by
  unfold decideF
  split
  · exact .inl rfl
  · split
    · split
      · exact .inl rfl
      · exact .inl rfl
    · rename_i hd
      split
      · rename_i hb
        exact .inr ⟨hb, hd, rfl⟩
      · exact .inl rfl
theorem run_order (R : RootS) (c : GCommand) : (runF R c).2.order = R.order ∨ (c.fKind = 12 ∧ c.fFlag = true ∧ (c.fN = (lastC R).fVersion ∨ c.fN = (lastC R).fVersion - 1) ∧ R.dec c.fTxn = none ∧ (runF R c).2.order = R.order ++ [c.fTxn]) := by
  have hch : ∀ id y, (changeP R id y).2.order = R.order := fun id y => by unfold changeP; split <;> rfl
  unfold runF
  split
  · exact .inl rfl
  · split
    · rename_i hk
      rcases dec_order R c.fTxn (goodB R c.fN c.fFlag) with h | ⟨h1, h2, h3⟩
      · exact .inl h
      · refine .inr ⟨hk, ?_, ?_, h2, h3⟩
        · unfold goodB at h1; cases hf : c.fFlag with
          | true => rfl
          | false => rw [hf] at h1; cases h1
        · unfold goodB at h1
          simp only [Bool.and_eq_true, Bool.or_eq_true, decide_eq_true_eq] at h1
          exact h1.2
    · split
      · rcases dec_order R c.fTxn false with h | ⟨h1, -⟩
        · exact .inl h
        · cases h1
      · split
        · exact .inl (hch _ _)
        · split
          · exact .inl (hch _ _)
          · split
            · exact .inl (hch _ _)
            · split
              · exact .inl (hch _ _)
              · split
                · unfold moveF moveP; split <;> exact .inl rfl
                · split <;> exact .inl rfl
theorem ask_known {k : Nat} {R : RootS} (h : Small k R) (a : GCommand) {p : Int} (hd : R.dec a.fTxn = some p) (hk : a.fKind = 12 ∨ a.fKind = 13) : (runF R a).2 = R ∧ (runF R a).1.fN = p ∧ (runF R a).1.fErr = (if p = 0 then 16 else 0) := by
  have hb := h.dom _ p hd
  have key : ∀ b, decideF R a.fTxn b = if p = 0 then (16, 0, R) else (0, p, R) := fun b => by
    unfold decideF
    rw [if_neg (by omega), hd]
  have hr : ∃ b, runF R a = decP R a.fTxn b := by
    rcases hk with hk | hk
    · exact ⟨_, by unfold runF; rw [if_neg (by omega), if_pos hk]⟩
    · exact ⟨_, by unfold runF; rw [if_neg (by omega), if_neg (by omega), if_pos hk]⟩
  obtain ⟨b, hr⟩ := hr
  rw [hr]
  unfold decP
  rw [key b]
  by_cases hp : p = 0
  · rw [if_pos hp, if_pos hp]; exact ⟨rfl, hp.symm, rfl⟩
  · rw [if_neg hp, if_neg hp]; exact ⟨rfl, rfl, rfl⟩
theorem run_all {p : Nat → Prop} {k : Nat} (O : Nat → Prop) (g n : Nat) (R : RootS) (c : GCommand) (ccs : List Value) (w : World) (H : IsRoot w O g n R) (hS : Small k R) (hkb : k ≤ 80000) (hn : n < 1000000) (hc : rGCommand w p ccs c) (hp : ∀ b, p b → b < w.heap.size) (hx : c.fIndex.fColumns.length ≤ 1000) :
    Calls Try.prog 7 #[.pointer (some ⟨g, 0, none⟩), .agg ccs.toArray] w (RunPost w O g n (runF R c)) := by
  have h1 := hS.cats
  have h2 := hS.ord
  have h3 := hS.beg
  have hpos : 0 < R.cats.length := List.length_pos_iff.2 H.ok.ex
  have hsm := (H.ok.small (lastC R) (by
    unfold lastC
    rw [List.getLast?_eq_getElem?, List.getElem?_eq_getElem (by omega)]
    exact List.getElem_mem _)).1
  obtain ⟨aKey, cKey, aSF, cSF, aST, cST, aP, cP, aSe, cSe, aWr, cWr, aTC, cTC, aTK, cTK, aIC, cIC, rfl, iK, iE, uT, iN, iF, iT, hKey, -, -, -, -, hT, hI, -⟩ := rGCommand_open hc
  by_cases e : c.fKind = 11
  · rw [show runF R c = _ from by unfold runF; rw [if_pos e]]
    exact run_begin O g n R _ w H (by rw [← e]; rfl) (by omega)
  by_cases e : c.fKind = 12
  · rw [show runF R c = _ from by unfold runF; rw [if_neg (by omega), if_pos e]]
    exact run_decide O g n R _ c.fTxn c.fN c.fFlag w H (by rw [← e]; rfl) rfl rfl rfl hn uT (by omega)
  by_cases e : c.fKind = 13
  · rw [show runF R c = _ from by unfold runF; rw [if_neg (by omega), if_neg (by omega), if_pos e]]
    exact run_ask O g n R _ c.fTxn w H (by rw [← e]; rfl) rfl hn uT (by omega)
  by_cases e : c.fKind = 14
  · rw [show runF R c = _ from by unfold runF; rw [if_neg (by omega), if_neg (by omega), if_neg (by omega), if_pos e]]
    have hy := addTable_good (t := c.fTable) hsm
    exact run_change O g n R _ 14 _ w H (by rw [← e]; rfl) (.inl rfl) rfl (fun w' k' => change_table O g n R _ _ c.fTable p w' (H.nix k') (by rw [← e]; rfl) rfl (rGTable_lawful.nix hT k') (fun b hb => by have := hp b hb; have := k'.size; omega) (by omega) hy.1 hy.2)
  by_cases e : c.fKind = 15
  · rw [show runF R c = _ from by unfold runF; rw [if_neg (by omega), if_neg (by omega), if_neg (by omega), if_neg (by omega), if_pos e]]
    have hy := addIndex_good (x := c.fIndex) (tn := c.fName) hsm hx
    exact run_change O g n R _ 15 _ w H (by rw [← e]; rfl) (.inr (.inl rfl)) rfl (fun w' k' => change_index O g n R _ _ c.fIndex c.fName _ rfl p w' (H.nix k') (by rw [← e]; rfl) rfl rfl (rGIndex_lawful.nix hI k') (fun b hb => by have := hp b hb; have := k'.size; omega) (by omega) (by omega) hy.1 hy.2)
  by_cases e : c.fKind = 16
  · rw [show runF R c = _ from by unfold runF; rw [if_neg (by omega), if_neg (by omega), if_neg (by omega), if_neg (by omega), if_neg (by omega), if_pos e]]
    have hy := drop_good (nm := c.fName) hsm
    exact run_change O g n R _ 16 _ w H (by rw [← e]; rfl) (.inr (.inr (.inl rfl))) rfl (fun w' k' => change_drop O g n R _ c.fName w' (H.nix k') (by rw [← e]; rfl) rfl (by omega) hy.1 hy.2)
  by_cases e : c.fKind = 17
  · rw [show runF R c = _ from by unfold runF; rw [if_neg (by omega), if_neg (by omega), if_neg (by omega), if_neg (by omega), if_neg (by omega), if_neg (by omega), if_pos e]]
    have hy := step_good (d := c.fN) (f := c.fFrom) (t := c.fTo) (bad := c.fFlag) hsm
    exact run_change O g n R _ 17 _ w H (by rw [← e]; rfl) (.inr (.inr (.inr rfl))) rfl (fun w' k' => change_step O g n R _ c.fN c.fFrom c.fTo c.fFlag w' (H.nix k') (by rw [← e]; rfl) rfl rfl rfl rfl iT (by omega) hy.1 hy.2)
  by_cases e : c.fKind = 18 ∨ c.fKind = 19
  · rw [show runF R c = _ from by unfold runF; rw [if_neg (by omega), if_neg (by omega), if_neg (by omega), if_neg (by omega), if_neg (by omega), if_neg (by omega), if_neg (by omega), if_pos e]]
    exact run_move O g n R _ c.fKind _ w H rfl e rfl (fun w' k' => move_c O g n R _ c.fKind c.fN c.fFlag _ _ c.fKey p w' (H.nix k') hS.rt rfl rfl rfl rfl (LB.keep (show LB w p aKey cKey c.fKey from hKey) k') iN e)
  by_cases e' : c.fKind = 20
  · rw [show runF R c = _ from by unfold runF; rw [if_neg (by omega), if_neg (by omega), if_neg (by omega), if_neg (by omega), if_neg (by omega), if_neg (by omega), if_neg (by omega), if_neg e, if_pos e']]
    exact run_look O g n R _ w H (by rw [← e']; rfl) (by omega)
  · rw [show runF R c = _ from by unfold runF; rw [if_neg (by omega), if_neg (by omega), if_neg (by omega), if_neg (by omega), if_neg (by omega), if_neg (by omega), if_neg (by omega), if_neg e, if_neg e']]
    exact run_none O g n R _ c.fKind w H rfl (by omega)
end Go.Proofs.Ytibaehlfpgipfaa
