/- ROOT: awake. Printed by mac.py. -/
import Derived.Test.YtibaehlfpgipfaaGreatQZRoZ
import Derived.Test.YtibaehlfpgipfaaGreatQZMod
import Derived.Test.YtibaehlfpgipfaaGreatQZRoU
namespace Go.Proofs.YtibaehlfpgipfaaGreat
open Go.RowKit
def cmdV (k t n : Int) (f : Bool) (ti : Int) (tn : ByteArray) (aT : Option Addr) (nT cT : Nat) (aK : Option Addr) (nK cK : Nat) : List Value :=
 [.int .i64 k, .int .i64 0, .int .u64 t, .int .i64 n, .int .i64 0, .int .i64 0, .bool f, .slice none 0 0, .slice none 0 0, .slice none 0 0, .slice none 0 0, .slice none 0 0, .slice none 0 0, .int .i64 ti, .string tn, .slice aT nT cT, .slice aK nK cK, .int .i64 0, .int .i64 0, .string ⟨#[]⟩, .slice none 0 0, .bool false, .int .i64 0, .bool false, .string ⟨#[]⟩]
structure IsAt (W w : World) (O : Nat → Prop) (g n : Nat) (R : RootS) : Prop where
 is : IsRoot w O g n R
 new : ∀ b, O b → W.heap.size ≤ b
 kept : Keep Nix W w
theorem IsAt.nix {W w w' : World} {O : Nat → Prop} {g n : Nat} {R : RootS} (h : IsAt W w O g n R) (k : Keep Nix w w') : IsAt W w' O g n R := ⟨h.is.nix k, h.new, h.kept.trans k⟩
theorem IsAt.run {W w w' : World} {O : Nat → Prop} {g n : Nat} {R : RootS} {y : GReply × RootS} {e : Ending} (h : IsAt W w O g n R) (post : RunPost w O g n y e w') : ∃ (cs : List Value) (O' : Nat → Prop), e = .returned (.agg cs.toArray) ∧ rGReply w' (fun b => w.heap.size ≤ b ∧ b < w'.heap.size ∧ ¬ O' b) cs y.1 ∧ IsAt W w' O' g (n + 1) y.2 ∧ Keep O w w' ∧ (∀ b, O' b → O b ∨ w.heap.size ≤ b) := by
 obtain ⟨cs, O', R', h1, h2, h3, h4, h5, h6, h7⟩ := post
 have hs := h.kept.size
 exact ⟨cs, O', h1, rGReply_lawful.mono h2 h3, ⟨h4, fun b hb => (h5 b hb).elim (h.new b) (fun h => by omega), h.kept.then h7 (fun i hi ho => by have := h.new i ho; omega)⟩, h7, h5⟩
theorem rep_cells {w : World} {p : Nat → Prop} {cs : List Value} {y : GReply} (h : rGReply w p cs y) : cs[0]? = some (.int .i64 y.fErr) ∧ cs[1]? = some (.int .u64 y.fTxn) ∧ cs[2]? = some (.int .i64 y.fN) := by
 obtain ⟨_, _, _, _, _, _, _, _, _, _, _, _, rfl, -⟩ := rGReply_open h
 exact ⟨rfl, rfl, rfl⟩
section
attribute [local go_sem ↓] stz_Reply
set_option maxRecDepth 100000 in
set_option maxHeartbeats 4000000 in
theorem roawake_c (W : World) : Calls Tryz.prog 7 #[] W fun e w' => e = .returned (.bool true) ∧ Keep Nix W w' := by
 have HN := Lib.hid (rootNew_c 1 1 W ⟨by decide, by decide⟩ ⟨by decide, by decide⟩)
 go_enter Tryz.func7, Tryz.ntmps7
 go_wp2_with fail
 go_fit HN.out
 rintro e w1 ⟨g, O, rfl, H1, hO1, k1⟩
 clear HN
 have A1 : IsAt W w1 O g 0 _ := ⟨H1, hO1, k1⟩
 clear H1 hO1 k1
 obtain ⟨r, hr⟩ : ∃ r : GRoutes, Hid ((⟨0, 1, [⟨1 + 1, [120]⟩], 0, []⟩ : GRoutes) = r) := ⟨_, rfl⟩
 rw [hr.out] at A1
 clear hr
 have HC := Lib.hid (run_begin O g 0 _ (cmdV 11 0 0 false 0 ⟨#[]⟩ none 0 0 none 0 0) w1 A1.is rfl (by show (0 : Int) ≤ _; decide))
 unfold cmdV at HC
 go_wp2_with fail
 go_fit HC.out
 rintro e w2 hpost
 obtain ⟨cs2, O2, rfl, hr2, A2, k2, ho2'⟩ := A1.run hpost
 clear hpost HC
 have hl2 := rGReply_lawful.len hr2
 have ho2 := rGReply_ones hr2
 obtain ⟨hst2, rowB2, kV2⟩ := boxed (P := Tryz.prog) (zs := [.int .i64 0, .int .u64 0, .int .i64 0, .bool false, .slice none 0 0, .slice none 0 0, .int .i64 0, .int .i64 0, .slice none 0 0, .slice none 0 0, .int .i64 0, .int .i64 0, .slice none 0 0, .int .i64 0, .slice none 0 0]) S_Reply w2 rfl hl2 ho2
 have c1 : ((w2.alloc (.cells [.int .i64 0, .int .u64 0, .int .i64 0, .bool false, .slice none 0 0, .slice none 0 0, .int .i64 0, .int .i64 0, .slice none 0 0, .slice none 0 0, .int .i64 0, .int .i64 0, .slice none 0 0, .int .i64 0, .slice none 0 0].toArray 55)).setRow w2.heap.size cs2.toArray).cell? ⟨w2.heap.size, 1, none⟩ = some (.int .u64 1) := (rowB2.cell 1).trans (rep_cells hr2).2.1
 have A3 := A2.nix kV2
 have hbo : Hid (∀ b, O2 b → b ≠ w2.heap.size) := fun b hb e => by have := A2.is.lt b hb; omega
 have ROW2 := Lib.hid rowB2
 have C1 := Lib.hid (rep_cells hr2).2.1
 have hd : Hid (decideF (bump (startS 1 r)) 1 (goodB (bump (startS 1 r)) 0 true) = (0, 1, (decideF (bump (startS 1 r)) 1 true).2.2)) := by show _ = _; rfl
 have HC := Lib.hid (run_decide O2 g 1 _ (cmdV 12 1 0 true 0 ⟨#[]⟩ none 0 0 none 0 0) 1 0 true _ A3.is rfl rfl rfl rfl (by decide) ⟨by decide, by decide⟩ (by show 0 ≤ _; decide))
 unfold cmdV at HC
 clear rowB2 hr2 kV2 A2 k2 ho2' hl2 ho2 c1
 go_wp2_with fail
 clear hst2
 go_fit HC.out
 rintro e w4 hpost
 obtain ⟨cs4, O4, rfl, hr4, A4, k4, -⟩ := A3.run hpost
 clear hpost HC
 have hl4 := rGReply_lawful.len hr4
 have ho4 := rGReply_ones hr4
 obtain ⟨hst4, rowB4, kV4⟩ := boxed (P := Tryz.prog) (zs := [.int .i64 0, .int .u64 0, .int .i64 0, .bool false, .slice none 0 0, .slice none 0 0, .int .i64 0, .int .i64 0, .slice none 0 0, .slice none 0 0, .int .i64 0, .int .i64 0, .slice none 0 0, .int .i64 0, .slice none 0 0]) S_Reply w4 rfl hl4 ho4
 have rowC := (ROW2.out.keep k4 (fun h => hbo.out _ h rfl)).keep kV4 id
 have z1 := (rowC.cell 1).trans C1.out
 have z0 := (rowB4.cell 0).trans (rep_cells hr4).1
 have z2 := (rowB4.cell 2).trans (rep_cells hr4).2.2
 replace z1 : ((w4.alloc (.cells [.int .i64 0, .int .u64 0, .int .i64 0, .bool false, .slice none 0 0, .slice none 0 0, .int .i64 0, .int .i64 0, .slice none 0 0, .slice none 0 0, .int .i64 0, .int .i64 0, .slice none 0 0, .int .i64 0, .slice none 0 0].toArray 55)).setRow w4.heap.size cs4.toArray).cell? ⟨w2.heap.size, 1, none⟩ = some (.int .u64 1) := z1
 replace z0 : ((w4.alloc (.cells [.int .i64 0, .int .u64 0, .int .i64 0, .bool false, .slice none 0 0, .slice none 0 0, .int .i64 0, .int .i64 0, .slice none 0 0, .slice none 0 0, .int .i64 0, .int .i64 0, .slice none 0 0, .int .i64 0, .slice none 0 0].toArray 55)).setRow w4.heap.size cs4.toArray).cell? ⟨w4.heap.size, 0, none⟩ = some (.int .i64 0) := by rw [z0]; show some (Value.int .i64 (decideF _ _ _).1) = _; rw [hd.out]
 replace z2 : ((w4.alloc (.cells [.int .i64 0, .int .u64 0, .int .i64 0, .bool false, .slice none 0 0, .slice none 0 0, .int .i64 0, .int .i64 0, .slice none 0 0, .slice none 0 0, .int .i64 0, .int .i64 0, .slice none 0 0, .int .i64 0, .slice none 0 0].toArray 55)).setRow w4.heap.size cs4.toArray).cell? ⟨w4.heap.size, 2, none⟩ = some (.int .i64 1) := by rw [z2]; show some (Value.int .i64 (decideF _ _ _).2.1) = _; rw [hd.out]
 have K := Lib.hid (A4.kept.trans kV4)
 clear rowB4 rowC hr4 A4 k4 kV4 A3 hl4 ho4
 go_wp2_with fail
 go_ret
 exact ⟨rfl, K.out⟩
end
end Go.Proofs.YtibaehlfpgipfaaGreat
namespace Go.Proofs.YtibaehlfpgipfaaGreat
open Go.RowKit
theorem addTable_good {c : GCatalog} {t : GTable} (h : smallC c) : ((addTableF c t).2 = 0 → smallC (addTableF c t).1 ∧ (addTableF c t).1.fVersion = c.fVersion + 1) ∧ isI64 (addTableF c t).2 := by
 unfold addTableF
 split
 ·exact ⟨fun h => absurd (show (9 : Int) = 0 from h) (by decide), (⟨by decide, by decide⟩ : isI64 9)⟩
 ·rename_i h1
  split
  ·exact ⟨fun h => absurd (show (6 : Int) = 0 from h) (by decide), (⟨by decide, by decide⟩ : isI64 6)⟩
  ·split
   ·exact ⟨fun h => absurd (show (4 : Int) = 0 from h) (by decide), (⟨by decide, by decide⟩ : isI64 4)⟩
   ·rename_i h3
    have hb := tableB_small (by cases hq : tableB t with | true => rfl | false => exact absurd hq h1)
    refine ⟨fun _ => ⟨⟨fun d hd => ?_, h.2.1, ?_, h.2.2.2⟩, rfl⟩, (⟨by decide, by decide⟩ : isI64 0)⟩
    ·rcases List.mem_append.1 hd with hd | hd
     ·exact h.1 d hd
     ·have : d = { t with fID := c.fNext } := by simpa using hd
      subst this
      exact ⟨by show t.fColumns.length ≤ _; omega, by show t.fKey.length ≤ _; omega⟩
    ·show (c.fTables ++ [_]).length ≤ _
     rw [List.length_append, List.length_singleton]
     omega
section
attribute [local go_sem ↓] stz_Reply
end
end Go.Proofs.YtibaehlfpgipfaaGreat
namespace Go.Proofs.YtibaehlfpgipfaaGreat
open Go.RowKit
theorem i64_lit {n : Int} (h0 : 0 ≤ n) (h1 : n ≤ 100) : isI64 n := ⟨by omega, by omega⟩
theorem smallC_set {c : GCatalog} (h : smallC c) (k : Nat) (x : GIndex) (hx : x.fColumns.length ≤ 1000) : smallC (setAt c k x) := by
 refine ⟨h.1, fun y hy => ?_, h.2.2.1, ?_⟩
 ·rcases List.mem_or_eq_of_mem_set hy with hy | hy
  ·exact h.2.1 y hy
  ·subst hy; exact hx
 ·show (c.fIndexes.set k x).length ≤ _
  rw [List.length_set]
  exact h.2.2.2
theorem smallC_cut {c : GCatalog} (h : smallC c) (k : Nat) : smallC (cutAt c k) := by
 refine ⟨h.1, fun y hy => h.2.1 y (List.mem_of_mem_eraseIdx hy), h.2.2.1, ?_⟩
 show (c.fIndexes.eraseIdx k).length ≤ _
 have := List.length_eraseIdx_le (l := c.fIndexes) (i := k)
 have := h.2.2.2
 omega
def Fine (c : GCatalog) (y : GCatalog × Int) : Prop := (y.2 = 0 → smallC y.1 ∧ y.1.fVersion = c.fVersion + 1) ∧ isI64 y.2
theorem Fine.no {c : GCatalog} {n : Int} (h0 : 0 < n) (h1 : n ≤ 100) : Fine c (c, n) := ⟨fun h => absurd (show n = 0 from h) (by omega), i64_lit (n := n) (by omega) h1⟩
theorem Fine.yes {c d : GCatalog} (h : smallC d) (hv : d.fVersion = c.fVersion + 1) : Fine c (d, 0) := ⟨fun _ => ⟨h, hv⟩, i64_lit (n := 0) (by decide) (by decide)⟩
theorem addIndex_good {c : GCatalog} {x : GIndex} {tn : List UInt8} (h : smallC c) (hx : x.fColumns.length ≤ 1000) : Fine c (addIndexF c x tn) := by
 unfold addIndexF
 simp only
 split
 ·exact Fine.no (by decide) (by decide)
 ·split
  ·exact Fine.no (by decide) (by decide)
  ·split
   ·exact Fine.no (by decide) (by decide)
   ·split
    ·exact Fine.no (by decide) (by decide)
    ·rename_i h4
     refine Fine.yes ⟨h.1, fun y hy => ?_, h.2.2.1, ?_⟩ rfl
     ·rcases List.mem_append.1 hy with hy | hy
      ·exact h.2.1 y hy
      ·have : y = newX c x (firstB (fun t => decide (t.fName = tn)) c.fTables zTab).1.fID := by simpa using hy
       subst this
       exact hx
     ·show (c.fIndexes ++ [_]).length ≤ _
      rw [List.length_append, List.length_singleton]
      omega
theorem drop_good {c : GCatalog} {nm : List UInt8} (h : smallC c) : Fine c (dropF c nm) := by
 unfold dropF
 rcases findB_cases (fun x : GIndex => decide (x.fName = nm)) c.fIndexes with ⟨h1, -⟩ | ⟨k, hk, h1, -, -⟩
 ·rw [h1, atI_neg]; exact Fine.no (by decide) (by decide)
 ·rw [h1, atI_nat hk]
  have hx := h.2.1 _ (List.getElem_mem hk)
  unfold dropAt
  split
  ·exact Fine.yes (smallC_set h k _ hx) rfl
  ·split
   ·exact Fine.yes (smallC_set h k _ hx) rfl
   ·exact Fine.no (by decide) (by decide)
theorem step_good {c : GCatalog} {d f t : Int} {bad : Bool} (h : smallC c) : Fine c (stepF c d f t bad) := by
 unfold stepF
 rcases findB_cases (fun x : GIndex => decide (x.fID = d)) c.fIndexes with ⟨h1, -⟩ | ⟨k, hk, h1, -, -⟩
 ·rw [h1, atI_neg]; exact Fine.no (by decide) (by decide)
 ·rw [h1, atI_nat hk]
  have hx := h.2.1 _ (List.getElem_mem hk)
  unfold stepAt
  split
  ·exact Fine.no (by decide) (by decide)
  ·split
   ·exact Fine.yes (smallC_cut h k) rfl
   ·exact Fine.yes (smallC_set h k _ hx) rfl
def decP (R : RootS) (t : Int) (b : Bool) : GReply × RootS := (repG (decideF R t b).1 0 (decideF R t b).2.1, (decideF R t b).2.2)
def runF (R : RootS) (c : GCommand) : GReply × RootS :=
 if c.fKind = 11 then (repL (R.begun + 1) 0 (lastC R) R.routes, bump R)
 else if c.fKind = 12 then decP R c.fTxn (goodB R c.fN c.fFlag)
 else if c.fKind = 13 then decP R c.fTxn false
 else if c.fKind = 14 then changeP R 0 (addTableF (lastC R) c.fTable)
 else if c.fKind = 15 then changeP R (IntKind.u64.wrap (lastC R).fNext) (addIndexF (lastC R) c.fIndex c.fName)
 else if c.fKind = 16 then changeP R 0 (dropF (lastC R) c.fName)
 else if c.fKind = 17 then changeP R 0 (stepF (lastC R) c.fN c.fFrom c.fTo c.fFlag)
 else if c.fKind = 18 ∨ c.fKind = 19 then moveF R c.fKind c.fN c.fFlag c.fKey
 else if c.fKind = 20 then (repL 0 R.begun (lastC R) R.routes, R)
 else (repG 1 0 0, R)
structure Small (k : Nat) (R : RootS) : Prop where
 cats : R.cats.length ≤ k + 1
 ord : R.order.length ≤ k
 beg : R.begun ≤ (k : Int)
 rt : RtOk R.routes
 dom : ∀ t p, R.dec t = some p → t ≠ 0 ∧ t ≤ R.begun
theorem Small.more {k : Nat} {R : RootS} (h : Small k R) : Small (k + 1) R := ⟨by have := h.cats; omega, by have := h.ord; omega, by have := h.beg; omega, h.rt, h.dom⟩
theorem Small.dec {k : Nat} {R : RootS} (h : Small k R) (t : Int) (b : Bool) : Small (k + 1) (decideF R t b).2.2 := by
 have h1 := h.cats
 have h2 := h.ord
 have h3 := h.beg
 unfold decideF
 split
 ·exact h.more
 ·rename_i hb
  have hd : ∀ x t' p, updD R.dec t x t' = some p → t' ≠ 0 ∧ t' ≤ R.begun := fun x t' p hp => by
   unfold updD at hp
   split at hp
   ·rename_i he
    subst he
    omega
   ·exact h.dom t' p hp
  split
  ·split
   ·exact h.more
   ·exact h.more
  ·split
   ·exact ⟨by show R.cats.length ≤ _; omega, by show (R.order ++ [t]).length ≤ _; rw [List.length_append, List.length_singleton]; omega, by show R.begun ≤ _; omega, h.rt, hd _⟩
   ·exact ⟨by show R.cats.length ≤ _; omega, by show R.order.length ≤ _; omega, by show R.begun ≤ _; omega, h.rt, hd _⟩
theorem Small.change {k : Nat} {R : RootS} (h : Small k R) (id : Int) (y : GCatalog × Int) : Small (k + 1) (changeP R id y).2 := by
 have h1 := h.cats
 have h2 := h.ord
 have h3 := h.beg
 unfold changeP
 split
 ·exact ⟨by show (R.cats ++ [y.1]).length ≤ _; rw [List.length_append, List.length_singleton]; omega, by show R.order.length ≤ _; omega, by show R.begun ≤ _; omega, h.rt, h.dom⟩
 ·exact h.more
theorem moveY_ok {R : RootS} (h : RtOk R.routes) (k x : Int) (f : Bool) (l : List UInt8) : RtOk (moveY R k x f l).2.1 := by
 unfold moveY
 split
 ·exact h
 ·split
  ·exact h.cut x l
  ·split
   ·exact h
   ·split
    ·exact h.still
    ·split
     ·exact h
     ·exact h.moved x
theorem Small.move {k : Nat} {R : RootS} (h : Small k R) (kd x : Int) (f : Bool) (l : List UInt8) : Small (k + 1) (moveF R kd x f l).2 := by
 have h1 := h.cats
 have h2 := h.ord
 have h3 := h.beg
 unfold moveF moveP
 split
 ·exact ⟨by show R.cats.length ≤ _; omega, by show R.order.length ≤ _; omega, by show R.begun ≤ _; omega, moveY_ok h.rt _ _ _ _, h.dom⟩
 ·exact h.more
theorem Small.run {k : Nat} {R : RootS} (h : Small k R) (c : GCommand) : Small (k + 1) (runF R c).2 := by
 have h1 := h.cats
 have h2 := h.ord
 have h3 := h.beg
 unfold runF
 split
 ·exact ⟨by show R.cats.length ≤ _; omega, by show R.order.length ≤ _; omega, by show R.begun + 1 ≤ _; omega, h.rt, fun t p hp => by have := h.dom t p hp; exact ⟨this.1, by show t ≤ R.begun + 1; omega⟩⟩
 ·split
  ·exact h.dec _ _
  ·split
   ·exact h.dec _ _
   ·split
    ·exact h.change _ _
    ·split
     ·exact h.change _ _
     ·split
      ·exact h.change _ _
      ·split
       ·exact h.change _ _
       ·split
        ·exact h.move _ _ _ _
        ·split
         ·exact h.more
         ·exact h.more
theorem run_all {p : Nat → Prop} {k : Nat} (O : Nat → Prop) (g n : Nat) (R : RootS) (c : GCommand) (ccs : List Value) (w : World) (H : IsRoot w O g n R) (hS : Small k R) (hkb : k ≤ 80000) (hn : n < 1000000) (hc : rGCommand w p ccs c) (hp : ∀ b, p b → b < w.heap.size) (hx : c.fIndex.fColumns.length ≤ 1000) :
  Calls Tryz.prog 9 #[.pointer (some ⟨g, 0, none⟩), .agg ccs.toArray] w (RunPost w O g n (runF R c)) := by
 have h1 := hS.cats
 have h2 := hS.ord
 have h3 := hS.beg
 have hpos : 0 < R.cats.length := List.length_pos_iff.2 H.ok.ex
 have hsm := (H.ok.small (lastC R) (by
  unfold lastC
  rw [List.getLast?_eq_getElem?, List.getElem?_eq_getElem (by omega)]
  exact List.getElem_mem _)).1
 obtain ⟨aKey, cKey, aSF, cSF, aST, cST, aP, cP, aSe, cSe, aWr, cWr, aTC, cTC, aTK, cTK, aIC, cIC, rfl, iK, iE, uT, iN, iF, iT, hKey, -, -, -, -, hT, hI, -⟩ := rGCommand_open hc
 by_cases e : c.fKind = 11
 ·rw [show runF R c = _ from by unfold runF; rw [if_pos e]]
  exact run_begin O g n R _ w H (by rw [← e]; rfl) (by omega)
 by_cases e : c.fKind = 12
 ·rw [show runF R c = _ from by unfold runF; rw [if_neg (by omega), if_pos e]]
  exact run_decide O g n R _ c.fTxn c.fN c.fFlag w H (by rw [← e]; rfl) rfl rfl rfl hn uT (by omega)
 by_cases e : c.fKind = 13
 ·rw [show runF R c = _ from by unfold runF; rw [if_neg (by omega), if_neg (by omega), if_pos e]]
  exact run_ask O g n R _ c.fTxn w H (by rw [← e]; rfl) rfl hn uT (by omega)
 by_cases e : c.fKind = 14
 ·rw [show runF R c = _ from by unfold runF; rw [if_neg (by omega), if_neg (by omega), if_neg (by omega), if_pos e]]
  have hy := addTable_good (t := c.fTable) hsm
  exact run_change O g n R _ 14 _ w H (by rw [← e]; rfl) (.inl rfl) rfl (fun w' k' => change_table O g n R _ _ c.fTable p w' (H.nix k') (by rw [← e]; rfl) rfl (rGTable_lawful.nix hT k') (fun b hb => by have := hp b hb; have := k'.size; omega) (by omega) hy.1 hy.2)
 by_cases e : c.fKind = 15
 ·rw [show runF R c = _ from by unfold runF; rw [if_neg (by omega), if_neg (by omega), if_neg (by omega), if_neg (by omega), if_pos e]]
  have hy := addIndex_good (x := c.fIndex) (tn := c.fName) hsm hx
  exact run_change O g n R _ 15 _ w H (by rw [← e]; rfl) (.inr (.inl rfl)) rfl (fun w' k' => change_index O g n R _ _ c.fIndex c.fName _ rfl p w' (H.nix k') (by rw [← e]; rfl) rfl rfl (rGIndex_lawful.nix hI k') (fun b hb => by have := hp b hb; have := k'.size; omega) (by omega) (by omega) hy.1 hy.2)
 by_cases e : c.fKind = 16
 ·rw [show runF R c = _ from by unfold runF; rw [if_neg (by omega), if_neg (by omega), if_neg (by omega), if_neg (by omega), if_neg (by omega), if_pos e]]
  have hy := drop_good (nm := c.fName) hsm
  exact run_change O g n R _ 16 _ w H (by rw [← e]; rfl) (.inr (.inr (.inl rfl))) rfl (fun w' k' => change_drop O g n R _ c.fName w' (H.nix k') (by rw [← e]; rfl) rfl (by omega) hy.1 hy.2)
 by_cases e : c.fKind = 17
 ·rw [show runF R c = _ from by unfold runF; rw [if_neg (by omega), if_neg (by omega), if_neg (by omega), if_neg (by omega), if_neg (by omega), if_neg (by omega), if_pos e]]
  have hy := step_good (d := c.fN) (f := c.fFrom) (t := c.fTo) (bad := c.fFlag) hsm
  exact run_change O g n R _ 17 _ w H (by rw [← e]; rfl) (.inr (.inr (.inr rfl))) rfl (fun w' k' => change_step O g n R _ c.fN c.fFrom c.fTo c.fFlag w' (H.nix k') (by rw [← e]; rfl) rfl rfl rfl rfl iT (by omega) hy.1 hy.2)
 by_cases e : c.fKind = 18 ∨ c.fKind = 19
 ·rw [show runF R c = _ from by unfold runF; rw [if_neg (by omega), if_neg (by omega), if_neg (by omega), if_neg (by omega), if_neg (by omega), if_neg (by omega), if_neg (by omega), if_pos e]]
  exact run_move O g n R _ c.fKind _ w H rfl e rfl (fun w' k' => move_c O g n R _ c.fKind c.fN c.fFlag _ _ c.fKey p w' (H.nix k') hS.rt rfl rfl rfl rfl (LB.keep (show LB w p aKey cKey c.fKey from hKey) k') iN e)
 by_cases e' : c.fKind = 20
 ·rw [show runF R c = _ from by unfold runF; rw [if_neg (by omega), if_neg (by omega), if_neg (by omega), if_neg (by omega), if_neg (by omega), if_neg (by omega), if_neg (by omega), if_neg e, if_pos e']]
  exact run_look O g n R _ w H (by rw [← e']; rfl) (by omega)
 ·rw [show runF R c = _ from by unfold runF; rw [if_neg (by omega), if_neg (by omega), if_neg (by omega), if_neg (by omega), if_neg (by omega), if_neg (by omega), if_neg (by omega), if_neg e, if_neg e']]
  exact run_none O g n R _ c.fKind w H rfl (by omega)
end Go.Proofs.YtibaehlfpgipfaaGreat
