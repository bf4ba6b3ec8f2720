/- ROOT: a change of the catalog. Printed by mac.py. -/
import Derived.Test.YtibaehlfpgipfaaGreatQZRoY
namespace Go.Proofs.YtibaehlfpgipfaaGreat
open Go.RowKit
theorem appendL1_run {P : Program} {t e sz bytes : Nat} (T : SliceT P t e sz bytes) {w : World} {cs : List Value} (t' ty : TypeId) (base : Nat) {v : Value} {n : Nat} {xs : List Value} (hown : w.ownsRow base e sz v n xs) (hl : cs.length = sz) (h1 : ones cs = true)
  (h63 : n + 1 ≤ maxLen) (hbytes : (n + 1) * bytes ≤ 140737488355328) (hbase : base ≤ w.heap.size) :
  ∃ a' cap' w', (Builtin.append_ #[t, t] ty #[v, .slice (some ⟨w.heap.size, 0, none⟩) 1 1]).run P (w.alloc (.cells cs.toArray t')) = .ok (.slice a' (n + 1) cap') w' ∧ w'.ownsRow base e sz (.slice a' (n + 1) cap') (n + 1) (xs ++ cs) ∧ Keep (OwnB v) w w' ∧ (∀ b, OwnB (.slice a' (n + 1) cap') b → OwnB v b ∨ w.heap.size ≤ b) := by
 obtain ⟨i, z, hi, hz, hsz, hby, hzs⟩ := T.info
 obtain ⟨v', w', hrun, hown', hg, -, hf⟩ := run_append_own_at (P := P) (w.alloc (.cells cs.toArray t')) base t ty e i z sz bytes T.under hi hz hsz hby hzs T.pos v n xs (hown.alloc _) ⟨w.heap.size, 0, none⟩ 1 1 cs (by omega) (fun j u hu => by
   rw [Addr.add_lit, World.cell?_alloc_at _ _ _ _ rfl, Nat.zero_add]; simpa using hu) (fun u hu => List.all_eq_true.1 h1 u hu) h63 hbytes (by simp; omega)
 obtain ⟨a', cap', rfl⟩ := owned_shape hown'
 refine ⟨a', cap', w', hrun, hown', ((Keep.refl _ w).alloc _).grown hg (fun _ hk _ => hk), fun b hb => ?_⟩
 rcases hf with h | h
 ·have hb' : (Value.slice a' (n + 1) cap').ownBlock = some b := hb
  exact .inl (h.symm.trans hb')
 ·right
  have hb' : (Value.slice a' (n + 1) cap').ownBlock = some b := hb
  rw [h] at hb'
  simp at hb'
  omega
theorem stepL_append1 {P : Program} {t e sz bytes : Nat} (T : SliceT P t e sz bytes) {ops : Array Oper} {o : Oper} {a : Act} {K : Act → World → Prop} {Q : Exit → Act → World → Prop} {E : Prop} {w : World} {cs : List Value} {t' : TypeId} (hgd : o.guard = none) (s x : Operand)
  (ho : o.op = .call { callee := .builtin .append, args := #[s, x], argTypes := #[t, t] })
  (base : Nat) {v : Value} {n : Nat} {xs : List Value} (hs : a.eval s = v) (hx : a.eval x = .slice (some ⟨w.heap.size, 0, none⟩) 1 1) (hown : w.ownsRow base e sz v n xs) (hl : cs.length = sz) (h1 : ones cs = true)
  (h63 : n + 1 ≤ maxLen) (hbytes : (n + 1) * bytes ≤ 140737488355328) (hbase : base ≤ w.heap.size)
  (h : ∀ a' cap' w', w'.ownsRow base e sz (.slice a' (n + 1) cap') (n + 1) (xs ++ cs) → Keep (OwnB v) w w' → (∀ b, OwnB (.slice a' (n + 1) cap') b → OwnB v b ∨ w.heap.size ≤ b) → K (a.put o.dst (.slice a' (n + 1) cap')) w') :
  if Region.wanted o (yielded ops a.tmps) = true then Oper.wp P o a (w.alloc (.cells cs.toArray t')) K Q else E := by
 rw [if_pos (by simp [Region.wanted, hgd])]
 obtain ⟨a', cap', w', hrun, h2, h3, h4⟩ := appendL1_run T t' o.type base hown hl h1 h63 hbytes hbase
 unfold Oper.wp
 simp only [execOp, ho, resolve, invoke, builtin, List.map_toArray, List.map_cons, List.map_nil, hs, hx, hrun, Sem.run_bind, Sem.run_pure, Result.andThen_ok]
 exact h _ _ _ h2 h3 h4
theorem RootAt.turnC {w wf : World} {O O' Pn : Nat → Prop} {g n : Nat} {R : RootS} {bM cC cO cS cU cC' : Nat} {aC aO aS aU aC' : Option Addr} {cssC : List (List Value)} {D : DataW Value} {cy : List Value} {c : GCatalog}
  (B : RootAt w O g n R bM aC cC aO cO aS cS aU cU cssC D) (og : O g) (hO : ∀ b, O b → O' b) (k : Keep (fun b => b = g ∨ OwnB (.slice aC R.cats.length cC) b ∨ ¬ O b) w wf)
  (row : RowIs wf g 79 [.int .i64 R.spare, .slice aC' (R.cats.length + 1) cC', .int .i64 R.routes.fEpoch, .int .i64 R.routes.fBase, .slice aS R.routes.fSpans.length cS, .int .i64 R.routes.fMoving, .slice aU R.routes.fCut.length cU, .int .u64 R.begun, .map (some bM), .slice aO R.order.length cO])
  (own : wf.ownsRow 0 50 4 (.slice aC' (R.cats.length + 1) cC') (R.cats.length + 1) (cssC.flatten ++ cy)) (hv : ∀ b, OwnB (.slice aC' (R.cats.length + 1) cC') b → OwnB (.slice aC R.cats.length cC) b ∨ (¬ O b ∧ O' b))
  (hcy : rGCatalog wf Pn cy c) (hPn : ∀ b, Pn b → ¬ O b ∧ O' b ∧ ¬ OwnB (.slice aC' (R.cats.length + 1) cC') b) :
  RootAt wf O' g n ⟨R.spare, R.cats ++ [c], R.routes, R.begun, R.dec, R.order⟩ bM aC' cC' aO cO aS cS aU cU (cssC ++ [cy]) D := by
 have hl : (R.cats ++ [c]).length = R.cats.length + 1 := by simp
 have hdeep : ∀ b, Deep O g bM (.slice aC R.cats.length cC) (.slice aO R.order.length cO) b → ¬ (b = g ∨ OwnB (.slice aC R.cats.length cC) b ∨ ¬ O b) := fun b hb h => by
  rcases h with h | h | h
  ·exact hb.2.1 h
  ·exact hb.2.2.2.1 h
  ·exact h hb.1
 have hdeep2 : ∀ b, Deep O g bM (.slice aC R.cats.length cC) (.slice aO R.order.length cO) b → Deep O' g bM (.slice aC' (R.cats.length + 1) cC') (.slice aO R.order.length cO) b := fun b hb =>
  ⟨hO b hb.1, hb.2.1, hb.2.2.1, fun h => by
   rcases hv b h with h | h
   ·exact hb.2.2.2.1 h
   ·exact h.1 hb.1, hb.2.2.2.2⟩
 have hnew : ∀ b, Pn b → Deep O' g bM (.slice aC' (R.cats.length + 1) cC') (.slice aO R.order.length cO) b := fun b hb => by
  have h := hPn b hb
  exact ⟨h.2.1, fun e => h.1 (e ▸ og), fun e => h.1 (e ▸ B.oM), h.2.2, fun ho => h.1 (B.oO b ho).1⟩
 have els0 := (B.els.keep rGCatalog_lawful k hdeep).mono rGCatalog_lawful hdeep2
 refine ⟨by rw [hl]; exact row, hO _ B.oM, B.ne, fun b hb => ?_, fun b hb => ⟨hO b (B.oO b hb).1, (B.oO b hb).2⟩, fun b hb h => ?_, by rw [hl, List.flatten_append]; simpa using own, ?_, ?_, owned_keep B.rowO k (fun b hb h => ?_), B.dec.keep k (fun h => ?_)⟩
 ·rw [hl] at hb
  rcases hv b hb with h | h
  ·exact ⟨hO b (B.oC b h).1, (B.oC b h).2⟩
  ·exact ⟨h.2, fun e => h.1 (e ▸ og), fun e => h.1 (e ▸ B.oM)⟩
 ·rw [hl] at hb
  rcases hv b hb with h1 | h1
  ·exact B.co b h1 h
  ·exact h1.1 (B.oO b h).1
 ·rw [hl]
  refine ⟨by rw [List.length_append, List.length_append, els0.1]; rfl, fun i d x hd hx => ?_⟩
  by_cases hi : i < cssC.length
  ·rw [List.getElem?_append_left hi] at hd
   have hi' : i < R.cats.length := by rw [← els0.1]; exact hi
   have hx' : (R.cats ++ [c])[i]? = some x := hx
   rw [List.getElem?_append_left hi'] at hx'
   exact els0.2 i d x hd hx'
  ·have hx' : (R.cats ++ [c])[i]? = some x := hx
   have he := els0.1
   have hi2 : i = cssC.length := by
    have := (List.getElem?_eq_some_iff.1 hd).1
    rw [List.length_append, List.length_singleton] at this
    omega
   rw [hi2, List.getElem?_append_right (Nat.le_refl _), Nat.sub_self] at hd
   rw [hi2, he, List.getElem?_append_right (Nat.le_refl _), Nat.sub_self] at hx'
   cases hd
   cases hx'
   exact rGCatalog_lawful.mono hcy hnew
 ·rw [hl]
  exact rGRoutes_lawful.mono (rGRoutes_lawful.keep B.rts k hdeep) hdeep2
 ·have := B.oO b hb
  rcases h with h | h | h
  ·exact this.2.1 h
  ·exact B.co b h hb
  ·exact h this.1
 ·rcases h with h | h | h
  ·exact B.ne h
  ·exact (B.oC bM h).2.2 rfl
  ·exact h B.oM
def addC (R : RootS) (c : GCatalog) : RootS := ⟨R.spare, R.cats ++ [c], R.routes, R.begun, R.dec, R.order⟩
def changeP (R : RootS) (id : Int) (y : GCatalog × Int) : GReply × RootS := if y.2 = 0 then (repG 0 id y.1.fVersion, addC R y.1) else (repG y.2 0 0, R)
theorem okC {R : RootS} (ok : RootOk R) {c : GCatalog} (hl : R.cats.length ≤ 90000) (hs : smallC c) (hv : c.fVersion = (lastC R).fVersion + 1) (hlast : (lastC R).fVersion + 1 = (R.cats.length : Int)) : RootOk (addC R c) := by
 have h100 := ok.len
 refine ⟨by simp [addC], ⟨by show (R.cats ++ [c]).length ≤ _; rw [List.length_append, List.length_singleton]; omega, h100.2⟩, fun d hd => ?_, fun i d hd => ?_, ok.spans, ok.u64, ok.place⟩
 ·rcases List.mem_append.1 hd with h | h
  ·exact ok.small d h
  ·have : d = c := by simpa using h
   subst this
   exact ⟨hs, by omega⟩
 ·have hd' : (R.cats ++ [c])[i]? = some d := hd
  by_cases hi : i < R.cats.length
  ·rw [List.getElem?_append_left hi] at hd'
   exact ok.ver i d hd'
  ·have hi2 : i = R.cats.length := by
    have := (List.getElem?_eq_some_iff.1 hd').1
    rw [List.length_append, List.length_singleton] at this
    omega
   rw [hi2, List.getElem?_append_right (Nat.le_refl _), Nat.sub_self] at hd'
   cases hd'
   omega
end Go.Proofs.YtibaehlfpgipfaaGreat
namespace Go.Proofs.YtibaehlfpgipfaaGreat
open Go.RowKit
set_option linter.unusedSimpArgs false
theorem Keep.mono' {S S' : Nat → Prop} {w w' : World} (k : Keep S w w') (h : ∀ i, i < w.heap.size → S i → S' i) : Keep S' w w' := (Keep.refl S' w).then k h
section
attribute [local go_sem ↓] stz_Reply stz_Catalog ldz_Catalog ldz_Table lsz_Catalog
set_option maxRecDepth 100000 in
set_option maxHeartbeats 4000000 in
theorem change_table (O : Nat → Prop) (g n : Nat) (R : RootS) (ccs cst : List Value) (t : GTable) (p : Nat → Prop) (w : World) (H : IsRoot w O g n R) (hk : ccs[0]? = some (.int .i64 14)) (hct : (ccs.drop 13).take 4 = cst) (ht : rGTable w p cst t) (hp : ∀ b, p b → b < w.heap.size) (hbig : R.cats.length ≤ 90000)
  (hg : (addTableF (lastC R) t).2 = 0 → smallC (addTableF (lastC R) t).1 ∧ (addTableF (lastC R) t).1.fVersion = (lastC R).fVersion + 1) (hye0 : isI64 (addTableF (lastC R) t).2) :
  Calls Tryz.prog 25 #[.pointer (some ⟨g, 0, none⟩), .agg ccs.toArray] w (RunPost w O g n (changeP R 0 (addTableF (lastC R) t))) := by
 have hinfo : (Tryz.prog.info? 55).map (·.size) = some 15 := by kernel_rfl
 have i0 : isI64 0 := ⟨by decide, by decide⟩
 have u0 : isU64 0 := ⟨by decide, by decide⟩
 have H0 := Lib.hid H.lt
 have hlast := Lib.hid H.last
 have hlen := H.ok.len.1
 have hpos : 0 < R.cats.length := List.length_pos_iff.2 H.ok.ex
 have kB : Keep Nix w (((w.alloc (.cells ccs.toArray 43))).alloc (.cells #[.int .i64 0, .int .u64 0, .int .i64 0, .bool false, .slice none 0 0, .slice none 0 0, .int .i64 0, .int .i64 0, .slice none 0 0, .slice none 0 0, .int .i64 0, .int .i64 0, .slice none 0 0, .int .i64 0, .slice none 0 0] 55)) := ((Keep.refl Nix w).alloc _).alloc _
 have row0 : RowIs (((w.alloc (.cells ccs.toArray 43))).alloc (.cells #[.int .i64 0, .int .u64 0, .int .i64 0, .bool false, .slice none 0 0, .slice none 0 0, .int .i64 0, .int .i64 0, .slice none 0 0, .slice none 0 0, .int .i64 0, .int .i64 0, .slice none 0 0, .int .i64 0, .slice none 0 0] 55)) w.heap.size 43 ccs := by have := (RowIs.alloc w ccs.toArray 43).keep ((Keep.refl Nix _).alloc (.cells #[.int .i64 0, .int .u64 0, .int .i64 0, .bool false, .slice none 0 0, .slice none 0 0, .int .i64 0, .int .i64 0, .slice none 0 0, .slice none 0 0, .int .i64 0, .int .i64 0, .slice none 0 0, .int .i64 0, .slice none 0 0] 55)) id; simpa using this
 have rowZ : RowIs (((w.alloc (.cells ccs.toArray 43))).alloc (.cells #[.int .i64 0, .int .u64 0, .int .i64 0, .bool false, .slice none 0 0, .slice none 0 0, .int .i64 0, .int .i64 0, .slice none 0 0, .slice none 0 0, .int .i64 0, .int .i64 0, .slice none 0 0, .int .i64 0, .slice none 0 0] 55)) (w.heap.size + 1) 55 [.int .i64 0, .int .u64 0, .int .i64 0, .bool false, .slice none 0 0, .slice none 0 0, .int .i64 0, .int .i64 0, .slice none 0 0, .slice none 0 0, .int .i64 0, .int .i64 0, .slice none 0 0, .int .i64 0, .slice none 0 0] := RowIs.alloc_at (w.alloc (.cells ccs.toArray 43)) _ (by simp) _ _
 have HZ := Lib.hid rowZ
 have HR0 := Lib.hid row0
 have HK := Lib.hid hk
 have hsz : Hid (((((w.alloc (.cells ccs.toArray 43))).alloc (.cells #[.int .i64 0, .int .u64 0, .int .i64 0, .bool false, .slice none 0 0, .slice none 0 0, .int .i64 0, .int .i64 0, .slice none 0 0, .slice none 0 0, .int .i64 0, .int .i64 0, .slice none 0 0, .int .i64 0, .slice none 0 0] 55))).heap.size = w.heap.size + 1 + 1) := by show _ = _; simp
 have HC := Lib.hid (catalog_c O g n R (((w.alloc (.cells ccs.toArray 43))).alloc (.cells #[.int .i64 0, .int .u64 0, .int .i64 0, .bool false, .slice none 0 0, .slice none 0 0, .int .i64 0, .int .i64 0, .slice none 0 0, .slice none 0 0, .int .i64 0, .int .i64 0, .slice none 0 0, .int .i64 0, .slice none 0 0] 55)) (H.nix kB))
 have H2 := Lib.hid (H.nix kB)
 have hmem : lastC R ∈ R.cats := by
  unfold lastC
  rw [List.getLast?_eq_getElem?, List.getElem?_eq_getElem (by omega)]
  exact List.getElem_mem _
 have hsml := Lib.hid (H.ok.small _ hmem).1
 clear rowZ row0 hk hmem
 go_enter Tryz.func25, Tryz.ntmps25
 go_wp2_with fail
 go_fit HC.out
 rintro e w3 ⟨cn, rfl, rn, k3⟩
 clear HC
 have hs3 := k3.size
 have hcl0 := rGCatalog_lawful.len rn
 have hc1 := rGCatalog_ones rn
 obtain ⟨hst0, row5, kV⟩ := boxed (P := Tryz.prog) (zs := [.int .i64 0, .int .i64 0, .slice none 0 0, .slice none 0 0]) S_Catalog w3 rfl hcl0 hc1
 have row0 := (HR0.out.keep k3 id).keep kV id
 have hb5' : w.heap.size + 2 ≤ w3.heap.size ∧ w3.heap.size < (((w3.alloc (.cells [.int .i64 0, .int .i64 0, .slice none 0 0, .slice none 0 0].toArray 50)).setRow w3.heap.size cn.toArray).heap.size) := ⟨by have := hsz.out; omega, row5.lt⟩
 have x0 := (row0.cell 0).trans HK.out
 have ld5 := Whole.run (P := Tryz.prog) S_Catalog hcl0 row5
 have hlt := rGTable_lawful.len ht
 have ldT : (wholeSem 39 (.pointer (some ⟨w.heap.size, 13, none⟩))).run Tryz.prog ((w3.alloc (.cells [.int .i64 0, .int .i64 0, .slice none 0 0, .slice none 0 0].toArray 50)).setRow w3.heap.size cn.toArray) = .ok (.value (.agg cst.toArray)) ((w3.alloc (.cells [.int .i64 0, .int .i64 0, .slice none 0 0, .slice none 0 0].toArray 50)).setRow w3.heap.size cn.toArray) := Whole.at S_Table hlt (fun j u hu => by
  rw [row0.cell]
  rw [← hct, List.getElem?_take] at hu
  split at hu
  ·rw [List.getElem?_drop] at hu
   exact hu
  ·cases hu)
 have k4 := (kB.trans k3).trans kV
 have HG := Lib.hid (sAddTable_c (p := fun b => b < ((w3.alloc (.cells [.int .i64 0, .int .i64 0, .slice none 0 0, .slice none 0 0].toArray 50)).setRow w3.heap.size cn.toArray).heap.size) (lastC R) cn t cst _ (rGCatalog_lawful.mono (rGCatalog_lawful.nix rn kV) (fun b hb => by have := hb.2; have := kV.size; omega)) (rGTable_lawful.mono (rGTable_lawful.nix ht k4) (fun b hb => by have := hp b hb; have := k4.size; omega)) hsml.out (by have := hlast.out; omega) (fun b hb => hb))
 obtain ⟨y, hY⟩ : ∃ y, Hid (addTableF (lastC R) t = y) := ⟨_, rfl⟩
 rw [hY.out] at HG hg hye0
 have hgood := Lib.hid hg
 have hye := Lib.hid hye0
 have HZ := Lib.hid ((HZ.out.keep k3 id).keep kV id)
 have H4 := Lib.hid ((H2.out.nix k3).nix kV)
 have K4 := Lib.hid k4
 have HROW5 := Lib.hid row5
 have hlen5 := Lib.hid hcl0
 have hb5 := Lib.hid hb5'
 clear row5 row0 rn k3 kV k4 kB H2 hcl0 hc1 hs3 ht hct hlt hp HR0 HK hb5' hg hye0
 go_wp2_with fail
 clear ld5 ldT hst0 x0
 go_fit HG.out
 rintro e w5 ⟨cy, rfl, hcy, hcy1, k5⟩
 clear HG
 generalize (w3.alloc (.cells [.int .i64 0, .int .i64 0, .slice none 0 0, .slice none 0 0].toArray 50)).setRow w3.heap.size cn.toArray = w4 at *
 generalize w3.heap.size = b5 at *
 have hcyl := rGCatalog_lawful.len hcy
 have row5 := HROW5.out.keep k5 id
 have hst5 := store_run (P := Tryz.prog) (cs := cy) S_Catalog row5 hlen5.out hcyl hcy1
 have kT : Keep (· = b5) w5 (w5.setRow b5 cy.toArray) := (Keep.refl (· = b5) w5).setRow (fun _ => rfl) _
 have R5 := Lib.hid (row5.setRow cy)
 have KT := Lib.hid kT
 have hs5 := k5.size
 have RZ := Lib.hid ((HZ.out.keep k5 id).keep kT (fun e => by have := hb5.out; omega))
 have HY := Lib.hid (rGCatalog_lawful.keep hcy kT (fun b hb e => by have := hb.1; have := hb5.out; omega))
 have H6 := Lib.hid ((H4.out.nix k5).keep kT (fun b hb e => by have := H0.out b hb; have := hb5.out; omega))
 have K6 := Lib.hid (((K4.out.trans k5).nix (S := (· = b5))).trans kT)
 have S6 := Lib.hid (show w4.heap.size ≤ w5.heap.size from hs5)
 have S7 := Lib.hid kT.size
 have HCY := Lib.hid hcyl
 have HC1 := Lib.hid hcy1
 have HNI := Lib.hid (show ∀ b, NewIn w4 w5 b → w4.heap.size ≤ b ∧ b < w5.heap.size from fun b hb => ⟨hb.1, hb.2⟩)
 clear hcy hcyl hcy1 row5 kT hs5 HROW5 k5
 by_cases hz : y.2 = 0
 ·have hR : Hid (changeP R 0 y = (repG 0 0 y.1.fVersion, addC R y.1)) := if_pos hz
  obtain ⟨hsm, hyv⟩ := hgood.out hz
  have hyv2 : isI64 y.1.fVersion := ⟨by have := hlast.out; omega, by have := hlast.out; omega⟩
  have HYV := Lib.hid hyv
  clear hyv
  go_upto_region 14 with fail
  clear hst5
  generalize w5.setRow b5 cy.toArray = w6 at *
  obtain ⟨lt, og, ok, bM, aC, cC, aO, cO, aS, cS, aU, cU, cssC, D, B⟩ := H6.out
  have hoC := Lib.hid B.oC
  have hbg5 : Hid (b5 ≠ g) := by show _ ≠ _; have := H0.out g og; have := hb5.out; omega
  have HSS : Hid (∀ w', Keep (fun b => b ≠ b5) w6 w' → (wholeSem 50 (.pointer (some ⟨b5, 0, none⟩))).run Tryz.prog w' = .ok (.value (.agg cy.toArray)) w') := fun w' k => Whole.run (P := Tryz.prog) S_Catalog HCY.out (R5.out.keep k (fun h => h rfl))
  have kd : Keep Nix w6 w6.drew := (Keep.refl Nix _).drew
  refine wp_region_held_drew (S := (fun w' => (wholeSem 50 (.pointer (some ⟨b5, 0, none⟩))).run Tryz.prog w' = .ok (.value (.agg cy.toArray)) w')) (by kernel_rfl) (HSS.out _ kd.nix) (fun hHeld => ?_)
  have HSS := Lib.hid (fun w' (k : Keep (fun b => b ≠ b5) w6.drew w') => HSS.out w' (kd.nix.trans k))
  have R5 := Lib.hid (R5.out.keep kd id)
  have RZ := Lib.hid (RZ.out.keep kd id)
  have HY := Lib.hid (rGCatalog_lawful.nix HY.out kd)
  have K6 := Lib.hid (K6.out.trans kd.nix)
  have S7 := Lib.hid (Nat.le_trans S7.out kd.size)
  have HB := Lib.hid (B.keep kd og (fun _ _ h => h))
  clear kd B H6 lt
  generalize w6.drew = w7 at *
  have rowG := HB.out.row
  have hvb5 : Hid (∀ b, OwnB (.slice aC R.cats.length cC) b → b ≠ b5) := fun b hb e => by have := H0.out b (hoC.out b hb).1; have := hb5.out; omega
  have hgl := H0.out g og
  refine tk 0 (v := ?_) rfl ?_ hHeld ?_
  rotate_left
  ·intro w' hSw
   (try dsimp only at hSw)
   try simp only [zz1, zz2, zz3]
   go_simp
   try with_reducible rfl
  try simp only [Act.put, zz1, zz2, zz3, zz4, zz5, zz6]
  refine tk 1 (v := ?_) rfl ?_ hHeld ?_
  rotate_left
  ·intro w' hSw
   (try dsimp only at hSw)
   try simp only [zz1, zz2, zz3]
   go_simp
   try with_reducible rfl
  try simp only [Act.put, zz1, zz2, zz3, zz4, zz5, zz6]
  refine tk 2 (v := ?_) rfl ?_ hHeld ?_
  rotate_left
  ·intro w' hSw
   (try dsimp only at hSw)
   try simp only [zz1, zz2, zz3]
   go_simp
   try with_reducible rfl
  try simp only [Act.put, zz1, zz2, zz3, zz4, zz5, zz6]
  refine tk 3 (v := ?_) rfl ?_ hHeld ?_
  rotate_left
  ·intro w' hSw
   (try dsimp only at hSw)
   try simp only [zz1, zz2, zz3]
   go_simp
   try with_reducible rfl
  try simp only [Act.put, zz1, zz2, zz3, zz4, zz5, zz6]
  refine tk 5 (v := ?_) rfl ?_ hHeld ?_
  rotate_left
  ·intro w' hSw
   (try dsimp only at hSw)
   try simp only [zz1, zz2, zz3]
   go_simp
   try with_reducible rfl
  try simp only [Act.put, zz1, zz2, zz3, zz4, zz5, zz6]
  refine wpAnyH_ready (rs := [4, 6]) (by kernel_rfl) (by simp) ?_
  refine AllReadyH.cons rfl (fun K hK => ?_) (AllReadyH.cons rfl (fun K hK => ?_) AllReadyH.nil)
  ·have x1 := rowG.cell 1
   (try simp only [List.getElem?_cons_succ] at x1); (try simp only [List.getElem?_cons_zero] at x1)
   go_simp
   clear x1
   refine hK.out _ _ (hHeld) (fun hHeld => ?_)
   clear hK K
   try simp only [Act.put, zz1, zz2, zz3, zz4, zz5, zz6]
   refine wpAnyH_ready (rs := [6]) (by kernel_rfl) (by simp) ?_
   refine AllReadyH.cons rfl (fun K hK => ?_) AllReadyH.nil
   have hls := list_run (P := Tryz.prog) T_lCatalog (by decide) cy HCY.out w7
   try simp only [zz1, zz2, zz3]
   go_simp
   clear hls
   have kA : Keep Nix w7 (w7.alloc (.cells cy.toArray 50)) := (Keep.refl Nix _).alloc _
   replace rowG := rowG.keep kA id
   refine hK.out _ _ ((HSS.out _ kA.nix)) (fun hHeld => ?_)
   clear hK K
   try simp only [Act.put, zz1, zz2, zz3, zz4, zz5, zz6]
   refine wpAnyH_ready (rs := [7]) (by kernel_rfl) (by simp) ?_
   refine AllReadyH.cons rfl (fun K hK => ?_) AllReadyH.nil
   refine stepL_append1 (w := w7) (cs := cy) T_lCatalog (by rfl) (.tmp 65) (.tmp 67) (by rfl) 0 (by rfl) (by rfl) HB.out.rowC HCY.out HC1.out (by unfold maxLen; omega) (by omega) (by omega) ?_
   intro aN cN w8 own8 k8 hfresh
   replace rowG := HB.out.row.keep k8 (fun h => (hoC.out g h).2.1 rfl)
   have HO8 := Lib.hid own8
   have HF8 := Lib.hid hfresh
   have K8 := Lib.hid k8
   refine hK.out _ _ ((HSS.out _ (k8.mono hvb5.out))) (fun hHeld => ?_)
   clear hK K
   try simp only [Act.put, zz1, zz2, zz3, zz4, zz5, zz6]
   clear own8 hfresh k8
   refine tk 8 (v := ?_) rfl ?_ hHeld ?_
   rotate_left
   ·intro w' hSw
    (try dsimp only at hSw)
    try simp only [zz1, zz2, zz3]
    go_simp
    try with_reducible rfl
   try simp only [Act.put, zz1, zz2, zz3, zz4, zz5, zz6]
   refine tk 9 (v := ?_) rfl ?_ hHeld ?_
   rotate_left
   ·intro w' hSw
    (try dsimp only at hSw)
    try simp only [zz1, zz2, zz3]
    go_simp
    try with_reducible rfl
   try simp only [Act.put, zz1, zz2, zz3, zz4, zz5, zz6]
   refine wpAnyH_ready (rs := [10]) (by kernel_rfl) (by simp) ?_
   refine AllReadyH.cons rfl (fun K hK => ?_) AllReadyH.nil
   have x1 := rowG.cell 1
   (try simp only [List.getElem?_cons_succ] at x1); (try simp only [List.getElem?_cons_zero] at x1)
   have f1 := rowG.frozen 1
   go_simp
   clear x1 f1
   have kG : Keep (· = g) w8 (w8.setCell ⟨g, 1, none⟩ (.slice aN (R.cats.length + 1) cN)) := (Keep.refl (· = g) w8).setCell (p := ⟨g, 1, none⟩) (fun _ => rfl) _
   have row9 := rowG.set 1 (.slice aN (R.cats.length + 1) cN)
   (try simp only [List.set_cons_succ] at row9); (try simp only [List.set_cons_zero] at row9)
   have KG := Lib.hid kG
   have ROW9 := Lib.hid row9
   refine hK.out _ _ ((HSS.out _ ((K8.out.mono hvb5.out).trans (kG.mono (fun b hb e => hbg5.out (e.symm.trans hb)))))) (fun hHeld => ?_)
   clear hK K
   try simp only [Act.put, zz1, zz2, zz3, zz4, zz5, zz6]
   clear rowG row9 kG
   refine wpAnyH_done (by kernel_rfl) ?_ _
   clear hHeld
   generalize w8.setCell ⟨g, 1, none⟩ (.slice aN (R.cats.length + 1) cN) = w9 at *
   have hvlt : Hid (∀ b, OwnB (.slice aN (R.cats.length + 1) cN) b → b ≠ g ∧ b ≠ b5 ∧ b ≠ w.heap.size + 1 ∧ (OwnB (.slice aC R.cats.length cC) b ∨ w7.heap.size ≤ b)) := fun b hb => by
    have h1 := hb5.out
    have h2 := S6.out
    have h3 := S7.out
    rcases HF8.out b hb with h | h
    ·have h5 := hoC.out b h
     have h6 := H0.out b h5.1
     exact ⟨h5.2.1, by omega, by omega, .inl h⟩
    ·exact ⟨by omega, by omega, by omega, .inr h⟩
   have hoClt : Hid (∀ b, OwnB (.slice aC R.cats.length cC) b → b < w.heap.size) := fun b hb => H0.out b (hoC.out b hb).1
   have R59 := (R5.out.keep K8.out (fun h => by have := hoClt.out _ h; have := hb5.out; omega)).keep KG.out hbg5.out
   have RZ9 := (RZ.out.keep K8.out (fun h => by have := hoClt.out _ h; omega)).keep KG.out (fun e => by omega)
   have x5 : w9.cell? ⟨b5, 0, none⟩ = some (.int .i64 y.1.fVersion) := by
    obtain ⟨_, _, _, _, hcq, -⟩ := rGCatalog_open HY.out
    have := R59.cell 0
    rw [hcq] at this
    exact this
   have hst := store_run (P := Tryz.prog) (cs := repV 0 0 y.1.fVersion) S_Reply RZ9 rfl rfl rfl
   unfold repV at hst
   have kS : Keep (· = w.heap.size + 1) w9 (w9.setRow (w.heap.size + 1) (repV 0 0 y.1.fVersion).toArray) := (Keep.refl (· = w.heap.size + 1) w9).setRow (fun _ => rfl) _
   have HZR := Lib.hid (RZ9.setRow (repV 0 0 y.1.fVersion))
   have KS := Lib.hid kS
   clear kS RZ9 R59
   go_wp2_with fail
   refine bodyPost_ret (results_cell_row (by rfl) _ _ _ _ _ _ _ (by rfl) HZR.out Tryz.underlying55 (by rfl) hinfo) rfl ?_
   have h1 := hb5.out
   have h2 := S6.out
   have h3 := S7.out
   have h8 := K8.out.size
   have h9 := KG.out.size
   have h10 := KS.out.size
   have own9 := owned_keep (owned_keep HO8.out KG.out (fun b hb => (hvlt.out b hb).1)) KS.out (fun b hb => (hvlt.out b hb).2.2.1)
   have hcyF := rGCatalog_lawful.keep (rGCatalog_lawful.keep (rGCatalog_lawful.keep HY.out K8.out (fun b hb h => by have := hoClt.out _ h; have := (HNI.out b hb).1; omega)) KG.out (fun b hb e => by have := (HNI.out b hb).1; omega)) KS.out (fun b hb e => by have := (HNI.out b hb).1; omega)
   have kAll : Keep (fun b => b = g ∨ OwnB (.slice aC R.cats.length cC) b ∨ ¬ O b) w7 (w9.setRow (w.heap.size + 1) (repV 0 0 y.1.fVersion).toArray) := ((K8.out.mono (fun b hb => .inr (.inl hb))).trans (KG.out.mono (fun b hb => .inl hb))).trans (KS.out.mono (fun b hb => .inr (.inr (fun ho => by have := H0.out b ho; omega))))
   have B2 := RootAt.turnC (O' := fun b => O b ∨ (w4.heap.size ≤ b ∧ b < (w9.setRow (w.heap.size + 1) (repV 0 0 y.1.fVersion).toArray).heap.size)) (Pn := NewIn w4 w5) HB.out og (fun b h => .inl h) kAll (ROW9.out.keep KS.out (fun e => by omega)) own9 (fun b hb => by
    rcases (hvlt.out b hb).2.2.2 with h | h
    ·exact .inl h
    ·have := (own9.lt b hb).2
     exact .inr ⟨fun ho => by have := H0.out b ho; omega, .inr ⟨by omega, by omega⟩⟩) hcyF (fun b hb => by
    have h := HNI.out b hb
    refine ⟨fun ho => by have := H0.out b ho; omega, .inr ⟨h.1, by omega⟩, fun hx => ?_⟩
    rcases (hvlt.out b hx).2.2.2 with h5 | h5
    ·have := hoClt.out b h5; omega
    ·omega)
   rw [hY.out, hR.out]
   refine ⟨repV 0 0 y.1.fVersion, fun b => O b ∨ (w4.heap.size ≤ b ∧ b < (w9.setRow (w.heap.size + 1) (repV 0 0 y.1.fVersion).toArray).heap.size), fun _ => False, rfl, repV_R _ _ i0 u0 hyv2, fun b h => h.elim, (show IsRoot _ _ g n (addC R y.1) from ⟨fun b hb => ?_, .inl og, okC ok hbig hsm HYV.out hlast.out, bM, aN, cN, aO, cO, aS, cS, aU, cU, _, D, B2⟩).more (Nat.le_succ n), fun b h => ?_, fun b h => .inl h, ?_⟩
   ·rcases hb with hb | hb
    ·have := H0.out b hb; omega
    ·omega
   ·rcases h with h | h
    ·exact .inl h
    ·exact .inr (by omega)
   ·exact (((K6.out.mono' (fun i hi e => by omega)).then K8.out (fun i hi h => (hoC.out i h).1)).then KG.out (fun i hi e => by rw [e]; exact og)).then KS.out (fun i hi e => by omega)
  ·have hls := list_run (P := Tryz.prog) T_lCatalog (by decide) cy HCY.out w7
   try simp only [zz1, zz2, zz3]
   go_simp
   clear hls
   have kA : Keep Nix w7 (w7.alloc (.cells cy.toArray 50)) := (Keep.refl Nix _).alloc _
   replace rowG := rowG.keep kA id
   refine hK.out _ _ ((HSS.out _ kA.nix)) (fun hHeld => ?_)
   clear hK K
   try simp only [Act.put, zz1, zz2, zz3, zz4, zz5, zz6]
   refine wpAnyH_ready (rs := [4]) (by kernel_rfl) (by simp) ?_
   refine AllReadyH.cons rfl (fun K hK => ?_) AllReadyH.nil
   have x1 := rowG.cell 1
   (try simp only [List.getElem?_cons_succ] at x1); (try simp only [List.getElem?_cons_zero] at x1)
   go_simp
   clear x1
   refine hK.out _ _ (hHeld) (fun hHeld => ?_)
   clear hK K
   try simp only [Act.put, zz1, zz2, zz3, zz4, zz5, zz6]
   refine wpAnyH_ready (rs := [7]) (by kernel_rfl) (by simp) ?_
   refine AllReadyH.cons rfl (fun K hK => ?_) AllReadyH.nil
   refine stepL_append1 (w := w7) (cs := cy) T_lCatalog (by rfl) (.tmp 65) (.tmp 67) (by rfl) 0 (by rfl) (by rfl) HB.out.rowC HCY.out HC1.out (by unfold maxLen; omega) (by omega) (by omega) ?_
   intro aN cN w8 own8 k8 hfresh
   replace rowG := HB.out.row.keep k8 (fun h => (hoC.out g h).2.1 rfl)
   have HO8 := Lib.hid own8
   have HF8 := Lib.hid hfresh
   have K8 := Lib.hid k8
   refine hK.out _ _ ((HSS.out _ (k8.mono hvb5.out))) (fun hHeld => ?_)
   clear hK K
   try simp only [Act.put, zz1, zz2, zz3, zz4, zz5, zz6]
   clear own8 hfresh k8
   refine tk 8 (v := ?_) rfl ?_ hHeld ?_
   rotate_left
   ·intro w' hSw
    (try dsimp only at hSw)
    try simp only [zz1, zz2, zz3]
    go_simp
    try with_reducible rfl
   try simp only [Act.put, zz1, zz2, zz3, zz4, zz5, zz6]
   refine tk 9 (v := ?_) rfl ?_ hHeld ?_
   rotate_left
   ·intro w' hSw
    (try dsimp only at hSw)
    try simp only [zz1, zz2, zz3]
    go_simp
    try with_reducible rfl
   try simp only [Act.put, zz1, zz2, zz3, zz4, zz5, zz6]
   refine wpAnyH_ready (rs := [10]) (by kernel_rfl) (by simp) ?_
   refine AllReadyH.cons rfl (fun K hK => ?_) AllReadyH.nil
   have x1 := rowG.cell 1
   (try simp only [List.getElem?_cons_succ] at x1); (try simp only [List.getElem?_cons_zero] at x1)
   have f1 := rowG.frozen 1
   go_simp
   clear x1 f1
   have kG : Keep (· = g) w8 (w8.setCell ⟨g, 1, none⟩ (.slice aN (R.cats.length + 1) cN)) := (Keep.refl (· = g) w8).setCell (p := ⟨g, 1, none⟩) (fun _ => rfl) _
   have row9 := rowG.set 1 (.slice aN (R.cats.length + 1) cN)
   (try simp only [List.set_cons_succ] at row9); (try simp only [List.set_cons_zero] at row9)
   have KG := Lib.hid kG
   have ROW9 := Lib.hid row9
   refine hK.out _ _ ((HSS.out _ ((K8.out.mono hvb5.out).trans (kG.mono (fun b hb e => hbg5.out (e.symm.trans hb)))))) (fun hHeld => ?_)
   clear hK K
   try simp only [Act.put, zz1, zz2, zz3, zz4, zz5, zz6]
   clear rowG row9 kG
   refine wpAnyH_done (by kernel_rfl) ?_ _
   clear hHeld
   generalize w8.setCell ⟨g, 1, none⟩ (.slice aN (R.cats.length + 1) cN) = w9 at *
   have hvlt : Hid (∀ b, OwnB (.slice aN (R.cats.length + 1) cN) b → b ≠ g ∧ b ≠ b5 ∧ b ≠ w.heap.size + 1 ∧ (OwnB (.slice aC R.cats.length cC) b ∨ w7.heap.size ≤ b)) := fun b hb => by
    have h1 := hb5.out
    have h2 := S6.out
    have h3 := S7.out
    rcases HF8.out b hb with h | h
    ·have h5 := hoC.out b h
     have h6 := H0.out b h5.1
     exact ⟨h5.2.1, by omega, by omega, .inl h⟩
    ·exact ⟨by omega, by omega, by omega, .inr h⟩
   have hoClt : Hid (∀ b, OwnB (.slice aC R.cats.length cC) b → b < w.heap.size) := fun b hb => H0.out b (hoC.out b hb).1
   have R59 := (R5.out.keep K8.out (fun h => by have := hoClt.out _ h; have := hb5.out; omega)).keep KG.out hbg5.out
   have RZ9 := (RZ.out.keep K8.out (fun h => by have := hoClt.out _ h; omega)).keep KG.out (fun e => by omega)
   have x5 : w9.cell? ⟨b5, 0, none⟩ = some (.int .i64 y.1.fVersion) := by
    obtain ⟨_, _, _, _, hcq, -⟩ := rGCatalog_open HY.out
    have := R59.cell 0
    rw [hcq] at this
    exact this
   have hst := store_run (P := Tryz.prog) (cs := repV 0 0 y.1.fVersion) S_Reply RZ9 rfl rfl rfl
   unfold repV at hst
   have kS : Keep (· = w.heap.size + 1) w9 (w9.setRow (w.heap.size + 1) (repV 0 0 y.1.fVersion).toArray) := (Keep.refl (· = w.heap.size + 1) w9).setRow (fun _ => rfl) _
   have HZR := Lib.hid (RZ9.setRow (repV 0 0 y.1.fVersion))
   have KS := Lib.hid kS
   clear kS RZ9 R59
   go_wp2_with fail
   refine bodyPost_ret (results_cell_row (by rfl) _ _ _ _ _ _ _ (by rfl) HZR.out Tryz.underlying55 (by rfl) hinfo) rfl ?_
   have h1 := hb5.out
   have h2 := S6.out
   have h3 := S7.out
   have h8 := K8.out.size
   have h9 := KG.out.size
   have h10 := KS.out.size
   have own9 := owned_keep (owned_keep HO8.out KG.out (fun b hb => (hvlt.out b hb).1)) KS.out (fun b hb => (hvlt.out b hb).2.2.1)
   have hcyF := rGCatalog_lawful.keep (rGCatalog_lawful.keep (rGCatalog_lawful.keep HY.out K8.out (fun b hb h => by have := hoClt.out _ h; have := (HNI.out b hb).1; omega)) KG.out (fun b hb e => by have := (HNI.out b hb).1; omega)) KS.out (fun b hb e => by have := (HNI.out b hb).1; omega)
   have kAll : Keep (fun b => b = g ∨ OwnB (.slice aC R.cats.length cC) b ∨ ¬ O b) w7 (w9.setRow (w.heap.size + 1) (repV 0 0 y.1.fVersion).toArray) := ((K8.out.mono (fun b hb => .inr (.inl hb))).trans (KG.out.mono (fun b hb => .inl hb))).trans (KS.out.mono (fun b hb => .inr (.inr (fun ho => by have := H0.out b ho; omega))))
   have B2 := RootAt.turnC (O' := fun b => O b ∨ (w4.heap.size ≤ b ∧ b < (w9.setRow (w.heap.size + 1) (repV 0 0 y.1.fVersion).toArray).heap.size)) (Pn := NewIn w4 w5) HB.out og (fun b h => .inl h) kAll (ROW9.out.keep KS.out (fun e => by omega)) own9 (fun b hb => by
    rcases (hvlt.out b hb).2.2.2 with h | h
    ·exact .inl h
    ·have := (own9.lt b hb).2
     exact .inr ⟨fun ho => by have := H0.out b ho; omega, .inr ⟨by omega, by omega⟩⟩) hcyF (fun b hb => by
    have h := HNI.out b hb
    refine ⟨fun ho => by have := H0.out b ho; omega, .inr ⟨h.1, by omega⟩, fun hx => ?_⟩
    rcases (hvlt.out b hx).2.2.2 with h5 | h5
    ·have := hoClt.out b h5; omega
    ·omega)
   rw [hY.out, hR.out]
   refine ⟨repV 0 0 y.1.fVersion, fun b => O b ∨ (w4.heap.size ≤ b ∧ b < (w9.setRow (w.heap.size + 1) (repV 0 0 y.1.fVersion).toArray).heap.size), fun _ => False, rfl, repV_R _ _ i0 u0 hyv2, fun b h => h.elim, (show IsRoot _ _ g n (addC R y.1) from ⟨fun b hb => ?_, .inl og, okC ok hbig hsm HYV.out hlast.out, bM, aN, cN, aO, cO, aS, cS, aU, cU, _, D, B2⟩).more (Nat.le_succ n), fun b h => ?_, fun b h => .inl h, ?_⟩
   ·rcases hb with hb | hb
    ·have := H0.out b hb; omega
    ·omega
   ·rcases h with h | h
    ·exact .inl h
    ·exact .inr (by omega)
   ·exact (((K6.out.mono' (fun i hi e => by omega)).then K8.out (fun i hi h => (hoC.out i h).1)).then KG.out (fun i hi e => by rw [e]; exact og)).then KS.out (fun i hi e => by omega)
 ·have hR : Hid (changeP R 0 y = (repG y.2 0 0, R)) := if_neg hz
  have hz2 : (y.2 == 0) = false := by simp [hz]
  have hst := store_run (P := Tryz.prog) (cs := repV y.2 0 0) S_Reply RZ.out rfl rfl rfl
  unfold repV at hst
  have kS : Keep (· = w.heap.size + 1) (w5.setRow b5 cy.toArray) ((w5.setRow b5 cy.toArray).setRow (w.heap.size + 1) (repV y.2 0 0).toArray) := (Keep.refl (· = w.heap.size + 1) (w5.setRow b5 cy.toArray)).setRow (fun _ => rfl) _
  have HZR := Lib.hid (RZ.out.setRow (repV y.2 0 0))
  have KS := Lib.hid kS
  clear kS
  go_wp2_with fail
  refine bodyPost_ret (results_cell_row (by rfl) _ _ _ _ _ _ _ (by rfl) HZR.out Tryz.underlying55 (by rfl) hinfo) rfl ?_
  rw [hY.out, hR.out]
  exact ⟨repV y.2 0 0, O, fun _ => False, rfl, repV_R _ _ hye.out u0 i0, fun b h => h.elim, (H6.out.keep KS.out (fun b hb e => by have := H0.out b hb; omega)).more (Nat.le_succ n), fun b h => .inl h, fun b h => h, (K6.out.mono' (fun i hi e => by have := hb5.out; omega)).then KS.out (fun i hi e => by omega)⟩
end
end Go.Proofs.YtibaehlfpgipfaaGreat
namespace Go.Proofs.YtibaehlfpgipfaaGreat
open Go.RowKit
section
attribute [local go_sem ↓] stz_Reply ldz_Command
set_option maxRecDepth 100000 in
set_option maxHeartbeats 4000000 in
theorem run_change (O : Nat → Prop) (g n : Nat) (R : RootS) (ccs : List Value) (k : Int) (Y : GReply × RootS) (w : World) (H : IsRoot w O g n R) (hk : ccs[0]? = some (.int .i64 k)) (hk4 : k = 14 ∨ k = 15 ∨ k = 16 ∨ k = 17) (hcl : ccs.length = 25)
  (hch : ∀ w', Keep Nix w w' → Calls Tryz.prog 25 #[.pointer (some ⟨g, 0, none⟩), .agg ccs.toArray] w' (RunPost w' O g n Y)) :
  Calls Tryz.prog 9 #[.pointer (some ⟨g, 0, none⟩), .agg ccs.toArray] w (RunPost w O g n Y) := by
 have hinfo : (Tryz.prog.info? 55).map (·.size) = some 15 := by kernel_rfl
 have H0 := Lib.hid H.lt
 have kB : Keep Nix w (((w.alloc (.cells ccs.toArray 43))).alloc (.cells #[.int .i64 0, .int .u64 0, .int .i64 0, .bool false, .slice none 0 0, .slice none 0 0, .int .i64 0, .int .i64 0, .slice none 0 0, .slice none 0 0, .int .i64 0, .int .i64 0, .slice none 0 0, .int .i64 0, .slice none 0 0] 55)) := ((Keep.refl Nix w).alloc _).alloc _
 have row0 : RowIs (((w.alloc (.cells ccs.toArray 43))).alloc (.cells #[.int .i64 0, .int .u64 0, .int .i64 0, .bool false, .slice none 0 0, .slice none 0 0, .int .i64 0, .int .i64 0, .slice none 0 0, .slice none 0 0, .int .i64 0, .int .i64 0, .slice none 0 0, .int .i64 0, .slice none 0 0] 55)) w.heap.size 43 ccs := by have := (RowIs.alloc w ccs.toArray 43).keep ((Keep.refl Nix _).alloc (.cells #[.int .i64 0, .int .u64 0, .int .i64 0, .bool false, .slice none 0 0, .slice none 0 0, .int .i64 0, .int .i64 0, .slice none 0 0, .slice none 0 0, .int .i64 0, .int .i64 0, .slice none 0 0, .int .i64 0, .slice none 0 0] 55)) id; simpa using this
 have rowZ : RowIs (((w.alloc (.cells ccs.toArray 43))).alloc (.cells #[.int .i64 0, .int .u64 0, .int .i64 0, .bool false, .slice none 0 0, .slice none 0 0, .int .i64 0, .int .i64 0, .slice none 0 0, .slice none 0 0, .int .i64 0, .int .i64 0, .slice none 0 0, .int .i64 0, .slice none 0 0] 55)) (w.heap.size + 1) 55 [.int .i64 0, .int .u64 0, .int .i64 0, .bool false, .slice none 0 0, .slice none 0 0, .int .i64 0, .int .i64 0, .slice none 0 0, .slice none 0 0, .int .i64 0, .int .i64 0, .slice none 0 0, .int .i64 0, .slice none 0 0] := RowIs.alloc_at (w.alloc (.cells ccs.toArray 43)) _ (by simp) _ _
 have HZ := Lib.hid rowZ
 have hlt3 : Hid (w.heap.size + 1 < ((((w.alloc (.cells ccs.toArray 43))).alloc (.cells #[.int .i64 0, .int .u64 0, .int .i64 0, .bool false, .slice none 0 0, .slice none 0 0, .int .i64 0, .int .i64 0, .slice none 0 0, .slice none 0 0, .int .i64 0, .int .i64 0, .slice none 0 0, .int .i64 0, .slice none 0 0] 55))).heap.size) := by show _ < _; simp
 have K3 := Lib.hid kB
 have HC := Lib.hid (hch (((w.alloc (.cells ccs.toArray 43))).alloc (.cells #[.int .i64 0, .int .u64 0, .int .i64 0, .bool false, .slice none 0 0, .slice none 0 0, .int .i64 0, .int .i64 0, .slice none 0 0, .slice none 0 0, .int .i64 0, .int .i64 0, .slice none 0 0, .int .i64 0, .slice none 0 0] 55)) kB)
 clear hch H
 rcases hk4 with rfl | rfl | rfl | rfl
 ·have x0 := (row0.cell 0).trans hk
  have ld0 := Whole.run (P := Tryz.prog) S_Command hcl row0
  clear row0 hk rowZ kB
  go_enter Tryz.func9, Tryz.ntmps9
  go_wp2_with fail
  clear x0 ld0
  go_fit HC.out
  rintro e w4 ⟨cs, O', R', rfl, hr, hR, H4, h5, h6, k4⟩
  have rowZ4 := HZ.out.keep k4 (fun h => by have := H0.out _ h; omega)
  have hst := store_run (P := Tryz.prog) (cs := cs) S_Reply rowZ4 rfl (rGReply_lawful.len hr) (rGReply_ones hr)
  have HZR := Lib.hid (rowZ4.setRow cs)
  have HR := Lib.hid hr
  have HRR := Lib.hid hR
  have H4' := Lib.hid H4
  have H5 := Lib.hid h5
  have H6 := Lib.hid h6
  have K4 := Lib.hid k4
  clear hr hR H4 h5 h6 k4 rowZ4 HC
  go_wp2_with fail
  refine bodyPost_ret (results_cell_row (by rfl) _ _ _ _ _ _ _ (by rfl) HZR.out Tryz.underlying55 (by rfl) (hinfo.trans (by rw [List.size_toArray, rGReply_lawful.len HR.out]))) rfl ?_
  exact RunPost.stored K3.out H0.out (by omega) hlt3.out HR.out HRR.out H4'.out H5.out H6.out K4.out
 ·have x0 := (row0.cell 0).trans hk
  have ld0 := Whole.run (P := Tryz.prog) S_Command hcl row0
  clear row0 hk rowZ kB
  go_enter Tryz.func9, Tryz.ntmps9
  go_wp2_with fail
  clear x0 ld0
  go_fit HC.out
  rintro e w4 ⟨cs, O', R', rfl, hr, hR, H4, h5, h6, k4⟩
  have rowZ4 := HZ.out.keep k4 (fun h => by have := H0.out _ h; omega)
  have hst := store_run (P := Tryz.prog) (cs := cs) S_Reply rowZ4 rfl (rGReply_lawful.len hr) (rGReply_ones hr)
  have HZR := Lib.hid (rowZ4.setRow cs)
  have HR := Lib.hid hr
  have HRR := Lib.hid hR
  have H4' := Lib.hid H4
  have H5 := Lib.hid h5
  have H6 := Lib.hid h6
  have K4 := Lib.hid k4
  clear hr hR H4 h5 h6 k4 rowZ4 HC
  go_wp2_with fail
  refine bodyPost_ret (results_cell_row (by rfl) _ _ _ _ _ _ _ (by rfl) HZR.out Tryz.underlying55 (by rfl) (hinfo.trans (by rw [List.size_toArray, rGReply_lawful.len HR.out]))) rfl ?_
  exact RunPost.stored K3.out H0.out (by omega) hlt3.out HR.out HRR.out H4'.out H5.out H6.out K4.out
 ·have x0 := (row0.cell 0).trans hk
  have ld0 := Whole.run (P := Tryz.prog) S_Command hcl row0
  clear row0 hk rowZ kB
  go_enter Tryz.func9, Tryz.ntmps9
  go_wp2_with fail
  clear x0 ld0
  go_fit HC.out
  rintro e w4 ⟨cs, O', R', rfl, hr, hR, H4, h5, h6, k4⟩
  have rowZ4 := HZ.out.keep k4 (fun h => by have := H0.out _ h; omega)
  have hst := store_run (P := Tryz.prog) (cs := cs) S_Reply rowZ4 rfl (rGReply_lawful.len hr) (rGReply_ones hr)
  have HZR := Lib.hid (rowZ4.setRow cs)
  have HR := Lib.hid hr
  have HRR := Lib.hid hR
  have H4' := Lib.hid H4
  have H5 := Lib.hid h5
  have H6 := Lib.hid h6
  have K4 := Lib.hid k4
  clear hr hR H4 h5 h6 k4 rowZ4 HC
  go_wp2_with fail
  refine bodyPost_ret (results_cell_row (by rfl) _ _ _ _ _ _ _ (by rfl) HZR.out Tryz.underlying55 (by rfl) (hinfo.trans (by rw [List.size_toArray, rGReply_lawful.len HR.out]))) rfl ?_
  exact RunPost.stored K3.out H0.out (by omega) hlt3.out HR.out HRR.out H4'.out H5.out H6.out K4.out
 ·have x0 := (row0.cell 0).trans hk
  have ld0 := Whole.run (P := Tryz.prog) S_Command hcl row0
  clear row0 hk rowZ kB
  go_enter Tryz.func9, Tryz.ntmps9
  go_wp2_with fail
  clear x0 ld0
  go_fit HC.out
  rintro e w4 ⟨cs, O', R', rfl, hr, hR, H4, h5, h6, k4⟩
  have rowZ4 := HZ.out.keep k4 (fun h => by have := H0.out _ h; omega)
  have hst := store_run (P := Tryz.prog) (cs := cs) S_Reply rowZ4 rfl (rGReply_lawful.len hr) (rGReply_ones hr)
  have HZR := Lib.hid (rowZ4.setRow cs)
  have HR := Lib.hid hr
  have HRR := Lib.hid hR
  have H4' := Lib.hid H4
  have H5 := Lib.hid h5
  have H6 := Lib.hid h6
  have K4 := Lib.hid k4
  clear hr hR H4 h5 h6 k4 rowZ4 HC
  go_wp2_with fail
  refine bodyPost_ret (results_cell_row (by rfl) _ _ _ _ _ _ _ (by rfl) HZR.out Tryz.underlying55 (by rfl) (hinfo.trans (by rw [List.size_toArray, rGReply_lawful.len HR.out]))) rfl ?_
  exact RunPost.stored K3.out H0.out (by omega) hlt3.out HR.out HRR.out H4'.out H5.out H6.out K4.out
set_option maxRecDepth 100000 in
set_option maxHeartbeats 4000000 in
theorem run_move (O : Nat → Prop) (g n : Nat) (R : RootS) (ccs : List Value) (k : Int) (Y : GReply × RootS) (w : World) (H : IsRoot w O g n R) (hk : ccs[0]? = some (.int .i64 k)) (hk4 : k = 18 ∨ k = 19) (hcl : ccs.length = 25)
  (hch : ∀ w', Keep Nix w w' → Calls Tryz.prog 26 #[.pointer (some ⟨g, 0, none⟩), .agg ccs.toArray] w' (RunPost w' O g n Y)) :
  Calls Tryz.prog 9 #[.pointer (some ⟨g, 0, none⟩), .agg ccs.toArray] w (RunPost w O g n Y) := by
 have hinfo : (Tryz.prog.info? 55).map (·.size) = some 15 := by kernel_rfl
 have H0 := Lib.hid H.lt
 have kB : Keep Nix w (((w.alloc (.cells ccs.toArray 43))).alloc (.cells #[.int .i64 0, .int .u64 0, .int .i64 0, .bool false, .slice none 0 0, .slice none 0 0, .int .i64 0, .int .i64 0, .slice none 0 0, .slice none 0 0, .int .i64 0, .int .i64 0, .slice none 0 0, .int .i64 0, .slice none 0 0] 55)) := ((Keep.refl Nix w).alloc _).alloc _
 have row0 : RowIs (((w.alloc (.cells ccs.toArray 43))).alloc (.cells #[.int .i64 0, .int .u64 0, .int .i64 0, .bool false, .slice none 0 0, .slice none 0 0, .int .i64 0, .int .i64 0, .slice none 0 0, .slice none 0 0, .int .i64 0, .int .i64 0, .slice none 0 0, .int .i64 0, .slice none 0 0] 55)) w.heap.size 43 ccs := by have := (RowIs.alloc w ccs.toArray 43).keep ((Keep.refl Nix _).alloc (.cells #[.int .i64 0, .int .u64 0, .int .i64 0, .bool false, .slice none 0 0, .slice none 0 0, .int .i64 0, .int .i64 0, .slice none 0 0, .slice none 0 0, .int .i64 0, .int .i64 0, .slice none 0 0, .int .i64 0, .slice none 0 0] 55)) id; simpa using this
 have rowZ : RowIs (((w.alloc (.cells ccs.toArray 43))).alloc (.cells #[.int .i64 0, .int .u64 0, .int .i64 0, .bool false, .slice none 0 0, .slice none 0 0, .int .i64 0, .int .i64 0, .slice none 0 0, .slice none 0 0, .int .i64 0, .int .i64 0, .slice none 0 0, .int .i64 0, .slice none 0 0] 55)) (w.heap.size + 1) 55 [.int .i64 0, .int .u64 0, .int .i64 0, .bool false, .slice none 0 0, .slice none 0 0, .int .i64 0, .int .i64 0, .slice none 0 0, .slice none 0 0, .int .i64 0, .int .i64 0, .slice none 0 0, .int .i64 0, .slice none 0 0] := RowIs.alloc_at (w.alloc (.cells ccs.toArray 43)) _ (by simp) _ _
 have HZ := Lib.hid rowZ
 have hlt3 : Hid (w.heap.size + 1 < ((((w.alloc (.cells ccs.toArray 43))).alloc (.cells #[.int .i64 0, .int .u64 0, .int .i64 0, .bool false, .slice none 0 0, .slice none 0 0, .int .i64 0, .int .i64 0, .slice none 0 0, .slice none 0 0, .int .i64 0, .int .i64 0, .slice none 0 0, .int .i64 0, .slice none 0 0] 55))).heap.size) := by show _ < _; simp
 have K3 := Lib.hid kB
 have HC := Lib.hid (hch (((w.alloc (.cells ccs.toArray 43))).alloc (.cells #[.int .i64 0, .int .u64 0, .int .i64 0, .bool false, .slice none 0 0, .slice none 0 0, .int .i64 0, .int .i64 0, .slice none 0 0, .slice none 0 0, .int .i64 0, .int .i64 0, .slice none 0 0, .int .i64 0, .slice none 0 0] 55)) kB)
 clear hch H
 rcases hk4 with rfl | rfl
 ·have x0 := (row0.cell 0).trans hk
  have ld0 := Whole.run (P := Tryz.prog) S_Command hcl row0
  clear row0 hk rowZ kB
  go_enter Tryz.func9, Tryz.ntmps9
  go_wp2_with fail
  clear x0 ld0
  go_fit HC.out
  rintro e w4 ⟨cs, O', R', rfl, hr, hR, H4, h5, h6, k4⟩
  have rowZ4 := HZ.out.keep k4 (fun h => by have := H0.out _ h; omega)
  have hst := store_run (P := Tryz.prog) (cs := cs) S_Reply rowZ4 rfl (rGReply_lawful.len hr) (rGReply_ones hr)
  have HZR := Lib.hid (rowZ4.setRow cs)
  have HR := Lib.hid hr
  have HRR := Lib.hid hR
  have H4' := Lib.hid H4
  have H5 := Lib.hid h5
  have H6 := Lib.hid h6
  have K4 := Lib.hid k4
  clear hr hR H4 h5 h6 k4 rowZ4 HC
  go_wp2_with fail
  refine bodyPost_ret (results_cell_row (by rfl) _ _ _ _ _ _ _ (by rfl) HZR.out Tryz.underlying55 (by rfl) (hinfo.trans (by rw [List.size_toArray, rGReply_lawful.len HR.out]))) rfl ?_
  exact RunPost.stored K3.out H0.out (by omega) hlt3.out HR.out HRR.out H4'.out H5.out H6.out K4.out
 ·have x0 := (row0.cell 0).trans hk
  have ld0 := Whole.run (P := Tryz.prog) S_Command hcl row0
  clear row0 hk rowZ kB
  go_enter Tryz.func9, Tryz.ntmps9
  go_wp2_with fail
  clear x0 ld0
  go_fit HC.out
  rintro e w4 ⟨cs, O', R', rfl, hr, hR, H4, h5, h6, k4⟩
  have rowZ4 := HZ.out.keep k4 (fun h => by have := H0.out _ h; omega)
  have hst := store_run (P := Tryz.prog) (cs := cs) S_Reply rowZ4 rfl (rGReply_lawful.len hr) (rGReply_ones hr)
  have HZR := Lib.hid (rowZ4.setRow cs)
  have HR := Lib.hid hr
  have HRR := Lib.hid hR
  have H4' := Lib.hid H4
  have H5 := Lib.hid h5
  have H6 := Lib.hid h6
  have K4 := Lib.hid k4
  clear hr hR H4 h5 h6 k4 rowZ4 HC
  go_wp2_with fail
  refine bodyPost_ret (results_cell_row (by rfl) _ _ _ _ _ _ _ (by rfl) HZR.out Tryz.underlying55 (by rfl) (hinfo.trans (by rw [List.size_toArray, rGReply_lawful.len HR.out]))) rfl ?_
  exact RunPost.stored K3.out H0.out (by omega) hlt3.out HR.out HRR.out H4'.out H5.out H6.out K4.out
set_option maxRecDepth 100000 in
set_option maxHeartbeats 4000000 in
theorem run_ask (O : Nat → Prop) (g n : Nat) (R : RootS) (ccs : List Value) (txn : Int) (w : World) (H : IsRoot w O g n R) (hk : ccs[0]? = some (.int .i64 13)) (hk2 : ccs[2]? = some (.int .u64 txn)) (hn : n < 1000000) (ht : isU64 txn) (ho : R.order.length ≤ 90000) :
  Calls Tryz.prog 9 #[.pointer (some ⟨g, 0, none⟩), .agg ccs.toArray] w (RunPost w O g n (repG (decideF R txn false).1 0 (decideF R txn false).2.1, (decideF R txn false).2.2)) := by
 have hinfo : (Tryz.prog.info? 55).map (·.size) = some 15 := by kernel_rfl
 have H0 := Lib.hid H.lt
 have kB : Keep Nix w (((w.alloc (.cells ccs.toArray 43))).alloc (.cells #[.int .i64 0, .int .u64 0, .int .i64 0, .bool false, .slice none 0 0, .slice none 0 0, .int .i64 0, .int .i64 0, .slice none 0 0, .slice none 0 0, .int .i64 0, .int .i64 0, .slice none 0 0, .int .i64 0, .slice none 0 0] 55)) := ((Keep.refl Nix w).alloc _).alloc _
 have row0 : RowIs (((w.alloc (.cells ccs.toArray 43))).alloc (.cells #[.int .i64 0, .int .u64 0, .int .i64 0, .bool false, .slice none 0 0, .slice none 0 0, .int .i64 0, .int .i64 0, .slice none 0 0, .slice none 0 0, .int .i64 0, .int .i64 0, .slice none 0 0, .int .i64 0, .slice none 0 0] 55)) w.heap.size 43 ccs := by have := (RowIs.alloc w ccs.toArray 43).keep ((Keep.refl Nix _).alloc (.cells #[.int .i64 0, .int .u64 0, .int .i64 0, .bool false, .slice none 0 0, .slice none 0 0, .int .i64 0, .int .i64 0, .slice none 0 0, .slice none 0 0, .int .i64 0, .int .i64 0, .slice none 0 0, .int .i64 0, .slice none 0 0] 55)) id; simpa using this
 have rowZ : RowIs (((w.alloc (.cells ccs.toArray 43))).alloc (.cells #[.int .i64 0, .int .u64 0, .int .i64 0, .bool false, .slice none 0 0, .slice none 0 0, .int .i64 0, .int .i64 0, .slice none 0 0, .slice none 0 0, .int .i64 0, .int .i64 0, .slice none 0 0, .int .i64 0, .slice none 0 0] 55)) (w.heap.size + 1) 55 [.int .i64 0, .int .u64 0, .int .i64 0, .bool false, .slice none 0 0, .slice none 0 0, .int .i64 0, .int .i64 0, .slice none 0 0, .slice none 0 0, .int .i64 0, .int .i64 0, .slice none 0 0, .int .i64 0, .slice none 0 0] := RowIs.alloc_at (w.alloc (.cells ccs.toArray 43)) _ (by simp) _ _
 have HZ := Lib.hid rowZ
 have hlt3 : Hid (w.heap.size + 1 < ((((w.alloc (.cells ccs.toArray 43))).alloc (.cells #[.int .i64 0, .int .u64 0, .int .i64 0, .bool false, .slice none 0 0, .slice none 0 0, .int .i64 0, .int .i64 0, .slice none 0 0, .slice none 0 0, .int .i64 0, .int .i64 0, .slice none 0 0, .int .i64 0, .slice none 0 0] 55))).heap.size) := by show _ < _; simp
 have K3 := Lib.hid kB
 have HC := Lib.hid (decide_c O g n R txn false (((w.alloc (.cells ccs.toArray 43))).alloc (.cells #[.int .i64 0, .int .u64 0, .int .i64 0, .bool false, .slice none 0 0, .slice none 0 0, .int .i64 0, .int .i64 0, .slice none 0 0, .slice none 0 0, .int .i64 0, .int .i64 0, .slice none 0 0, .int .i64 0, .slice none 0 0] 55)) (H.nix kB) hn ht ho)
 have x0 := (row0.cell 0).trans hk
 have x2 := (row0.cell 2).trans hk2
 generalize (repG (decideF R txn false).1 0 (decideF R txn false).2.1, (decideF R txn false).2.2) = Y at *
 clear row0 hk rowZ kB
 go_enter Tryz.func9, Tryz.ntmps9
 go_wp2_with fail
 clear x0 x2
 go_fit HC.out
 rintro e w4 ⟨cs, O', R', rfl, hr, hR, H4, h5, h6, k4⟩
 have rowZ4 := HZ.out.keep k4 (fun h => by have := H0.out _ h; omega)
 have hst := store_run (P := Tryz.prog) (cs := cs) S_Reply rowZ4 rfl (rGReply_lawful.len hr) (rGReply_ones hr)
 have HZR := Lib.hid (rowZ4.setRow cs)
 have HR := Lib.hid hr
 have HRR := Lib.hid hR
 have H4' := Lib.hid H4
 have H5 := Lib.hid h5
 have H6 := Lib.hid h6
 have K4 := Lib.hid k4
 clear hr hR H4 h5 h6 k4 rowZ4 HC
 go_wp2_with fail
 refine bodyPost_ret (results_cell_row (by rfl) _ _ _ _ _ _ _ (by rfl) HZR.out Tryz.underlying55 (by rfl) (hinfo.trans (by rw [List.size_toArray, rGReply_lawful.len HR.out]))) rfl ?_
 exact RunPost.stored K3.out H0.out (by omega) hlt3.out HR.out HRR.out H4'.out H5.out H6.out K4.out
set_option maxRecDepth 100000 in
set_option maxHeartbeats 4000000 in
theorem run_none (O : Nat → Prop) (g n : Nat) (R : RootS) (ccs : List Value) (k : Int) (w : World) (H : IsRoot w O g n R) (hk : ccs[0]? = some (.int .i64 k)) (hk4 : k < 11 ∨ 20 < k) :
  Calls Tryz.prog 9 #[.pointer (some ⟨g, 0, none⟩), .agg ccs.toArray] w (RunPost w O g n (repG 1 0 0, R)) := by
 have hinfo : (Tryz.prog.info? 55).map (·.size) = some 15 := by kernel_rfl
 have H0 := Lib.hid H.lt
 have kB : Keep Nix w (((w.alloc (.cells ccs.toArray 43))).alloc (.cells #[.int .i64 0, .int .u64 0, .int .i64 0, .bool false, .slice none 0 0, .slice none 0 0, .int .i64 0, .int .i64 0, .slice none 0 0, .slice none 0 0, .int .i64 0, .int .i64 0, .slice none 0 0, .int .i64 0, .slice none 0 0] 55)) := ((Keep.refl Nix w).alloc _).alloc _
 have row0 : RowIs (((w.alloc (.cells ccs.toArray 43))).alloc (.cells #[.int .i64 0, .int .u64 0, .int .i64 0, .bool false, .slice none 0 0, .slice none 0 0, .int .i64 0, .int .i64 0, .slice none 0 0, .slice none 0 0, .int .i64 0, .int .i64 0, .slice none 0 0, .int .i64 0, .slice none 0 0] 55)) w.heap.size 43 ccs := by have := (RowIs.alloc w ccs.toArray 43).keep ((Keep.refl Nix _).alloc (.cells #[.int .i64 0, .int .u64 0, .int .i64 0, .bool false, .slice none 0 0, .slice none 0 0, .int .i64 0, .int .i64 0, .slice none 0 0, .slice none 0 0, .int .i64 0, .int .i64 0, .slice none 0 0, .int .i64 0, .slice none 0 0] 55)) id; simpa using this
 have rowZ : RowIs (((w.alloc (.cells ccs.toArray 43))).alloc (.cells #[.int .i64 0, .int .u64 0, .int .i64 0, .bool false, .slice none 0 0, .slice none 0 0, .int .i64 0, .int .i64 0, .slice none 0 0, .slice none 0 0, .int .i64 0, .int .i64 0, .slice none 0 0, .int .i64 0, .slice none 0 0] 55)) (w.heap.size + 1) 55 [.int .i64 0, .int .u64 0, .int .i64 0, .bool false, .slice none 0 0, .slice none 0 0, .int .i64 0, .int .i64 0, .slice none 0 0, .slice none 0 0, .int .i64 0, .int .i64 0, .slice none 0 0, .int .i64 0, .slice none 0 0] := RowIs.alloc_at (w.alloc (.cells ccs.toArray 43)) _ (by simp) _ _
 have HZ := Lib.hid rowZ
 have hlt3 : Hid (w.heap.size + 1 < ((((w.alloc (.cells ccs.toArray 43))).alloc (.cells #[.int .i64 0, .int .u64 0, .int .i64 0, .bool false, .slice none 0 0, .slice none 0 0, .int .i64 0, .int .i64 0, .slice none 0 0, .slice none 0 0, .int .i64 0, .int .i64 0, .slice none 0 0, .int .i64 0, .slice none 0 0] 55))).heap.size) := by show _ < _; simp
 have K3 := Lib.hid kB
 have HX := Lib.hid (H.nix kB)
 have x0 := (row0.cell 0).trans hk
 have q1 : (k == 11) = false := by simp; omega
 have q2 : (k == 12) = false := by simp; omega
 have q3 : (k == 13) = false := by simp; omega
 have q4 : (k == 14) = false := by simp; omega
 have q5 : (k == 15) = false := by simp; omega
 have q6 : (k == 16) = false := by simp; omega
 have q7 : (k == 17) = false := by simp; omega
 have q8 : (k == 18) = false := by simp; omega
 have q9 : (k == 19) = false := by simp; omega
 have qa : (k == 20) = false := by simp; omega
 have hst := store_run (P := Tryz.prog) (cs := repV 1 0 0) S_Reply rowZ rfl rfl rfl
 unfold repV at hst
 have kS : Keep (· = w.heap.size + 1) (((w.alloc (.cells ccs.toArray 43))).alloc (.cells #[.int .i64 0, .int .u64 0, .int .i64 0, .bool false, .slice none 0 0, .slice none 0 0, .int .i64 0, .int .i64 0, .slice none 0 0, .slice none 0 0, .int .i64 0, .int .i64 0, .slice none 0 0, .int .i64 0, .slice none 0 0] 55)) (((((w.alloc (.cells ccs.toArray 43))).alloc (.cells #[.int .i64 0, .int .u64 0, .int .i64 0, .bool false, .slice none 0 0, .slice none 0 0, .int .i64 0, .int .i64 0, .slice none 0 0, .slice none 0 0, .int .i64 0, .int .i64 0, .slice none 0 0, .int .i64 0, .slice none 0 0] 55))).setRow (w.heap.size + 1) (repV 1 0 0).toArray) := (Keep.refl (· = w.heap.size + 1) _).setRow (fun _ => rfl) _
 have HZR := Lib.hid (rowZ.setRow (repV 1 0 0))
 have HKS := Lib.hid kS
 clear row0 hk rowZ kB kS hk4
 go_enter Tryz.func9, Tryz.ntmps9
 go_wp2_with fail
 refine bodyPost_ret (results_cell_row (by rfl) _ _ _ _ _ _ _ (by rfl) HZR.out Tryz.underlying55 (by rfl) hinfo) rfl ?_
 have i0 : isI64 0 := ⟨by decide, by decide⟩
 exact ⟨repV 1 0 0, O, fun _ => False, rfl, repV_R _ _ ⟨by decide, by decide⟩ ⟨by decide, by decide⟩ i0, fun b h => h.elim, (HX.out.keep HKS.out (fun b hb e => by have := H0.out b hb; omega)).more (Nat.le_succ n), fun b h => .inl h, fun b h => h, (K3.out.nix (S := O)).then HKS.out (fun i hi e => by omega)⟩
end
end Go.Proofs.YtibaehlfpgipfaaGreat
