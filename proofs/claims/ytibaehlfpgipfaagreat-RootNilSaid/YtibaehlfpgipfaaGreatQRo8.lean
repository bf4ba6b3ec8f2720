/- ROOT: a change of the catalog. Printed by mac.py. -/
import Derived.Test.YtibaehlfpgipfaaGreatQRo7
namespace Go.Proofs.YtibaehlfpgipfaaGreat
open Go.RowKit

theorem appendL1_run {P : Program} {t e sz bytes : Nat} (T : SliceT P t e sz bytes) {w : World} {cs : List Value} (t' ty : TypeId) (base : Nat) {v : Value} {n : Nat} {xs : List Value} (hown : w.ownsRow base e sz v n xs) (hl : cs.length = sz) (h1 : ones cs = true)
    (h63 : n + 1 ≤ maxLen) (hbytes : (n + 1) * bytes ≤ 140737488355328) (hbase : base ≤ w.heap.size) :
    ∃ a' cap' w', (Builtin.append_ #[t, t] ty #[v, .slice (some ⟨w.heap.size, 0, none⟩) 1 1]).run P (w.alloc (.cells cs.toArray t')) = .ok (.slice a' (n + 1) cap') w' ∧ w'.ownsRow base e sz (.slice a' (n + 1) cap') (n + 1) (xs ++ cs) ∧ Keep (OwnB v) w w' ∧ (∀ b, OwnB (.slice a' (n + 1) cap') b → OwnB v b ∨ w.heap.size ≤ b) := by
  obtain ⟨i, z, hi, hz, hsz, hby, hzs⟩ := T.info
  obtain ⟨v', w', hrun, hown', hg, -, hf⟩ := run_append_own_at (P := P) (w.alloc (.cells cs.toArray t')) base t ty e i z sz bytes T.under hi hz hsz hby hzs T.pos v n xs (hown.alloc _) ⟨w.heap.size, 0, none⟩ 1 1 cs (by omega) (fun j u hu => by
      rw [Addr.add_lit, World.cell?_alloc_at _ _ _ _ rfl, Nat.zero_add]; simpa using hu) (fun u hu => List.all_eq_true.1 h1 u hu) h63 hbytes (by simp; omega)
  obtain ⟨a', cap', rfl⟩ := owned_shape hown'
  refine ⟨a', cap', w', hrun, hown', ((Keep.refl _ w).alloc _).grown hg (fun _ hk _ => hk), fun b hb => ?_⟩
  rcases hf with h | h
  · have hb' : (Value.slice a' (n + 1) cap').ownBlock = some b := hb
    exact .inl (h.symm.trans hb')
  · right
    have hb' : (Value.slice a' (n + 1) cap').ownBlock = some b := hb
    rw [h] at hb'
    simp at hb'
    omega
/-- The same at a step of a region that draws. -/
theorem stepL_append1 {P : Program} {t e sz bytes : Nat} (T : SliceT P t e sz bytes) {ops : Array Oper} {o : Oper} {a : Act} {K : Act → World → Prop} {Q : Exit → Act → World → Prop} {E : Prop} {w : World} {cs : List Value} {t' : TypeId} (hgd : o.guard = none) (s x : Operand)
    (ho : o.op = .call { callee := .builtin .append, args := #[s, x], argTypes := #[t, t] })
    (base : Nat) {v : Value} {n : Nat} {xs : List Value} (hs : a.eval s = v) (hx : a.eval x = .slice (some ⟨w.heap.size, 0, none⟩) 1 1) (hown : w.ownsRow base e sz v n xs) (hl : cs.length = sz) (h1 : ones cs = true)
    (h63 : n + 1 ≤ maxLen) (hbytes : (n + 1) * bytes ≤ 140737488355328) (hbase : base ≤ w.heap.size)
    (h : ∀ a' cap' w', w'.ownsRow base e sz (.slice a' (n + 1) cap') (n + 1) (xs ++ cs) → Keep (OwnB v) w w' → (∀ b, OwnB (.slice a' (n + 1) cap') b → OwnB v b ∨ w.heap.size ≤ b) → K (a.put o.dst (.slice a' (n + 1) cap')) w') :
    if Region.wanted o (yielded ops a.tmps) = true then Oper.wp P o a (w.alloc (.cells cs.toArray t')) K Q else E := by
  rw [if_pos (by simp [Region.wanted, hgd])]
  obtain ⟨a', cap', w', hrun, h2, h3, h4⟩ := appendL1_run T t' o.type base hown hl h1 h63 hbytes hbase
  unfold Oper.wp
  simp only [execOp, ho, resolve, invoke, builtin, List.map_toArray, List.map_cons, List.map_nil, hs, hx, hrun, Sem.run_bind, Sem.run_pure, Result.andThen_ok]
  exact h _ _ _ h2 h3 h4
theorem RootAt.turnC {w wf : World} {O O' Pn : Nat → Prop} {g n : Nat} {R : RootS} {bM cC cO cS cU cC' : Nat} {aC aO aS aU aC' : Option Addr} {cssC : List (List Value)} {D : DataW Value} {cy : List Value} {c : GCatalog}
    (B : RootAt w O g n R bM aC cC aO cO aS cS aU cU cssC D) (og : O g) (hO : ∀ b, O b → O' b) (k : Keep (fun b => b = g ∨ OwnB (.slice aC R.cats.length cC) b ∨ ¬ O b) w wf)
    (row : RowIs wf g 79 [.int .i64 R.spare, .slice aC' (R.cats.length + 1) cC', .int .i64 R.routes.fEpoch, .int .i64 R.routes.fBase, .slice aS R.routes.fSpans.length cS, .int .i64 R.routes.fMoving, .slice aU R.routes.fCut.length cU, .int .u64 R.begun, .map (some bM), .slice aO R.order.length cO])
    (own : wf.ownsRow 0 50 4 (.slice aC' (R.cats.length + 1) cC') (R.cats.length + 1) (cssC.flatten ++ cy)) (hv : ∀ b, OwnB (.slice aC' (R.cats.length + 1) cC') b → OwnB (.slice aC R.cats.length cC) b ∨ (¬ O b ∧ O' b))
    (hcy : rGCatalog wf Pn cy c) (hPn : ∀ b, Pn b → ¬ O b ∧ O' b ∧ ¬ OwnB (.slice aC' (R.cats.length + 1) cC') b) :
    RootAt wf O' g n ⟨R.spare, R.cats ++ [c], R.routes, R.begun, R.dec, R.order⟩ bM aC' cC' aO cO aS cS aU cU (cssC ++ [cy]) D := by
  have hl : (R.cats ++ [c]).length = R.cats.length + 1 := by simp
  have hdeep : ∀ b, Deep O g bM (.slice aC R.cats.length cC) (.slice aO R.order.length cO) b → ¬ (b = g ∨ OwnB (.slice aC R.cats.length cC) b ∨ ¬ O b) := fun b hb h => by
    rcases h with h | h | h
    · exact hb.2.1 h
    · exact hb.2.2.2.1 h
    · exact h hb.1
  have hdeep2 : ∀ b, Deep O g bM (.slice aC R.cats.length cC) (.slice aO R.order.length cO) b → Deep O' g bM (.slice aC' (R.cats.length + 1) cC') (.slice aO R.order.length cO) b := fun b hb =>
    ⟨hO b hb.1, hb.2.1, hb.2.2.1, fun h => by
      rcases hv b h with h | h
      · exact hb.2.2.2.1 h
      · exact h.1 hb.1, hb.2.2.2.2⟩
  have hnew : ∀ b, Pn b → Deep O' g bM (.slice aC' (R.cats.length + 1) cC') (.slice aO R.order.length cO) b := fun b hb => by
    have h := hPn b hb
    exact ⟨h.2.1, fun e => h.1 (e ▸ og), fun e => h.1 (e ▸ B.oM), h.2.2, fun ho => h.1 (B.oO b ho).1⟩
  have els0 := (B.els.keep rGCatalog_lawful k hdeep).mono rGCatalog_lawful hdeep2
  refine ⟨by rw [hl]; exact row, hO _ B.oM, B.ne, fun b hb => ?_, fun b hb => ⟨hO b (B.oO b hb).1, (B.oO b hb).2⟩, fun b hb h => ?_, by rw [hl, List.flatten_append]; simpa using own, ?_, ?_, owned_keep B.rowO k (fun b hb h => ?_), B.dec.keep k (fun h => ?_)⟩
  · rw [hl] at hb
    rcases hv b hb with h | h
    · exact ⟨hO b (B.oC b h).1, (B.oC b h).2⟩
    · exact ⟨h.2, fun e => h.1 (e ▸ og), fun e => h.1 (e ▸ B.oM)⟩
  · rw [hl] at hb
    rcases hv b hb with h1 | h1
    · exact B.co b h1 h
    · exact h1.1 (B.oO b h).1
  · rw [hl]
    refine ⟨by rw [List.length_append, List.length_append, els0.1]; rfl, fun i d x hd hx => ?_⟩
    by_cases hi : i < cssC.length
    · rw [List.getElem?_append_left hi] at hd
      have hi' : i < R.cats.length := by rw [← els0.1]; exact hi
      have hx' : (R.cats ++ [c])[i]? = some x := hx
      rw [List.getElem?_append_left hi'] at hx'
      exact els0.2 i d x hd hx'
    · have hx' : (R.cats ++ [c])[i]? = some x := hx
      have he := els0.1
      have hi2 : i = cssC.length := by
        have := (List.getElem?_eq_some_iff.1 hd).1
        rw [List.length_append, List.length_singleton] at this
        omega
      rw [hi2, List.getElem?_append_right (Nat.le_refl _), Nat.sub_self] at hd
      rw [hi2, he, List.getElem?_append_right (Nat.le_refl _), Nat.sub_self] at hx'
      cases hd
      cases hx'
      exact rGCatalog_lawful.mono hcy hnew
  · rw [hl]
    exact rGRoutes_lawful.mono (rGRoutes_lawful.keep B.rts k hdeep) hdeep2
  · have := B.oO b hb
    rcases h with h | h | h
    · exact this.2.1 h
    · exact B.co b h hb
    · exact h this.1
  · rcases h with h | h | h
    · exact B.ne h
    · exact (B.oC bM h).2.2 rfl
    · exact h B.oM
def addC (R : RootS) (c : GCatalog) : RootS := ⟨R.spare, R.cats ++ [c], R.routes, R.begun, R.dec, R.order⟩
def changeP (R : RootS) (id : Int) (y : GCatalog × Int) : GReply × RootS := if y.2 = 0 then (repG 0 id y.1.fVersion, addC R y.1) else (repG y.2 0 0, R)
theorem okC {R : RootS} (ok : RootOk R) {c : GCatalog} (hl : R.cats.length ≤ 90000) (hs : smallC c) (hv : c.fVersion = (lastC R).fVersion + 1) (hlast : (lastC R).fVersion + 1 = (R.cats.length : Int)) : RootOk (addC R c) := by
  have h100 := ok.len
  refine ⟨by simp [addC], ⟨by show (R.cats ++ [c]).length ≤ _; rw [List.length_append, List.length_singleton]; omega, h100.2⟩, fun d hd => ?_, fun i d hd => ?_, ok.spans, ok.u64, ok.place⟩
  · rcases List.mem_append.1 hd with h | h
    · exact ok.small d h
    · have : d = c := by simpa using h
      subst this
      exact ⟨hs, by omega⟩
  · have hd' : (R.cats ++ [c])[i]? = some d := hd
    by_cases hi : i < R.cats.length
    · rw [List.getElem?_append_left hi] at hd'
      exact ok.ver i d hd'
    · have hi2 : i = R.cats.length := by
        have := (List.getElem?_eq_some_iff.1 hd').1
        rw [List.length_append, List.length_singleton] at this
        omega
      rw [hi2, List.getElem?_append_right (Nat.le_refl _), Nat.sub_self] at hd'
      cases hd'
      omega
end Go.Proofs.YtibaehlfpgipfaaGreat
