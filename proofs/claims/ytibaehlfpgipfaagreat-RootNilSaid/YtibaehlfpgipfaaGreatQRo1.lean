/- ROOT: its state; New. Printed by mac.py. -/
import Derived.Test.YtibaehlfpgipfaaGreatQSchAll
import Derived.Test.YtibaehlfpgipfaaGreatQRtAll
import Derived.Maps.OwnSet
import Derived.Deep.DeepCutAuto
import Derived.Deep.CutBlock
namespace Go.Proofs.YtibaehlfpgipfaaGreat
open Go.RowKit

theorem rt_zInt (w : World) : (zeroValue 3).run Tryz.prog w = .ok (.int .i64 0) w := by kernel_rfl
def heldV (v : Value) : Option (DataW Value × List MemPlace) := some (.held v, [])
theorem uK : Go.Maps.Keyed Tryz.prog 28 := Go.Maps.int_keyed Tryz.underlying28
def keyU (k : Int) : Lit := .int .u64 k
theorem keyU_of {k : Int} (h : isU64 k) : keyOf Tryz.prog 28 (.int .u64 k) = some (keyU k) := Go.Maps.keyOf_int_mk Tryz.underlying28 (wf_of_isU64 h)
theorem keyU_is {k : Int} (h : isU64 k) : WideAt.IsKeyLit (keyU k) := uK.key (keyU_of h)
theorem keyU_ne {k k' : Int} (h : k' ≠ k) : keyU k' ≠ keyU k := fun e => h (by simpa [keyU] using e)
def decO (x : Option Int) : Int := match x with | none => 0 | some n => n
def DecIs (w : World) (bM n : Nat) (D : DataW Value) (dec : Int → Option Int) : Prop :=
  w.ownsMap Tryz.prog 28 heldV bM n D ∧ ∀ k, isU64 k → D.atKey (keyU k) (.held (.int .i64 0)) = .held (.int .i64 (decO (dec k))) ∧ Maps.has D (keyU k) = (dec k).isSome
theorem ownsMap_keep {w w' : World} {bM n : Nat} {D : DataW Value} (h : w.ownsMap Tryz.prog 28 heldV bM n D) {S : Nat → Prop} (k : Keep S w w') (hs : ¬ S bM) : w'.ownsMap Tryz.prog 28 heldV bM n D := by
  have hlt := h.lt
  obtain ⟨es, clock, hb, r⟩ := h
  exact ⟨es, clock, (k.block bM hlt hs).trans hb, r⟩
theorem DecIs.keep {w w' : World} {bM n : Nat} {D : DataW Value} {dec : Int → Option Int} (h : DecIs w bM n D dec) {S : Nat → Prop} (k : Keep S w w') (hs : ¬ S bM) : DecIs w' bM n D dec := ⟨ownsMap_keep h.1 k hs, h.2⟩
theorem dec_look {w : World} {bM n : Nat} {D : DataW Value} {dec : Int → Option Int} (h : DecIs w bM n D dec) {k : Int} (hk : isU64 k) :
    (Instr.lookup 77 (.map (some bM)) (.int .u64 k) true).run Tryz.prog w = .ok (.tuple #[.int .i64 (decO (dec k)), .bool (dec k).isSome]) w := by
  obtain ⟨h1, h2⟩ := h.2 k hk
  obtain ⟨v', ps, hrun, h3⟩ := h.1.look_ok uK Tryz.underlying77 (rt_zInt w) (show heldV (.int .i64 0) = some (.held (.int .i64 0), []) from rfl) (keyU_of hk)
  rw [h1] at h3
  simp only [heldV, Option.some.injEq, Prod.mk.injEq, DataW.held.injEq] at h3
  rw [h3.1, h2] at hrun
  exact hrun
theorem dec_put {w : World} {bM n : Nat} {D : DataW Value} {dec : Int → Option Int} (m : DecIs w bM n D dec) (hn : n < 1000000) {k x : Int} (hk : isU64 k) :
    ∃ w', (Instr.mapUpdate 77 (.map (some bM)) (.int .u64 k) (.int .i64 x)).run Tryz.prog w = .ok () w' ∧ DecIs w' bM (n + 1) (D.put (keyU k) (.held (.int .i64 x))) (fun i => if i = k then some x else dec i) ∧ Keep (fun b => b = bM) w w' := by
  obtain ⟨w', hrun, own', hg⟩ := m.1.update uK Tryz.underlying77 (by unfold maxLen; omega) (keyU_of hk) (show heldV (.int .i64 x) = some (.held (.int .i64 x), []) from rfl)
  have kk : Keep (fun b => b = bM) w w' := (Keep.refl _ w).grown hg (fun i hi _ => by cases hi; rfl)
  refine ⟨w', hrun, ⟨own', fun i hi => ?_⟩, kk⟩
  by_cases hik : i = k
  · subst hik
    exact ⟨by simpa [decO] using Maps.atKey_put_same m.1.isMap (keyU_is hk) _ _, by simpa using Maps.has_put_same m.1.isMap (keyU_is hk) _⟩
  · obtain ⟨h1, h2⟩ := m.2 i hi
    refine ⟨(Maps.atKey_put_other (keyU_ne hik) _ _).trans (by simpa [hik] using h1), ?_⟩
    rw [Maps.has_put_other (keyU_ne hik)]; simpa [hik] using h2
theorem DecIs.made (w : World) : DecIs (w.alloc (.map #[] 0)) w.heap.size 0 (.map []) (fun _ => none) := ⟨World.ownsMap_made _ _ _ _, fun _ _ => ⟨rfl, rfl⟩⟩
/-- What a root is, in plain words. -/
structure RootS where
  spare : Int
  cats : List GCatalog
  routes : GRoutes
  begun : Int
  dec : Int → Option Int
  order : List Int
def ivU (x : Int) : Value := .int .u64 x
/-- The blocks of catalogs and routes: neither the root's own, nor the map's, nor the rows'. -/
def Deep (O : Nat → Prop) (g bM : Nat) (vC vO : Value) (b : Nat) : Prop := O b ∧ b ≠ g ∧ b ≠ bM ∧ ¬ OwnB vC b ∧ ¬ OwnB vO b
structure RootAt (w : World) (O : Nat → Prop) (g n : Nat) (R : RootS) (bM : Nat) (aC : Option Addr) (cC : Nat) (aO : Option Addr) (cO : Nat) (aS : Option Addr) (cS : Nat) (aU : Option Addr) (cU : Nat) (cssC : List (List Value)) (D : DataW Value) : Prop where
  row : RowIs w g 79 [.int .i64 R.spare, .slice aC R.cats.length cC, .int .i64 R.routes.fEpoch, .int .i64 R.routes.fBase, .slice aS R.routes.fSpans.length cS, .int .i64 R.routes.fMoving, .slice aU R.routes.fCut.length cU, .int .u64 R.begun, .map (some bM), .slice aO R.order.length cO]
  oM : O bM
  ne : bM ≠ g
  oC : ∀ b, OwnB (.slice aC R.cats.length cC) b → O b ∧ b ≠ g ∧ b ≠ bM
  oO : ∀ b, OwnB (.slice aO R.order.length cO) b → O b ∧ b ≠ g ∧ b ≠ bM
  co : ∀ b, OwnB (.slice aC R.cats.length cC) b → ¬ OwnB (.slice aO R.order.length cO) b
  rowC : w.ownsRow 0 50 4 (.slice aC R.cats.length cC) R.cats.length cssC.flatten
  els : Els rGCatalog w (Deep O g bM (.slice aC R.cats.length cC) (.slice aO R.order.length cO)) cssC R.cats
  rts : rGRoutes w (Deep O g bM (.slice aC R.cats.length cC) (.slice aO R.order.length cO)) [.int .i64 R.routes.fEpoch, .int .i64 R.routes.fBase, .slice aS R.routes.fSpans.length cS, .int .i64 R.routes.fMoving, .slice aU R.routes.fCut.length cU] R.routes
  rowO : w.ownsRow 0 28 1 (.slice aO R.order.length cO) R.order.length (R.order.map ivU)
  dec : DecIs w bM n D R.dec
structure RootOk (R : RootS) : Prop where
  ex : R.cats ≠ []
  len : R.cats.length ≤ 100000 ∧ R.order.length ≤ 100000
  small : ∀ c ∈ R.cats, smallC c ∧ c.fVersion ≤ 1000000
  ver : ∀ (i : Nat) (c : GCatalog), R.cats[i]? = some c → c.fVersion = (i : Int)
  spans : R.routes.fSpans.length ≤ 30
  u64 : isU64 R.begun
  place : ∀ k p, R.dec k = some p → 0 ≤ p ∧ p ≤ (R.order.length : Int)
/-- A root lies at g, in the blocks O. -/
structure IsRoot (w : World) (O : Nat → Prop) (g n : Nat) (R : RootS) : Prop where
  lt : ∀ b, O b → b < w.heap.size
  og : O g
  ok : RootOk R
  body : ∃ bM aC cC aO cO aS cS aU cU cssC D, RootAt w O g n R bM aC cC aO cO aS cS aU cU cssC D
theorem RootAt.keep {w w' : World} {O : Nat → Prop} {g n : Nat} {R : RootS} {bM cC cO cS cU : Nat} {aC aO aS aU : Option Addr} {cssC : List (List Value)} {D : DataW Value} (h : RootAt w O g n R bM aC cC aO cO aS cS aU cU cssC D) {S : Nat → Prop} (k : Keep S w w') (og : O g) (hs : ∀ b, O b → ¬ S b) : RootAt w' O g n R bM aC cC aO cO aS cS aU cU cssC D :=
  ⟨h.row.keep k (hs g og), h.oM, h.ne, h.oC, h.oO, h.co, owned_keep h.rowC k (fun b hb => hs b (h.oC b hb).1), h.els.keep rGCatalog_lawful k (fun b hb => hs b hb.1), rGRoutes_lawful.keep h.rts k (fun b hb => hs b hb.1), owned_keep h.rowO k (fun b hb => hs b (h.oO b hb).1), h.dec.keep k (hs bM h.oM)⟩
theorem IsRoot.keep {w w' : World} {O : Nat → Prop} {g n : Nat} {R : RootS} (h : IsRoot w O g n R) {S : Nat → Prop} (k : Keep S w w') (hs : ∀ b, O b → ¬ S b) : IsRoot w' O g n R := by
  obtain ⟨lt, og, ok, bM, aC, cC, aO, cO, aS, cS, aU, cU, cssC, D, B⟩ := h
  exact ⟨fun b hb => Nat.lt_of_lt_of_le (lt b hb) k.size, og, ok, bM, aC, cC, aO, cO, aS, cS, aU, cU, cssC, D, B.keep k og hs⟩
theorem IsRoot.nix {w w' : World} {O : Nat → Prop} {g n : Nat} {R : RootS} (h : IsRoot w O g n R) (k : Keep Nix w w') : IsRoot w' O g n R := h.keep k (fun _ _ h => h)
end Go.Proofs.YtibaehlfpgipfaaGreat
