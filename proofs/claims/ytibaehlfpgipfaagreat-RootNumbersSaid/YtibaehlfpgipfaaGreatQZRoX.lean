/- ROOT: its state; New. Printed by mac.py. -/
import Derived.Test.YtibaehlfpgipfaaGreatQZSchAll
import Derived.Test.YtibaehlfpgipfaaGreatQZRtAll
import Derived.Maps.OwnSet
import Derived.Deep.DeepCutAuto
import Derived.Deep.CutBlock
namespace Go.Proofs.YtibaehlfpgipfaaGreat
open Go.RowKit
theorem rt_zInt (w : World) : (zeroValue 3).run Tryz.prog w = .ok (.int .i64 0) w := by kernel_rfl
def heldV (v : Value) : Option (DataW Value × List MemPlace) := some (.held v, [])
theorem uK : Go.Maps.Keyed Tryz.prog 28 := Go.Maps.int_keyed Tryz.underlying28
def keyU (k : Int) : Lit := .int .u64 k
theorem keyU_of {k : Int} (h : isU64 k) : keyOf Tryz.prog 28 (.int .u64 k) = some (keyU k) := Go.Maps.keyOf_int_mk Tryz.underlying28 (wf_of_isU64 h)
theorem keyU_is {k : Int} (h : isU64 k) : WideAt.IsKeyLit (keyU k) := uK.key (keyU_of h)
theorem keyU_ne {k k' : Int} (h : k' ≠ k) : keyU k' ≠ keyU k := fun e => h (by simpa [keyU] using e)
def decO (x : Option Int) : Int := match x with | none => 0 | some n => n
def DecIs (w : World) (bM n : Nat) (D : DataW Value) (dec : Int → Option Int) : Prop :=
 w.ownsMap Tryz.prog 28 heldV bM n D ∧ ∀ k, isU64 k → D.atKey (keyU k) (.held (.int .i64 0)) = .held (.int .i64 (decO (dec k))) ∧ Maps.has D (keyU k) = (dec k).isSome
theorem ownsMap_keep {w w' : World} {bM n : Nat} {D : DataW Value} (h : w.ownsMap Tryz.prog 28 heldV bM n D) {S : Nat → Prop} (k : Keep S w w') (hs : ¬ S bM) : w'.ownsMap Tryz.prog 28 heldV bM n D := by
 have hlt := h.lt
 obtain ⟨es, clock, hb, r⟩ := h
 exact ⟨es, clock, (k.block bM hlt hs).trans hb, r⟩
theorem DecIs.keep {w w' : World} {bM n : Nat} {D : DataW Value} {dec : Int → Option Int} (h : DecIs w bM n D dec) {S : Nat → Prop} (k : Keep S w w') (hs : ¬ S bM) : DecIs w' bM n D dec := ⟨ownsMap_keep h.1 k hs, h.2⟩
theorem dec_look {w : World} {bM n : Nat} {D : DataW Value} {dec : Int → Option Int} (h : DecIs w bM n D dec) {k : Int} (hk : isU64 k) :
  (Instr.lookup 77 (.map (some bM)) (.int .u64 k) true).run Tryz.prog w = .ok (.tuple #[.int .i64 (decO (dec k)), .bool (dec k).isSome]) w := by
 obtain ⟨h1, h2⟩ := h.2 k hk
 obtain ⟨v', ps, hrun, h3⟩ := h.1.look_ok uK Tryz.underlying77 (rt_zInt w) (show heldV (.int .i64 0) = some (.held (.int .i64 0), []) from rfl) (keyU_of hk)
 rw [h1] at h3
 simp only [heldV, Option.some.injEq, Prod.mk.injEq, DataW.held.injEq] at h3
 rw [h3.1, h2] at hrun
 exact hrun
theorem dec_put {w : World} {bM n : Nat} {D : DataW Value} {dec : Int → Option Int} (m : DecIs w bM n D dec) (hn : n < 1000000) {k x : Int} (hk : isU64 k) :
  ∃ w', (Instr.mapUpdate 77 (.map (some bM)) (.int .u64 k) (.int .i64 x)).run Tryz.prog w = .ok () w' ∧ DecIs w' bM (n + 1) (D.put (keyU k) (.held (.int .i64 x))) (fun i => if i = k then some x else dec i) ∧ Keep (fun b => b = bM) w w' := by
 obtain ⟨w', hrun, own', hg⟩ := m.1.update uK Tryz.underlying77 (by unfold maxLen; omega) (keyU_of hk) (show heldV (.int .i64 x) = some (.held (.int .i64 x), []) from rfl)
 have kk : Keep (fun b => b = bM) w w' := (Keep.refl _ w).grown hg (fun i hi _ => by cases hi; rfl)
 refine ⟨w', hrun, ⟨own', fun i hi => ?_⟩, kk⟩
 by_cases hik : i = k
 ·subst hik
  exact ⟨by simpa [decO] using Maps.atKey_put_same m.1.isMap (keyU_is hk) _ _, by simpa using Maps.has_put_same m.1.isMap (keyU_is hk) _⟩
 ·obtain ⟨h1, h2⟩ := m.2 i hi
  refine ⟨(Maps.atKey_put_other (keyU_ne hik) _ _).trans (by simpa [hik] using h1), ?_⟩
  rw [Maps.has_put_other (keyU_ne hik)]; simpa [hik] using h2
theorem DecIs.made (w : World) : DecIs (w.alloc (.map #[] 0)) w.heap.size 0 (.map []) (fun _ => none) := ⟨World.ownsMap_made _ _ _ _, fun _ _ => ⟨rfl, rfl⟩⟩
structure RootS where
 spare : Int
 cats : List GCatalog
 routes : GRoutes
 begun : Int
 dec : Int → Option Int
 order : List Int
def ivU (x : Int) : Value := .int .u64 x
def Deep (O : Nat → Prop) (g bM : Nat) (vC vO : Value) (b : Nat) : Prop := O b ∧ b ≠ g ∧ b ≠ bM ∧ ¬ OwnB vC b ∧ ¬ OwnB vO b
structure RootAt (w : World) (O : Nat → Prop) (g n : Nat) (R : RootS) (bM : Nat) (aC : Option Addr) (cC : Nat) (aO : Option Addr) (cO : Nat) (aS : Option Addr) (cS : Nat) (aU : Option Addr) (cU : Nat) (cssC : List (List Value)) (D : DataW Value) : Prop where
 row : RowIs w g 79 [.int .i64 R.spare, .slice aC R.cats.length cC, .int .i64 R.routes.fEpoch, .int .i64 R.routes.fBase, .slice aS R.routes.fSpans.length cS, .int .i64 R.routes.fMoving, .slice aU R.routes.fCut.length cU, .int .u64 R.begun, .map (some bM), .slice aO R.order.length cO]
 oM : O bM
 ne : bM ≠ g
 oC : ∀ b, OwnB (.slice aC R.cats.length cC) b → O b ∧ b ≠ g ∧ b ≠ bM
 oO : ∀ b, OwnB (.slice aO R.order.length cO) b → O b ∧ b ≠ g ∧ b ≠ bM
 co : ∀ b, OwnB (.slice aC R.cats.length cC) b → ¬ OwnB (.slice aO R.order.length cO) b
 rowC : w.ownsRow 0 50 4 (.slice aC R.cats.length cC) R.cats.length cssC.flatten
 els : Els rGCatalog w (Deep O g bM (.slice aC R.cats.length cC) (.slice aO R.order.length cO)) cssC R.cats
 rts : rGRoutes w (Deep O g bM (.slice aC R.cats.length cC) (.slice aO R.order.length cO)) [.int .i64 R.routes.fEpoch, .int .i64 R.routes.fBase, .slice aS R.routes.fSpans.length cS, .int .i64 R.routes.fMoving, .slice aU R.routes.fCut.length cU] R.routes
 rowO : w.ownsRow 0 28 1 (.slice aO R.order.length cO) R.order.length (R.order.map ivU)
 dec : DecIs w bM n D R.dec
structure RootOk (R : RootS) : Prop where
 ex : R.cats ≠ []
 len : R.cats.length ≤ 100000 ∧ R.order.length ≤ 100000
 small : ∀ c ∈ R.cats, smallC c ∧ c.fVersion ≤ 1000000
 ver : ∀ (i : Nat) (c : GCatalog), R.cats[i]? = some c → c.fVersion = (i : Int)
 spans : R.routes.fSpans.length ≤ 30
 u64 : isU64 R.begun
 place : ∀ k p, R.dec k = some p → 0 ≤ p ∧ p ≤ (R.order.length : Int)
structure IsRoot (w : World) (O : Nat → Prop) (g n : Nat) (R : RootS) : Prop where
 lt : ∀ b, O b → b < w.heap.size
 og : O g
 ok : RootOk R
 body : ∃ bM aC cC aO cO aS cS aU cU cssC D, RootAt w O g n R bM aC cC aO cO aS cS aU cU cssC D
theorem RootAt.keep {w w' : World} {O : Nat → Prop} {g n : Nat} {R : RootS} {bM cC cO cS cU : Nat} {aC aO aS aU : Option Addr} {cssC : List (List Value)} {D : DataW Value} (h : RootAt w O g n R bM aC cC aO cO aS cS aU cU cssC D) {S : Nat → Prop} (k : Keep S w w') (og : O g) (hs : ∀ b, O b → ¬ S b) : RootAt w' O g n R bM aC cC aO cO aS cS aU cU cssC D :=
 ⟨h.row.keep k (hs g og), h.oM, h.ne, h.oC, h.oO, h.co, owned_keep h.rowC k (fun b hb => hs b (h.oC b hb).1), h.els.keep rGCatalog_lawful k (fun b hb => hs b hb.1), rGRoutes_lawful.keep h.rts k (fun b hb => hs b hb.1), owned_keep h.rowO k (fun b hb => hs b (h.oO b hb).1), h.dec.keep k (hs bM h.oM)⟩
theorem IsRoot.keep {w w' : World} {O : Nat → Prop} {g n : Nat} {R : RootS} (h : IsRoot w O g n R) {S : Nat → Prop} (k : Keep S w w') (hs : ∀ b, O b → ¬ S b) : IsRoot w' O g n R := by
 obtain ⟨lt, og, ok, bM, aC, cC, aO, cO, aS, cS, aU, cU, cssC, D, B⟩ := h
 exact ⟨fun b hb => Nat.lt_of_lt_of_le (lt b hb) k.size, og, ok, bM, aC, cC, aO, cO, aS, cS, aU, cU, cssC, D, B.keep k og hs⟩
theorem IsRoot.nix {w w' : World} {O : Nat → Prop} {g n : Nat} {R : RootS} (h : IsRoot w O g n R) (k : Keep Nix w w') : IsRoot w' O g n R := h.keep k (fun _ _ h => h)
end Go.Proofs.YtibaehlfpgipfaaGreat
namespace Go.Proofs.YtibaehlfpgipfaaGreat
open Go.RowKit
theorem own_one (w : World) (e sz : Nat) (cs : List Value) (h : cs.length = sz) : (w.alloc (.cells cs.toArray e)).ownsRow 0 e sz (.slice (some ⟨w.heap.size, 0, none⟩) 1 1) 1 cs :=
 ⟨by simp [h], .inr ⟨w.heap.size, 1, cs.toArray, rfl, Nat.zero_le _, heap_alloc_new _ _, Nat.le_refl _, by unfold maxLen; decide, by simp [h], by simp [← h]⟩⟩
def cat1 : GCatalog := ⟨0, 1, [], []⟩
def startS (s : Int) (r : GRoutes) : RootS := ⟨s, [cat1], r, 0, fun _ => none, []⟩
theorem nil_R {α : Type} {R : RD α} (w : World) (p : Nat → Prop) : rList R w p [.slice none 0 0] [] := ⟨none, 0, [], rfl, rfl, Lies.nil _ _ _, Nat.le_refl _, Nat.zero_le _, fun i c x h => by cases h⟩
set_option maxRecDepth 100000 in
set_option maxHeartbeats 1000000 in
theorem rootNew_c (b s : Int) (w : World) (hb : 1 ≤ b ∧ b ≤ 4) (hs : 1 ≤ s ∧ s ≤ 4) :
  Calls Tryz.prog 6 #[.int .i64 b, .int .i64 s] w fun e w' => ∃ g O, e = .returned (.tuple #[.pointer (some ⟨g, 0, none⟩), .int .i64 0]) ∧ IsRoot w' O g 0 (startS s ⟨0, b, [⟨b + 1, [120]⟩], 0, []⟩) ∧ (∀ b, O b → w.heap.size ≤ b) ∧ Keep Nix w w' := by
 have hN := New_c b s w
 rw [show newF b s = (⟨0, b, [⟨b + 1, [120]⟩], 0, []⟩, 0) by unfold newF; rw [if_pos ⟨hb.1, hb.2, hs.1, hs.2⟩]] at hN
 replace hN := Lib.hid hN
 obtain ⟨r, HR⟩ : ∃ r : GRoutes, Hid ((⟨0, b, [⟨b + 1, [120]⟩], 0, []⟩ : GRoutes) = r) := ⟨_, rfl⟩
 have hn1 : r.fSpans.length ≤ 30 := by rw [← HR.out]; show 1 ≤ 30; decide
 rw [HR.out] at hN ⊢
 have hmm := @run_makeMap Tryz.prog
 go_enter Tryz.func6, Tryz.ntmps6
 go_wp2_with fail
 go_fit hN.out
 rintro e w1 ⟨cs, rfl, hr, k1⟩
 have hr2 := hr
 obtain ⟨aS, cS, aU, cU, rfl, -⟩ := rGRoutes_open hr
 have hs1 := k1.size
 have row0 := RowIs.alloc w1 #[.int .i64 r.fEpoch, .int .i64 r.fBase, .slice aS r.fSpans.length cS, .int .i64 r.fMoving, .slice aU r.fCut.length cU] 53
 have x0 := row0.cell 0
 (try simp only [List.getElem?_cons_zero] at x0)
 have x1 := row0.cell 1
 (try simp only [List.getElem?_cons_succ] at x1); (try simp only [List.getElem?_cons_zero] at x1)
 have x2 := row0.cell 2
 (try simp only [List.getElem?_cons_succ] at x2); (try simp only [List.getElem?_cons_zero] at x2)
 have x3 := row0.cell 3
 (try simp only [List.getElem?_cons_succ] at x3); (try simp only [List.getElem?_cons_zero] at x3)
 have x4 := row0.cell 4
 (try simp only [List.getElem?_cons_succ] at x4); (try simp only [List.getElem?_cons_zero] at x4)
 have kB : Keep Nix (w1.alloc (.cells #[.int .i64 r.fEpoch, .int .i64 r.fBase, .slice aS r.fSpans.length cS, .int .i64 r.fMoving, .slice aU r.fCut.length cU] 53)) (((w1.alloc (.cells #[.int .i64 r.fEpoch, .int .i64 r.fBase, .slice aS r.fSpans.length cS, .int .i64 r.fMoving, .slice aU r.fCut.length cU] 53))).alloc (.cells #[.int .i64 0, .int .i64 1, .slice none 0 0, .slice none 0 0] 50)) := (Keep.refl Nix _).alloc _
 have rowB := row0.keep kB id
 have z0 := rowB.cell 0
 (try simp only [List.getElem?_cons_zero] at z0)
 have z1 := rowB.cell 1
 (try simp only [List.getElem?_cons_succ] at z1); (try simp only [List.getElem?_cons_zero] at z1)
 have z2 := rowB.cell 2
 (try simp only [List.getElem?_cons_succ] at z2); (try simp only [List.getElem?_cons_zero] at z2)
 have z3 := rowB.cell 3
 (try simp only [List.getElem?_cons_succ] at z3); (try simp only [List.getElem?_cons_zero] at z3)
 have z4 := rowB.cell 4
 (try simp only [List.getElem?_cons_succ] at z4); (try simp only [List.getElem?_cons_zero] at z4)
 clear hr row0 rowB kB
 go_wp2_with fail
 refine bodyPost_ret (results_tmp2 rfl _ _ _) rfl ?_
 have sA : Hid (((w1.alloc (.cells #[.int .i64 r.fEpoch, .int .i64 r.fBase, .slice aS r.fSpans.length cS, .int .i64 r.fMoving, .slice aU r.fCut.length cU] 53))).heap.size = w1.heap.size + 1) := by show _ = _; simp
 have sB : Hid (((((w1.alloc (.cells #[.int .i64 r.fEpoch, .int .i64 r.fBase, .slice aS r.fSpans.length cS, .int .i64 r.fMoving, .slice aU r.fCut.length cU] 53))).alloc (.cells #[.int .i64 0, .int .i64 1, .slice none 0 0, .slice none 0 0] 50))).heap.size = w1.heap.size + 1 + 1) := by show _ = _; simp
 have sC : Hid (((((((w1.alloc (.cells #[.int .i64 r.fEpoch, .int .i64 r.fBase, .slice aS r.fSpans.length cS, .int .i64 r.fMoving, .slice aU r.fCut.length cU] 53))).alloc (.cells #[.int .i64 0, .int .i64 1, .slice none 0 0, .slice none 0 0] 50))).alloc (.map #[] 0))).heap.size = w1.heap.size + 1 + 1 + 1) := by show _ = _; simp
 have sD : Hid (((((((((w1.alloc (.cells #[.int .i64 r.fEpoch, .int .i64 r.fBase, .slice aS r.fSpans.length cS, .int .i64 r.fMoving, .slice aU r.fCut.length cU] 53))).alloc (.cells #[.int .i64 0, .int .i64 1, .slice none 0 0, .slice none 0 0] 50))).alloc (.map #[] 0))).alloc (.cells #[.int .i64 s, .slice (some ⟨w1.heap.size + 1, 0, none⟩) 1 1, .int .i64 r.fEpoch, .int .i64 r.fBase, .slice aS r.fSpans.length cS, .int .i64 r.fMoving, .slice aU r.fCut.length cU, .int .u64 0, .map (some (w1.heap.size + 1 + 1)), .slice none 0 0] 79))).heap.size = w1.heap.size + 1 + 1 + 1 + 1) := by show _ = _; simp
 have kA : Keep Nix w1 (w1.alloc (.cells #[.int .i64 r.fEpoch, .int .i64 r.fBase, .slice aS r.fSpans.length cS, .int .i64 r.fMoving, .slice aU r.fCut.length cU] 53)) := (Keep.refl Nix w1).alloc _
 have kB : Keep Nix (w1.alloc (.cells #[.int .i64 r.fEpoch, .int .i64 r.fBase, .slice aS r.fSpans.length cS, .int .i64 r.fMoving, .slice aU r.fCut.length cU] 53)) (((w1.alloc (.cells #[.int .i64 r.fEpoch, .int .i64 r.fBase, .slice aS r.fSpans.length cS, .int .i64 r.fMoving, .slice aU r.fCut.length cU] 53))).alloc (.cells #[.int .i64 0, .int .i64 1, .slice none 0 0, .slice none 0 0] 50)) := (Keep.refl Nix _).alloc _
 have kC : Keep Nix (((w1.alloc (.cells #[.int .i64 r.fEpoch, .int .i64 r.fBase, .slice aS r.fSpans.length cS, .int .i64 r.fMoving, .slice aU r.fCut.length cU] 53))).alloc (.cells #[.int .i64 0, .int .i64 1, .slice none 0 0, .slice none 0 0] 50)) (((((w1.alloc (.cells #[.int .i64 r.fEpoch, .int .i64 r.fBase, .slice aS r.fSpans.length cS, .int .i64 r.fMoving, .slice aU r.fCut.length cU] 53))).alloc (.cells #[.int .i64 0, .int .i64 1, .slice none 0 0, .slice none 0 0] 50))).alloc (.map #[] 0)) := (Keep.refl Nix _).alloc _
 have kD : Keep Nix (((((w1.alloc (.cells #[.int .i64 r.fEpoch, .int .i64 r.fBase, .slice aS r.fSpans.length cS, .int .i64 r.fMoving, .slice aU r.fCut.length cU] 53))).alloc (.cells #[.int .i64 0, .int .i64 1, .slice none 0 0, .slice none 0 0] 50))).alloc (.map #[] 0)) (((((((w1.alloc (.cells #[.int .i64 r.fEpoch, .int .i64 r.fBase, .slice aS r.fSpans.length cS, .int .i64 r.fMoving, .slice aU r.fCut.length cU] 53))).alloc (.cells #[.int .i64 0, .int .i64 1, .slice none 0 0, .slice none 0 0] 50))).alloc (.map #[] 0))).alloc (.cells #[.int .i64 s, .slice (some ⟨w1.heap.size + 1, 0, none⟩) 1 1, .int .i64 r.fEpoch, .int .i64 r.fBase, .slice aS r.fSpans.length cS, .int .i64 r.fMoving, .slice aU r.fCut.length cU, .int .u64 0, .map (some (w1.heap.size + 1 + 1)), .slice none 0 0] 79)) := (Keep.refl Nix _).alloc _
 have k4 := ((kA.trans kB).trans kC).trans kD
 have rowX : RowIs (((((((w1.alloc (.cells #[.int .i64 r.fEpoch, .int .i64 r.fBase, .slice aS r.fSpans.length cS, .int .i64 r.fMoving, .slice aU r.fCut.length cU] 53))).alloc (.cells #[.int .i64 0, .int .i64 1, .slice none 0 0, .slice none 0 0] 50))).alloc (.map #[] 0))).alloc (.cells #[.int .i64 s, .slice (some ⟨w1.heap.size + 1, 0, none⟩) 1 1, .int .i64 r.fEpoch, .int .i64 r.fBase, .slice aS r.fSpans.length cS, .int .i64 r.fMoving, .slice aU r.fCut.length cU, .int .u64 0, .map (some (w1.heap.size + 1 + 1)), .slice none 0 0] 79)) (w1.heap.size + 1 + 1 + 1) 79 [.int .i64 s, .slice (some ⟨w1.heap.size + 1, 0, none⟩) 1 1, .int .i64 r.fEpoch, .int .i64 r.fBase, .slice aS r.fSpans.length cS, .int .i64 r.fMoving, .slice aU r.fCut.length cU, .int .u64 0, .map (some (w1.heap.size + 1 + 1)), .slice none 0 0] := by
  have h := RowIs.alloc (((((w1.alloc (.cells #[.int .i64 r.fEpoch, .int .i64 r.fBase, .slice aS r.fSpans.length cS, .int .i64 r.fMoving, .slice aU r.fCut.length cU] 53))).alloc (.cells #[.int .i64 0, .int .i64 1, .slice none 0 0, .slice none 0 0] 50))).alloc (.map #[] 0)) #[.int .i64 s, .slice (some ⟨w1.heap.size + 1, 0, none⟩) 1 1, .int .i64 r.fEpoch, .int .i64 r.fBase, .slice aS r.fSpans.length cS, .int .i64 r.fMoving, .slice aU r.fCut.length cU, .int .u64 0, .map (some (w1.heap.size + 1 + 1)), .slice none 0 0] 79
  rw [sC.out] at h
  exact h
 have own := owned_keep (own_one (w1.alloc (.cells #[.int .i64 r.fEpoch, .int .i64 r.fBase, .slice aS r.fSpans.length cS, .int .i64 r.fMoving, .slice aU r.fCut.length cU] 53)) 50 4 [.int .i64 0, .int .i64 1, .slice none 0 0, .slice none 0 0] rfl) (kC.trans kD) (fun _ _ h => h)
 rw [sA.out] at own
 have dec := (DecIs.made (((w1.alloc (.cells #[.int .i64 r.fEpoch, .int .i64 r.fBase, .slice aS r.fSpans.length cS, .int .i64 r.fMoving, .slice aU r.fCut.length cU] 53))).alloc (.cells #[.int .i64 0, .int .i64 1, .slice none 0 0, .slice none 0 0] 50))).keep kD id
 rw [sB.out] at dec
 have z1 := sD.out
 refine ⟨w1.heap.size + 1 + 1 + 1, fun b => w.heap.size ≤ b ∧ b < w1.heap.size + 1 + 1 + 1 + 1, rfl, ⟨fun b hb => by have := hb.2; omega, ⟨by omega, by omega⟩, ⟨by simp [startS], ⟨by simp [startS], by simp [startS]⟩, fun c hc => ?_, fun i c h => (by
  have hi : [cat1][i]? = some c := h
  match i, hi with
  | 0, hi => cases hi; rfl
  | i + 1, hi => simp at hi), hn1, ⟨by simp [startS], by simp [startS]⟩, fun k p h => by simp [startS] at h⟩, w1.heap.size + 1 + 1, some ⟨w1.heap.size + 1, 0, none⟩, 1, none, 0, aS, cS, aU, cU, [[.int .i64 0, .int .i64 1, .slice none 0 0, .slice none 0 0]], _, ⟨rowX, ⟨by omega, by omega⟩, by omega, fun b hb => ?_, fun b hb => (by cases hb), fun b hb h => (by cases h), own, ⟨rfl, fun i c x hc hx => ?_⟩, ?_, World.ownsRow_nil _ _ _ _, dec⟩⟩, fun b hb => hb.1, k1.trans k4⟩
 ·have hc : c = cat1 := by simpa [startS] using hc
  subst hc
  exact ⟨⟨fun t h => (by cases h), fun t h => (by cases h), Nat.zero_le _, Nat.zero_le _⟩, by show (0 : Int) ≤ _; decide⟩
 ·have hb : b = w1.heap.size + 1 := by
   have : (Value.slice (some ⟨w1.heap.size + 1, 0, none⟩) 1 1).ownBlock = some b := hb
   simpa [Value.ownBlock] using this.symm
  subst hb
  exact ⟨⟨by omega, by omega⟩, by omega, by omega⟩
 ·match i, hc, hx with
  | 0, hc, hx =>
   have hc' : c = [.int .i64 0, .int .i64 1, .slice none 0 0, .slice none 0 0] := by simpa using hc.symm
   have hx' : x = cat1 := by simpa [startS] using hx.symm
   subst hc' hx'
   exact rGCatalog_mk _ _ (x := cat1) ⟨by show _ ≤ (0 : Int); decide, by show (0 : Int) ≤ _; decide⟩ ⟨by show _ ≤ (1 : Int); decide, by show (1 : Int) ≤ _; decide⟩ (nil_R _ _) (nil_R _ _)
  | i + 1, hc, hx => simp at hc
 ·refine rGRoutes_lawful.mono (rGRoutes_lawful.nix hr2 k4) (fun b hb => ⟨⟨hb.1, by have := hb.2; omega⟩, by have := hb.2; omega, by have := hb.2; omega, fun h => ?_, fun h => (by cases h)⟩)
  have : (Value.slice (some ⟨w1.heap.size + 1, 0, none⟩) 1 1).ownBlock = some b := h
  have : w1.heap.size + 1 = b := by simpa [Value.ownBlock] using this
  have := hb.2
  omega
end Go.Proofs.YtibaehlfpgipfaaGreat
namespace Go.Proofs.YtibaehlfpgipfaaGreat
open Go.RowKit
set_option linter.unusedSimpArgs false
theorem own_row {w : World} {base e sz n cap : Nat} {a : Option Addr} {xs : List Value} (h : w.ownsRow base e sz (.slice a n cap) n xs) (h0 : 0 < n) : ∃ b rest, a = some ⟨b, 0, none⟩ ∧ base ≤ b ∧ RowIs w b e (xs ++ rest) ∧ (xs ++ rest).length = cap * sz ∧ xs.length = n * sz ∧ n ≤ cap ∧ cap ≤ maxLen := by
 have hx := h.1
 obtain ⟨-, h1, h2⟩ := owned_bounds h
 cases a with
 | none =>
  rcases h.2 with ⟨h3, h4⟩ | ⟨g, cap', cur, h3, _⟩
  ·omega
  ·cases h3
 | some a =>
  obtain ⟨b, rest, rfl, h3, h4, h5⟩ := RowIs.of_owned h
  exact ⟨b, rest, rfl, h3, h4, h5, hx, h1, h2⟩
def lastC (R : RootS) : GCatalog := R.cats.getLast?.getD cat1
set_option maxRecDepth 100000 in
set_option maxHeartbeats 2000000 in
theorem catalog_c (O : Nat → Prop) (g n : Nat) (R : RootS) (w : World) (H : IsRoot w O g n R) :
  Calls Tryz.prog 23 #[.pointer (some ⟨g, 0, none⟩)] w (Ret rGCatalog w (lastC R)) := by
 have hinfo : (Tryz.prog.info? 50).map (·.size) = some 4 := by kernel_rfl
 have H0 := Lib.hid H.lt
 have kA : Keep Nix w (w.alloc (.cells #[.int .i64 0, .int .i64 0, .slice none 0 0, .slice none 0 0] 50)) := (Keep.refl Nix w).alloc _
 have rowZ : RowIs (w.alloc (.cells #[.int .i64 0, .int .i64 0, .slice none 0 0, .slice none 0 0] 50)) w.heap.size 50 [.int .i64 0, .int .i64 0, .slice none 0 0, .slice none 0 0] := RowIs.alloc w _ _
 obtain ⟨lt, og, ok, bM, aC, cC, aO, cO, aS, cS, aU, cU, cssC, D, B⟩ := H.nix kA
 have hpos : 0 < R.cats.length := List.length_pos_iff.2 ok.ex
 obtain ⟨m, hm⟩ : ∃ m, R.cats.length = m + 1 := ⟨R.cats.length - 1, by omega⟩
 have hlen := ok.len.1
 have hmlt : m < R.cats.length := by omega
 have hlast : lastC R = R.cats[m] := by
  unfold lastC
  rw [List.getLast?_eq_getElem?, hm, Nat.add_sub_cancel, List.getElem?_eq_getElem hmlt]
  rfl
 have hsm := ok.small _ (List.getElem_mem hmlt)
 have hmc : m < cssC.length := by rw [B.els.1]; exact hmlt
 have hel := B.els.2 m _ _ (List.getElem?_eq_getElem hmc) (List.getElem?_eq_getElem hmlt)
 have hce : cssC[m]? = some cssC[m] := List.getElem?_eq_getElem hmc
 obtain ⟨b, rest, rfl, hb, rowb, hlr, hlx, hc, hmx⟩ := own_row B.rowC hpos
 have hob := B.oC b rfl
 have rowX := B.row
 have hcl : ∀ d ∈ cssC, d.length = 4 := by
  intro d hd
  obtain ⟨i, hi, rfl⟩ := List.mem_iff_getElem.1 hd
  exact rGCatalog_lawful.len (B.els.2 i _ (R.cats[i]'(by rw [← B.els.1]; exact hi)) (List.getElem?_eq_getElem hi) (List.getElem?_eq_getElem _))
 rw [hlast]
 generalize hcc : R.cats[m] = c at *
 generalize cssC[m] = cm at *
 have hel2 := hel
 obtain ⟨aT, cT, aX, cX, rfl, -⟩ := rGCatalog_open hel
 have hcell : ∀ j u, ([.int .i64 c.fVersion, .int .i64 c.fNext, .slice aT c.fTables.length cT, .slice aX c.fIndexes.length cX] : List Value)[j]? = some u → (cssC.flatten ++ rest)[m * 4 + j]? = some u := fun j u hu => by
  have := flat_at cssC hcl m _ hce j u hu
  rw [List.getElem?_append_left (List.getElem?_eq_some_iff.1 this).1]
  exact this
 have HM := Lib.hid hm
 have kd : Keep Nix (w.alloc (.cells #[.int .i64 0, .int .i64 0, .slice none 0 0, .slice none 0 0] 50)) ((w.alloc (.cells #[.int .i64 0, .int .i64 0, .slice none 0 0, .slice none 0 0] 50))).drew := (Keep.refl Nix _).drew
 have HSS : Hid (∀ w', Keep Nix (w.alloc (.cells #[.int .i64 0, .int .i64 0, .slice none 0 0, .slice none 0 0] 50)) w' → w'.cell? ⟨g, 1, none⟩ = some (.slice (some ⟨b, 0, none⟩) R.cats.length cC) ∧ w'.cell? ⟨b, m * 4, none⟩ = some (.int .i64 c.fVersion) ∧ w'.cell? ⟨b, m * 4 + 1, none⟩ = some (.int .i64 c.fNext) ∧ w'.cell? ⟨b, m * 4 + 2, none⟩ = some (.slice aT c.fTables.length cT) ∧ w'.cell? ⟨b, m * 4 + 3, none⟩ = some (.slice aX c.fIndexes.length cX)) := fun w' k => by
  have r1 := rowX.keep k id
  have r2 := rowb.keep k id
  exact ⟨by simpa using r1.cell 1, (r2.cell (m * 4)).trans (hcell 0 _ rfl), (r2.cell (m * 4 + 1)).trans (hcell 1 _ rfl), (r2.cell (m * 4 + 2)).trans (hcell 2 _ rfl), (r2.cell (m * 4 + 3)).trans (hcell 3 _ rfl)⟩
 have hi0 : (0 : Int) ≤ (m : Int) := by omega
 have hi1 : (m : Int) < (R.cats.length : Int) := by omega
 have hsub : IntKind.i64.wrap ((R.cats.length : Int) - 1) = (m : Int) := by rw [IntKind.wrap_i64]; omega
 have HO := Lib.hid (fun w' (k : Keep Nix (w.alloc (.cells #[.int .i64 0, .int .i64 0, .slice none 0 0, .slice none 0 0] 50)) w') => Own_c c [.int .i64 c.fVersion, .int .i64 c.fNext, .slice aT c.fTables.length cT, .slice aX c.fIndexes.length cX] w' (rGCatalog_lawful.nix hel2 k) hsm.1)
 have HRZ := Lib.hid rowZ
 clear hel hel2 hcell hce hcl hlr hlx rowb rowX B rowZ hm hmc hcc hlast
 go_enter Tryz.func23, Tryz.ntmps23
 go_upto_region 1 with fail
 refine wp_region_held_drew (S := (fun w' => w'.cell? ⟨g, 1, none⟩ = some (.slice (some ⟨b, 0, none⟩) R.cats.length cC) ∧ w'.cell? ⟨b, m * 4, none⟩ = some (.int .i64 c.fVersion) ∧ w'.cell? ⟨b, m * 4 + 1, none⟩ = some (.int .i64 c.fNext) ∧ w'.cell? ⟨b, m * 4 + 2, none⟩ = some (.slice aT c.fTables.length cT) ∧ w'.cell? ⟨b, m * 4 + 3, none⟩ = some (.slice aX c.fIndexes.length cX))) (by kernel_rfl) (HSS.out _ kd) (fun hHeld => ?_)
 have HRZ := Lib.hid (HRZ.out.keep kd id)
 have HO := Lib.hid (fun w' (k : Keep Nix ((w.alloc (.cells #[.int .i64 0, .int .i64 0, .slice none 0 0, .slice none 0 0] 50))).drew w') => HO.out w' (kd.trans k))
 have HSS := Lib.hid (fun w' (k : Keep Nix ((w.alloc (.cells #[.int .i64 0, .int .i64 0, .slice none 0 0, .slice none 0 0] 50))).drew w') => HSS.out w' (kd.trans k))
 have kk : Keep Nix w ((w.alloc (.cells #[.int .i64 0, .int .i64 0, .slice none 0 0, .slice none 0 0] 50))).drew := kA.trans kd
 have hsz : Hid (w.heap.size < ((w.alloc (.cells #[.int .i64 0, .int .i64 0, .slice none 0 0, .slice none 0 0] 50))).drew.heap.size) := HRZ.out.lt
 clear kd kA
 generalize ((w.alloc (.cells #[.int .i64 0, .int .i64 0, .slice none 0 0, .slice none 0 0] 50))).drew = w2 at *
 refine tk 0 (v := ?_) rfl ?_ hHeld ?_
 rotate_left
 ·intro w' hSw
  (try dsimp only at hSw)
  try simp only [zz1, zz2, zz3]
  go_simp
  try with_reducible rfl
 try simp only [Act.put, zz1, zz2, zz3, zz4, zz5, zz6]
 refine tk 1 (v := ?_) rfl ?_ hHeld ?_
 rotate_left
 ·intro w' hSw
  (try dsimp only at hSw)
  try simp only [zz1, zz2, zz3]
  go_simp
  try with_reducible rfl
 try simp only [Act.put, zz1, zz2, zz3, zz4, zz5, zz6]
 refine tk 2 (v := ?_) rfl ?_ hHeld ?_
 rotate_left
 ·intro w' hSw
  (try dsimp only at hSw)
  try simp only [zz1, zz2, zz3]
  go_simp
  try with_reducible rfl
 try simp only [Act.put, zz1, zz2, zz3, zz4, zz5, zz6]
 refine tk 3 (v := ?_) rfl ?_ hHeld ?_
 rotate_left
 ·intro w' hSw
  (try dsimp only at hSw)
  try simp only [zz1, zz2, zz3]
  go_simp
  try with_reducible rfl
 try simp only [Act.put, zz1, zz2, zz3, zz4, zz5, zz6]
 refine tk 4 (v := ?_) rfl ?_ hHeld ?_
 rotate_left
 ·intro w' hSw
  (try dsimp only at hSw)
  try simp only [zz1, zz2, zz3]
  go_simp
  try with_reducible rfl
 try simp only [Act.put, zz1, zz2, zz3, zz4, zz5, zz6]
 refine tk 5 (v := ?_) rfl ?_ hHeld ?_
 rotate_left
 ·intro w' hSw
  (try dsimp only at hSw)
  try simp only [zz1, zz2, zz3]
  go_simp
  try with_reducible rfl
 try simp only [Act.put, zz1, zz2, zz3, zz4, zz5, zz6]
 refine tk 6 (v := ?_) rfl ?_ hHeld ?_
 rotate_left
 ·intro w' hSw
  (try dsimp only at hSw)
  try simp only [zz1, zz2, zz3]
  go_simp
  try with_reducible rfl
 try simp only [Act.put, zz1, zz2, zz3, zz4, zz5, zz6]
 refine tk 7 (v := ?_) rfl ?_ hHeld ?_
 rotate_left
 ·intro w' hSw
  (try dsimp only at hSw)
  try simp only [zz1, zz2, zz3]
  go_simp
  try with_reducible rfl
 try simp only [Act.put, zz1, zz2, zz3, zz4, zz5, zz6]
 refine tk 8 (v := ?_) rfl ?_ hHeld ?_
 rotate_left
 ·intro w' hSw
  (try dsimp only at hSw)
  try simp only [zz1, zz2, zz3]
  go_simp
  try with_reducible rfl
 try simp only [Act.put, zz1, zz2, zz3, zz4, zz5, zz6]
 refine tk 9 (v := ?_) rfl ?_ hHeld ?_
 rotate_left
 ·intro w' hSw
  (try dsimp only at hSw)
  try simp only [zz1, zz2, zz3]
  go_simp
  try with_reducible rfl
 try simp only [Act.put, zz1, zz2, zz3, zz4, zz5, zz6]
 refine tk 10 (v := ?_) rfl ?_ hHeld ?_
 rotate_left
 ·intro w' hSw
  (try dsimp only at hSw)
  try simp only [zz1, zz2, zz3]
  go_simp
  try with_reducible rfl
 try simp only [Act.put, zz1, zz2, zz3, zz4, zz5, zz6]
 refine tk 11 (v := ?_) rfl ?_ hHeld ?_
 rotate_left
 ·intro w' hSw
  (try dsimp only at hSw)
  try simp only [zz1, zz2, zz3]
  go_simp
  try with_reducible rfl
 try simp only [Act.put, zz1, zz2, zz3, zz4, zz5, zz6]
 have HC := Lib.hid (HO.out w2 (Keep.refl _ _))
 refine wpAnyH_ready (rs := [12]) (by kernel_rfl) (by simp) ?_
 refine AllReadyH.cons rfl (fun K hK => ?_) AllReadyH.nil
 try simp only [zz1, zz2, zz3]
 go_simp
 go_fit HC.out
 rintro e w3 ⟨cn, rfl, rn, k3⟩
 clear HC
 go_wp2_with fail
 refine hK.out _ _ ((HSS.out _ k3)) (fun hHeld => ?_)
 clear hK K
 try simp only [Act.put, zz1, zz2, zz3, zz4, zz5, zz6]
 have rn2 := rn
 obtain ⟨bT, dT, bX, dX, rfl, -⟩ := rGCatalog_open rn
 have rowZ := HRZ.out.keep k3 id
 have z0 := rowZ.cell 0
 (try simp only [List.getElem?_cons_zero] at z0)
 have z1 := rowZ.cell 1
 (try simp only [List.getElem?_cons_succ] at z1); (try simp only [List.getElem?_cons_zero] at z1)
 have z2 := rowZ.cell 2
 (try simp only [List.getElem?_cons_succ] at z2); (try simp only [List.getElem?_cons_zero] at z2)
 have z3 := rowZ.cell 3
 (try simp only [List.getElem?_cons_succ] at z3); (try simp only [List.getElem?_cons_zero] at z3)
 have zf0 := rowZ.frozen 0
 have zf1 := rowZ.frozen 1
 have zf2 := rowZ.frozen 2
 have zf3 := rowZ.frozen 3
 have kS : Keep (· = w.heap.size) w3 ((((w3.setCell ⟨w.heap.size, 0, none⟩ (.int .i64 c.fVersion)).setCell ⟨w.heap.size, 1, none⟩ (.int .i64 c.fNext)).setCell ⟨w.heap.size, 2, none⟩ (.slice bT c.fTables.length dT)).setCell ⟨w.heap.size, 3, none⟩ (.slice bX c.fIndexes.length dX)) := ((((Keep.refl (· = w.heap.size) w3).setCell (p := ⟨w.heap.size, 0, none⟩) (fun _ => rfl) _).setCell (p := ⟨w.heap.size, 1, none⟩) (fun _ => rfl) _).setCell (p := ⟨w.heap.size, 2, none⟩) (fun _ => rfl) _).setCell (p := ⟨w.heap.size, 3, none⟩) (fun _ => rfl) _
 have rowR : RowIs ((((w3.setCell ⟨w.heap.size, 0, none⟩ (.int .i64 c.fVersion)).setCell ⟨w.heap.size, 1, none⟩ (.int .i64 c.fNext)).setCell ⟨w.heap.size, 2, none⟩ (.slice bT c.fTables.length dT)).setCell ⟨w.heap.size, 3, none⟩ (.slice bX c.fIndexes.length dX)) w.heap.size 50 [.int .i64 c.fVersion, .int .i64 c.fNext, .slice bT c.fTables.length dT, .slice bX c.fIndexes.length dX] := (((rowZ.set 0 (.int .i64 c.fVersion)).set 1 (.int .i64 c.fNext)).set 2 (.slice bT c.fTables.length dT)).set 3 (.slice bX c.fIndexes.length dX)
 have HZR := Lib.hid rowR
 clear rn rowR rowZ HO
 refine wpAnyH_ready (rs := [13]) (by kernel_rfl) (by simp) ?_
 refine AllReadyH.cons rfl (fun K hK => ?_) AllReadyH.nil
 try simp only [zz1, zz2, zz3]
 go_simp
 have hH := hHeld
 have hbw : b ≠ w.heap.size ∧ g ≠ w.heap.size := by
  have := H0.out b hob.1
  have := H0.out g og
  omega
 refine hK.out _ _ (⟨(kS.cell (by have := hsz.out; have := k3.size; have := H0.out g og; show g < _; omega) hbw.2).trans hH.1, (kS.cell (by have := hsz.out; have := k3.size; have := H0.out b hob.1; show b < _; omega) hbw.1).trans hH.2.1, (kS.cell (by have := hsz.out; have := k3.size; have := H0.out b hob.1; show b < _; omega) hbw.1).trans hH.2.2.1, (kS.cell (by have := hsz.out; have := k3.size; have := H0.out b hob.1; show b < _; omega) hbw.1).trans hH.2.2.2.1, (kS.cell (by have := hsz.out; have := k3.size; have := H0.out b hob.1; show b < _; omega) hbw.1).trans hH.2.2.2.2⟩) (fun hHeld => ?_)
 clear hK K
 try simp only [Act.put, zz1, zz2, zz3, zz4, zz5, zz6]
 refine wpAnyH_done (by kernel_rfl) ?_ _
 clear hHeld hH z0 z1 z2 z3 zf0 zf1 zf2 zf3
 go_wp2_with fail
 refine bodyPost_ret (results_cell_row (by rfl) _ _ _ _ _ _ _ (by rfl) HZR.out Tryz.underlying50 (by rfl) hinfo) rfl ?_
 have hsS := kS.size
 have hsz1 := hsz.out
 have hkk := kk.size
 exact ⟨[.int .i64 c.fVersion, .int .i64 c.fNext, .slice bT c.fTables.length dT, .slice bX c.fIndexes.length dX], rfl, rGCatalog_lawful.mono (rGCatalog_lawful.keep rn2 kS (fun b hb e => by have := hb.1; omega)) (fun b hb => ⟨by have := hb.1; omega, by have := hb.2; omega⟩), (kk.trans k3).then kS (fun i hi e => by omega)⟩
end Go.Proofs.YtibaehlfpgipfaaGreat
namespace Go.Proofs.YtibaehlfpgipfaaGreat
open Go.RowKit
theorem OwnR.list {base : Nat} {w : World} {a : Option Addr} {c : Nat} {css : List (List Value)} {l : List GOwner} {p : Nat → Prop} (own : w.ownsRow base 97 2 (.slice a l.length c) l.length css.flatten) (els : Els rGOwner w p css l) (hp : ∀ b, OwnB (.slice a l.length c) b → p b) (hf : l.length ≤ far) : rList rGOwner w p [.slice a l.length c] l :=
 ⟨a, c, css, rfl, els.1, fun hx => by
  obtain ⟨b, off, ha, h1, h2, h3⟩ := Lies.of_owned own hx
  exact ⟨b, off, ha, hp b h1.2, h2, h3⟩, (owned_bounds own).2.1, hf, els.2⟩
theorem OwnR.routes {base : Nat} {w : World} {cs : List Value} {r : GRoutes} (h : OwnR base w cs r) (hE : isI64 r.fEpoch) (hB : isI64 r.fBase) (hM : isI64 r.fMoving) (hf : r.fSpans.length ≤ 30) : rGRoutes w (fun b => base ≤ b ∧ b < w.heap.size) cs r := by
 obtain ⟨a, c, aC, cC, css, rfl, own, els, LC⟩ := h
 refine rGRoutes_mk _ _ hE hB (OwnR.list own (els.mono rGOwner_lawful (fun b hb => hb.1)) (fun b hb => own.lt b hb) (by unfold far; omega)) hM (LC.mono (fun b hb => hb.1))
set_option maxRecDepth 100000 in
set_option maxHeartbeats 2000000 in
theorem routes_c (O : Nat → Prop) (g n : Nat) (R : RootS) (w : World) (H : IsRoot w O g n R) :
  Calls Tryz.prog 15 #[.pointer (some ⟨g, 0, none⟩)] w (Ret rGRoutes w R.routes) := by
 have hinfo : (Tryz.prog.info? 53).map (·.size) = some 5 := by kernel_rfl
 have kA : Keep Nix w (w.alloc (.cells #[.int .i64 0, .int .i64 0, .slice none 0 0, .int .i64 0, .slice none 0 0] 53)) := (Keep.refl Nix w).alloc _
 have rowZ : RowIs (w.alloc (.cells #[.int .i64 0, .int .i64 0, .slice none 0 0, .int .i64 0, .slice none 0 0] 53)) w.heap.size 53 [.int .i64 0, .int .i64 0, .slice none 0 0, .int .i64 0, .slice none 0 0] := RowIs.alloc w _ _
 obtain ⟨lt, og, ok, bM, aC, cC, aO, cO, aS, cS, aU, cU, cssC, D, B⟩ := H.nix kA
 have rowX := B.row
 have hr := B.rts
 have hsp := ok.spans
 generalize R.routes = r at *
 obtain ⟨_, _, _, _, -, h64E, h64B, -, h64M, -⟩ := rGRoutes_open hr
 have HO := Lib.hid (routesOwn_c r [.int .i64 r.fEpoch, .int .i64 r.fBase, .slice aS r.fSpans.length cS, .int .i64 r.fMoving, .slice aU r.fCut.length cU] (w.alloc (.cells #[.int .i64 0, .int .i64 0, .slice none 0 0, .int .i64 0, .slice none 0 0] 53)) hr hsp)
 have x2 : ((w.alloc (.cells #[.int .i64 0, .int .i64 0, .slice none 0 0, .int .i64 0, .slice none 0 0] 53))).cell? ⟨g, 2, none⟩ = some (.int .i64 r.fEpoch) := by simpa using rowX.cell 2
 have x3 : ((w.alloc (.cells #[.int .i64 0, .int .i64 0, .slice none 0 0, .int .i64 0, .slice none 0 0] 53))).cell? ⟨g, 3, none⟩ = some (.int .i64 r.fBase) := by simpa using rowX.cell 3
 have x4 : ((w.alloc (.cells #[.int .i64 0, .int .i64 0, .slice none 0 0, .int .i64 0, .slice none 0 0] 53))).cell? ⟨g, 4, none⟩ = some (.slice aS r.fSpans.length cS) := by simpa using rowX.cell 4
 have x5 : ((w.alloc (.cells #[.int .i64 0, .int .i64 0, .slice none 0 0, .int .i64 0, .slice none 0 0] 53))).cell? ⟨g, 5, none⟩ = some (.int .i64 r.fMoving) := by simpa using rowX.cell 5
 have x6 : ((w.alloc (.cells #[.int .i64 0, .int .i64 0, .slice none 0 0, .int .i64 0, .slice none 0 0] 53))).cell? ⟨g, 6, none⟩ = some (.slice aU r.fCut.length cU) := by simpa using rowX.cell 6
 have HRZ := Lib.hid rowZ
 have hsz : Hid (((w.alloc (.cells #[.int .i64 0, .int .i64 0, .slice none 0 0, .int .i64 0, .slice none 0 0] 53))).heap.size = w.heap.size + 1) := by show _ = _; simp
 clear B rowX hr rowZ
 go_enter Tryz.func15, Tryz.ntmps15
 go_wp2_with fail
 go_fit HO.out
 rintro e w3 ⟨cn, rfl, hn, k3⟩
 have rn := OwnR.routes hn h64E h64B h64M hsp
 obtain ⟨bS, dS, bU, dU, css, rfl, -⟩ := hn
 have rowZ := HRZ.out.keep k3 id
 have z0 := rowZ.cell 0
 (try simp only [List.getElem?_cons_zero] at z0)
 have z1 := rowZ.cell 1
 (try simp only [List.getElem?_cons_succ] at z1); (try simp only [List.getElem?_cons_zero] at z1)
 have z2 := rowZ.cell 2
 (try simp only [List.getElem?_cons_succ] at z2); (try simp only [List.getElem?_cons_zero] at z2)
 have z3 := rowZ.cell 3
 (try simp only [List.getElem?_cons_succ] at z3); (try simp only [List.getElem?_cons_zero] at z3)
 have z4 := rowZ.cell 4
 (try simp only [List.getElem?_cons_succ] at z4); (try simp only [List.getElem?_cons_zero] at z4)
 have zf0 := rowZ.frozen 0
 have zf1 := rowZ.frozen 1
 have zf2 := rowZ.frozen 2
 have zf3 := rowZ.frozen 3
 have zf4 := rowZ.frozen 4
 have kS : Keep (· = w.heap.size) w3 (((((w3.setCell ⟨w.heap.size, 0, none⟩ (.int .i64 r.fEpoch)).setCell ⟨w.heap.size, 1, none⟩ (.int .i64 r.fBase)).setCell ⟨w.heap.size, 2, none⟩ (.slice bS r.fSpans.length dS)).setCell ⟨w.heap.size, 3, none⟩ (.int .i64 r.fMoving)).setCell ⟨w.heap.size, 4, none⟩ (.slice bU r.fCut.length dU)) := (((((Keep.refl (· = w.heap.size) w3).setCell (p := ⟨w.heap.size, 0, none⟩) (fun _ => rfl) _).setCell (p := ⟨w.heap.size, 1, none⟩) (fun _ => rfl) _).setCell (p := ⟨w.heap.size, 2, none⟩) (fun _ => rfl) _).setCell (p := ⟨w.heap.size, 3, none⟩) (fun _ => rfl) _).setCell (p := ⟨w.heap.size, 4, none⟩) (fun _ => rfl) _
 have rowR : RowIs (((((w3.setCell ⟨w.heap.size, 0, none⟩ (.int .i64 r.fEpoch)).setCell ⟨w.heap.size, 1, none⟩ (.int .i64 r.fBase)).setCell ⟨w.heap.size, 2, none⟩ (.slice bS r.fSpans.length dS)).setCell ⟨w.heap.size, 3, none⟩ (.int .i64 r.fMoving)).setCell ⟨w.heap.size, 4, none⟩ (.slice bU r.fCut.length dU)) w.heap.size 53 [.int .i64 r.fEpoch, .int .i64 r.fBase, .slice bS r.fSpans.length dS, .int .i64 r.fMoving, .slice bU r.fCut.length dU] := ((((rowZ.set 0 (.int .i64 r.fEpoch)).set 1 (.int .i64 r.fBase)).set 2 (.slice bS r.fSpans.length dS)).set 3 (.int .i64 r.fMoving)).set 4 (.slice bU r.fCut.length dU)
 have HZR := Lib.hid rowR
 have HRN := Lib.hid rn
 clear rn rowR rowZ HO x2 x3 x4 x5 x6
 go_wp2_with fail
 refine bodyPost_ret (results_cell_row (by rfl) _ _ _ _ _ _ _ (by rfl) HZR.out Tryz.underlying53 (by rfl) hinfo) rfl ?_
 have hsS := kS.size
 have hs1 := hsz.out
 exact ⟨[.int .i64 r.fEpoch, .int .i64 r.fBase, .slice bS r.fSpans.length dS, .int .i64 r.fMoving, .slice bU r.fCut.length dU], rfl, rGRoutes_lawful.mono (rGRoutes_lawful.keep HRN.out kS (fun b hb e => by have := hb.1; omega)) (fun b hb => ⟨by have := hb.1; omega, by have := hb.2; omega⟩), (kA.trans k3).then kS (fun i hi e => by omega)⟩
end Go.Proofs.YtibaehlfpgipfaaGreat
