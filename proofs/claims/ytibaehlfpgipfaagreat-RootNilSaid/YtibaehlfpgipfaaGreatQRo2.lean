/- ROOT: New, catalog, Routes, Decided, Order. Printed by mac.py. -/
import Derived.Test.YtibaehlfpgipfaaGreatQRo1
namespace Go.Proofs.YtibaehlfpgipfaaGreat
open Go.RowKit

theorem own_one (w : World) (e sz : Nat) (cs : List Value) (h : cs.length = sz) : (w.alloc (.cells cs.toArray e)).ownsRow 0 e sz (.slice (some ⟨w.heap.size, 0, none⟩) 1 1) 1 cs :=
  ⟨by simp [h], .inr ⟨w.heap.size, 1, cs.toArray, rfl, Nat.zero_le _, heap_alloc_new _ _, Nat.le_refl _, by unfold maxLen; decide, by simp [h], by simp [← h]⟩⟩
def cat1 : GCatalog := ⟨0, 1, [], []⟩
def startS (s : Int) (r : GRoutes) : RootS := ⟨s, [cat1], r, 0, fun _ => none, []⟩
theorem nil_R {α : Type} {R : RD α} (w : World) (p : Nat → Prop) : rList R w p [.slice none 0 0] [] := ⟨none, 0, [], rfl, rfl, Lies.nil _ _ _, Nat.le_refl _, Nat.zero_le _, fun i c x h => by cases h⟩
set_option maxRecDepth 100000 in
set_option maxHeartbeats 1000000 in
theorem rootNew_c (b s : Int) (w : World) (hb : 1 ≤ b ∧ b ≤ 4) (hs : 1 ≤ s ∧ s ≤ 4) :
    Calls Tryz.prog 6 #[.int .i64 b, .int .i64 s] w fun e w' => ∃ g O, e = .returned (.tuple #[.pointer (some ⟨g, 0, none⟩), .int .i64 0]) ∧ IsRoot w' O g 0 (startS s ⟨0, b, [⟨b + 1, [120]⟩], 0, []⟩) ∧ (∀ b, O b → w.heap.size ≤ b) ∧ Keep Nix w w' := by
  have hN := New_c b s w
  rw [show newF b s = (⟨0, b, [⟨b + 1, [120]⟩], 0, []⟩, 0) by unfold newF; rw [if_pos ⟨hb.1, hb.2, hs.1, hs.2⟩]] at hN
  replace hN := Lib.hid hN
  obtain ⟨r, HR⟩ : ∃ r : GRoutes, Hid ((⟨0, b, [⟨b + 1, [120]⟩], 0, []⟩ : GRoutes) = r) := ⟨_, rfl⟩
  have hn1 : r.fSpans.length ≤ 30 := by rw [← HR.out]; show 1 ≤ 30; decide
  rw [HR.out] at hN ⊢
  have hmm := @run_makeMap Tryz.prog
  go_enter Tryz.func6, Tryz.ntmps6
  go_wp2_with fail
  go_fit hN.out
  rintro e w1 ⟨cs, rfl, hr, k1⟩
  have hr2 := hr
  obtain ⟨aS, cS, aU, cU, rfl, -⟩ := rGRoutes_open hr
  have hs1 := k1.size
  have row0 := RowIs.alloc w1 #[.int .i64 r.fEpoch, .int .i64 r.fBase, .slice aS r.fSpans.length cS, .int .i64 r.fMoving, .slice aU r.fCut.length cU] 53
  have x0 := row0.cell 0
  (try simp only [List.getElem?_cons_zero] at x0)
  have x1 := row0.cell 1
  (try simp only [List.getElem?_cons_succ] at x1); (try simp only [List.getElem?_cons_zero] at x1)
  have x2 := row0.cell 2
  (try simp only [List.getElem?_cons_succ] at x2); (try simp only [List.getElem?_cons_zero] at x2)
  have x3 := row0.cell 3
  (try simp only [List.getElem?_cons_succ] at x3); (try simp only [List.getElem?_cons_zero] at x3)
  have x4 := row0.cell 4
  (try simp only [List.getElem?_cons_succ] at x4); (try simp only [List.getElem?_cons_zero] at x4)
  have kB : Keep Nix (w1.alloc (.cells #[.int .i64 r.fEpoch, .int .i64 r.fBase, .slice aS r.fSpans.length cS, .int .i64 r.fMoving, .slice aU r.fCut.length cU] 53)) (((w1.alloc (.cells #[.int .i64 r.fEpoch, .int .i64 r.fBase, .slice aS r.fSpans.length cS, .int .i64 r.fMoving, .slice aU r.fCut.length cU] 53))).alloc (.cells #[.int .i64 0, .int .i64 1, .slice none 0 0, .slice none 0 0] 50)) := (Keep.refl Nix _).alloc _
  have rowB := row0.keep kB id
  have z0 := rowB.cell 0
  (try simp only [List.getElem?_cons_zero] at z0)
  have z1 := rowB.cell 1
  (try simp only [List.getElem?_cons_succ] at z1); (try simp only [List.getElem?_cons_zero] at z1)
  have z2 := rowB.cell 2
  (try simp only [List.getElem?_cons_succ] at z2); (try simp only [List.getElem?_cons_zero] at z2)
  have z3 := rowB.cell 3
  (try simp only [List.getElem?_cons_succ] at z3); (try simp only [List.getElem?_cons_zero] at z3)
  have z4 := rowB.cell 4
  (try simp only [List.getElem?_cons_succ] at z4); (try simp only [List.getElem?_cons_zero] at z4)
  clear hr row0 rowB kB
  go_wp2_with fail
  refine bodyPost_ret (results_tmp2 rfl _ _ _) rfl ?_
  have sA : Hid (((w1.alloc (.cells #[.int .i64 r.fEpoch, .int .i64 r.fBase, .slice aS r.fSpans.length cS, .int .i64 r.fMoving, .slice aU r.fCut.length cU] 53))).heap.size = w1.heap.size + 1) := by show _ = _; simp
  have sB : Hid (((((w1.alloc (.cells #[.int .i64 r.fEpoch, .int .i64 r.fBase, .slice aS r.fSpans.length cS, .int .i64 r.fMoving, .slice aU r.fCut.length cU] 53))).alloc (.cells #[.int .i64 0, .int .i64 1, .slice none 0 0, .slice none 0 0] 50))).heap.size = w1.heap.size + 1 + 1) := by show _ = _; simp
  have sC : Hid (((((((w1.alloc (.cells #[.int .i64 r.fEpoch, .int .i64 r.fBase, .slice aS r.fSpans.length cS, .int .i64 r.fMoving, .slice aU r.fCut.length cU] 53))).alloc (.cells #[.int .i64 0, .int .i64 1, .slice none 0 0, .slice none 0 0] 50))).alloc (.map #[] 0))).heap.size = w1.heap.size + 1 + 1 + 1) := by show _ = _; simp
  have sD : Hid (((((((((w1.alloc (.cells #[.int .i64 r.fEpoch, .int .i64 r.fBase, .slice aS r.fSpans.length cS, .int .i64 r.fMoving, .slice aU r.fCut.length cU] 53))).alloc (.cells #[.int .i64 0, .int .i64 1, .slice none 0 0, .slice none 0 0] 50))).alloc (.map #[] 0))).alloc (.cells #[.int .i64 s, .slice (some ⟨w1.heap.size + 1, 0, none⟩) 1 1, .int .i64 r.fEpoch, .int .i64 r.fBase, .slice aS r.fSpans.length cS, .int .i64 r.fMoving, .slice aU r.fCut.length cU, .int .u64 0, .map (some (w1.heap.size + 1 + 1)), .slice none 0 0] 79))).heap.size = w1.heap.size + 1 + 1 + 1 + 1) := by show _ = _; simp
  have kA : Keep Nix w1 (w1.alloc (.cells #[.int .i64 r.fEpoch, .int .i64 r.fBase, .slice aS r.fSpans.length cS, .int .i64 r.fMoving, .slice aU r.fCut.length cU] 53)) := (Keep.refl Nix w1).alloc _
  have kB : Keep Nix (w1.alloc (.cells #[.int .i64 r.fEpoch, .int .i64 r.fBase, .slice aS r.fSpans.length cS, .int .i64 r.fMoving, .slice aU r.fCut.length cU] 53)) (((w1.alloc (.cells #[.int .i64 r.fEpoch, .int .i64 r.fBase, .slice aS r.fSpans.length cS, .int .i64 r.fMoving, .slice aU r.fCut.length cU] 53))).alloc (.cells #[.int .i64 0, .int .i64 1, .slice none 0 0, .slice none 0 0] 50)) := (Keep.refl Nix _).alloc _
  have kC : Keep Nix (((w1.alloc (.cells #[.int .i64 r.fEpoch, .int .i64 r.fBase, .slice aS r.fSpans.length cS, .int .i64 r.fMoving, .slice aU r.fCut.length cU] 53))).alloc (.cells #[.int .i64 0, .int .i64 1, .slice none 0 0, .slice none 0 0] 50)) (((((w1.alloc (.cells #[.int .i64 r.fEpoch, .int .i64 r.fBase, .slice aS r.fSpans.length cS, .int .i64 r.fMoving, .slice aU r.fCut.length cU] 53))).alloc (.cells #[.int .i64 0, .int .i64 1, .slice none 0 0, .slice none 0 0] 50))).alloc (.map #[] 0)) := (Keep.refl Nix _).alloc _
  have kD : Keep Nix (((((w1.alloc (.cells #[.int .i64 r.fEpoch, .int .i64 r.fBase, .slice aS r.fSpans.length cS, .int .i64 r.fMoving, .slice aU r.fCut.length cU] 53))).alloc (.cells #[.int .i64 0, .int .i64 1, .slice none 0 0, .slice none 0 0] 50))).alloc (.map #[] 0)) (((((((w1.alloc (.cells #[.int .i64 r.fEpoch, .int .i64 r.fBase, .slice aS r.fSpans.length cS, .int .i64 r.fMoving, .slice aU r.fCut.length cU] 53))).alloc (.cells #[.int .i64 0, .int .i64 1, .slice none 0 0, .slice none 0 0] 50))).alloc (.map #[] 0))).alloc (.cells #[.int .i64 s, .slice (some ⟨w1.heap.size + 1, 0, none⟩) 1 1, .int .i64 r.fEpoch, .int .i64 r.fBase, .slice aS r.fSpans.length cS, .int .i64 r.fMoving, .slice aU r.fCut.length cU, .int .u64 0, .map (some (w1.heap.size + 1 + 1)), .slice none 0 0] 79)) := (Keep.refl Nix _).alloc _
  have k4 := ((kA.trans kB).trans kC).trans kD
  have rowX : RowIs (((((((w1.alloc (.cells #[.int .i64 r.fEpoch, .int .i64 r.fBase, .slice aS r.fSpans.length cS, .int .i64 r.fMoving, .slice aU r.fCut.length cU] 53))).alloc (.cells #[.int .i64 0, .int .i64 1, .slice none 0 0, .slice none 0 0] 50))).alloc (.map #[] 0))).alloc (.cells #[.int .i64 s, .slice (some ⟨w1.heap.size + 1, 0, none⟩) 1 1, .int .i64 r.fEpoch, .int .i64 r.fBase, .slice aS r.fSpans.length cS, .int .i64 r.fMoving, .slice aU r.fCut.length cU, .int .u64 0, .map (some (w1.heap.size + 1 + 1)), .slice none 0 0] 79)) (w1.heap.size + 1 + 1 + 1) 79 [.int .i64 s, .slice (some ⟨w1.heap.size + 1, 0, none⟩) 1 1, .int .i64 r.fEpoch, .int .i64 r.fBase, .slice aS r.fSpans.length cS, .int .i64 r.fMoving, .slice aU r.fCut.length cU, .int .u64 0, .map (some (w1.heap.size + 1 + 1)), .slice none 0 0] := by
    have h := RowIs.alloc (((((w1.alloc (.cells #[.int .i64 r.fEpoch, .int .i64 r.fBase, .slice aS r.fSpans.length cS, .int .i64 r.fMoving, .slice aU r.fCut.length cU] 53))).alloc (.cells #[.int .i64 0, .int .i64 1, .slice none 0 0, .slice none 0 0] 50))).alloc (.map #[] 0)) #[.int .i64 s, .slice (some ⟨w1.heap.size + 1, 0, none⟩) 1 1, .int .i64 r.fEpoch, .int .i64 r.fBase, .slice aS r.fSpans.length cS, .int .i64 r.fMoving, .slice aU r.fCut.length cU, .int .u64 0, .map (some (w1.heap.size + 1 + 1)), .slice none 0 0] 79
    rw [sC.out] at h
    exact h
  have own := owned_keep (own_one (w1.alloc (.cells #[.int .i64 r.fEpoch, .int .i64 r.fBase, .slice aS r.fSpans.length cS, .int .i64 r.fMoving, .slice aU r.fCut.length cU] 53)) 50 4 [.int .i64 0, .int .i64 1, .slice none 0 0, .slice none 0 0] rfl) (kC.trans kD) (fun _ _ h => h)
  rw [sA.out] at own
  have dec := (DecIs.made (((w1.alloc (.cells #[.int .i64 r.fEpoch, .int .i64 r.fBase, .slice aS r.fSpans.length cS, .int .i64 r.fMoving, .slice aU r.fCut.length cU] 53))).alloc (.cells #[.int .i64 0, .int .i64 1, .slice none 0 0, .slice none 0 0] 50))).keep kD id
  rw [sB.out] at dec
  have z1 := sD.out
  refine ⟨w1.heap.size + 1 + 1 + 1, fun b => w.heap.size ≤ b ∧ b < w1.heap.size + 1 + 1 + 1 + 1, rfl, ⟨fun b hb => by have := hb.2; omega, ⟨by omega, by omega⟩, ⟨by simp [startS], ⟨by simp [startS], by simp [startS]⟩, fun c hc => ?_, fun i c h => (by
    have hi : [cat1][i]? = some c := h
    match i, hi with
    | 0, hi => cases hi; rfl
    | i + 1, hi => simp at hi), hn1, ⟨by simp [startS], by simp [startS]⟩, fun k p h => by simp [startS] at h⟩, w1.heap.size + 1 + 1, some ⟨w1.heap.size + 1, 0, none⟩, 1, none, 0, aS, cS, aU, cU, [[.int .i64 0, .int .i64 1, .slice none 0 0, .slice none 0 0]], _, ⟨rowX, ⟨by omega, by omega⟩, by omega, fun b hb => ?_, fun b hb => (by cases hb), fun b hb h => (by cases h), own, ⟨rfl, fun i c x hc hx => ?_⟩, ?_, World.ownsRow_nil _ _ _ _, dec⟩⟩, fun b hb => hb.1, k1.trans k4⟩
  · have hc : c = cat1 := by simpa [startS] using hc
    subst hc
    exact ⟨⟨fun t h => (by cases h), fun t h => (by cases h), Nat.zero_le _, Nat.zero_le _⟩, by show (0 : Int) ≤ _; decide⟩
  · have hb : b = w1.heap.size + 1 := by
      have : (Value.slice (some ⟨w1.heap.size + 1, 0, none⟩) 1 1).ownBlock = some b := hb
      simpa [Value.ownBlock] using this.symm
    subst hb
    exact ⟨⟨by omega, by omega⟩, by omega, by omega⟩
  · match i, hc, hx with
    | 0, hc, hx =>
      have hc' : c = [.int .i64 0, .int .i64 1, .slice none 0 0, .slice none 0 0] := by simpa using hc.symm
      have hx' : x = cat1 := by simpa [startS] using hx.symm
      subst hc' hx'
      exact rGCatalog_mk _ _ (x := cat1) ⟨by show _ ≤ (0 : Int); decide, by show (0 : Int) ≤ _; decide⟩ ⟨by show _ ≤ (1 : Int); decide, by show (1 : Int) ≤ _; decide⟩ (nil_R _ _) (nil_R _ _)
    | i + 1, hc, hx => simp at hc
  · refine rGRoutes_lawful.mono (rGRoutes_lawful.nix hr2 k4) (fun b hb => ⟨⟨hb.1, by have := hb.2; omega⟩, by have := hb.2; omega, by have := hb.2; omega, fun h => ?_, fun h => (by cases h)⟩)
    have : (Value.slice (some ⟨w1.heap.size + 1, 0, none⟩) 1 1).ownBlock = some b := h
    have : w1.heap.size + 1 = b := by simpa [Value.ownBlock] using this
    have := hb.2
    omega
end Go.Proofs.YtibaehlfpgipfaaGreat
