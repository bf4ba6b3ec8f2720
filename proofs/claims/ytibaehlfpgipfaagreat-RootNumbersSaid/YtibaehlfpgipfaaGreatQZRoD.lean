/- ROOT: other routes. Printed by mac.py. -/
import Derived.Test.YtibaehlfpgipfaaGreatQZRoZ
import Derived.Test.YtibaehlfpgipfaaGreatQZSchT
import Derived.Deep.MidRow
namespace Go.Proofs.YtibaehlfpgipfaaGreat
open Go.RowKit
theorem store_at {P : Program} {T n : Nat} (S : StructT P T n) {w : World} {b o : Nat} {cs : List Value} (hn : cs.length = n) (ht : w.there b o n) (h1 : ones cs = true) : (storeSem T (.pointer (some ⟨b, o, none⟩)) (.agg cs.toArray)).run P w = .ok .skip (w.setCells b o cs) := by
 have := run_storeAt_mid (P := P) w b o T cs.toArray (by simpa [hn] using ht) (by simpa [hn] using S.info) (by simpa [ones] using h1)
 unfold storeSem
 simp [this]
theorem RootAt.turnR {w wf : World} {O O' Pn : Nat → Prop} {g n : Nat} {R : RootS} {bM cC cO cS cU cS' cU' : Nat} {aC aO aS aU aS' aU' : Option Addr} {cssC : List (List Value)} {D : DataW Value} {r : GRoutes}
  (B : RootAt w O g n R bM aC cC aO cO aS cS aU cU cssC D) (og : O g) (hO : ∀ b, O b → O' b) (k : Keep (fun b => b = g ∨ ¬ O b) w wf)
  (row : RowIs wf g 79 [.int .i64 R.spare, .slice aC R.cats.length cC, .int .i64 r.fEpoch, .int .i64 r.fBase, .slice aS' r.fSpans.length cS', .int .i64 r.fMoving, .slice aU' r.fCut.length cU', .int .u64 R.begun, .map (some bM), .slice aO R.order.length cO])
  (hr : rGRoutes wf Pn [.int .i64 r.fEpoch, .int .i64 r.fBase, .slice aS' r.fSpans.length cS', .int .i64 r.fMoving, .slice aU' r.fCut.length cU'] r) (hPn : ∀ b, Pn b → ¬ O b ∧ O' b) :
  RootAt wf O' g n ⟨R.spare, R.cats, r, R.begun, R.dec, R.order⟩ bM aC cC aO cO aS' cS' aU' cU' cssC D := by
 have hk : ∀ b, O b → b ≠ g → ¬ (b = g ∨ ¬ O b) := fun b hb hg h => h.elim hg (fun h => h hb)
 have hdeep2 : ∀ b, Deep O g bM (.slice aC R.cats.length cC) (.slice aO R.order.length cO) b → Deep O' g bM (.slice aC R.cats.length cC) (.slice aO R.order.length cO) b := fun b hb => ⟨hO b hb.1, hb.2⟩
 exact ⟨row, hO _ B.oM, B.ne, fun b hb => ⟨hO b (B.oC b hb).1, (B.oC b hb).2⟩, fun b hb => ⟨hO b (B.oO b hb).1, (B.oO b hb).2⟩, B.co, owned_keep B.rowC k (fun b hb => hk b (B.oC b hb).1 (B.oC b hb).2.1), (B.els.keep rGCatalog_lawful k (fun b hb => hk b hb.1 hb.2.1)).mono rGCatalog_lawful hdeep2,
  rGRoutes_lawful.mono hr (fun b hb => ⟨(hPn b hb).2, fun e => (hPn b hb).1 (e ▸ og), fun e => (hPn b hb).1 (e ▸ B.oM), fun h => (hPn b hb).1 (B.oC b h).1, fun h => (hPn b hb).1 (B.oO b h).1⟩), owned_keep B.rowO k (fun b hb => hk b (B.oO b hb).1 (B.oO b hb).2.1), B.dec.keep k (hk bM B.oM B.ne)⟩
structure RtOk (r : GRoutes) : Prop where
 base : 1 ≤ r.fBase ∧ r.fBase ≤ 4
 nodup : (r.fSpans.map (·.fGroup)).Nodup
 rng : ∀ o ∈ r.fSpans, r.fBase < o.fGroup ∧ o.fGroup ≤ r.fBase + 4
 mov : r.fMoving ≠ 0 → ∃ k : Nat, placeI r.fMoving r.fSpans = (k : Int) ∧ k < r.fSpans.length
theorem few_ints : ∀ (n : Nat) (b : Int) (l : List Int), l.Nodup → (∀ x ∈ l, b < x ∧ x ≤ b + (n : Int)) → l.length ≤ n
 | 0, b, l, _, h => by
  cases l with
  | nil => simp
  | cons x l => have := h x (by simp); omega
 | n + 1, b, l, hl, h => by
  by_cases hm : b + ((n : Int) + 1) ∈ l
  ·have h1 := few_ints n b (l.erase (b + ((n : Int) + 1))) (hl.erase _) (fun x hx => by
    have h2 := (List.Nodup.mem_erase_iff hl).1 hx
    have h3 := h x h2.2
    exact ⟨h3.1, by have := h2.1; have := h3.2; push_cast at this; omega⟩)
   have h4 := List.length_erase_of_mem hm
   omega
  ·exact Nat.le_succ_of_le (few_ints n b l hl (fun x hx => by
    have h3 := h x hx
    have : x ≠ b + ((n : Int) + 1) := fun e => hm (e ▸ hx)
    exact ⟨h3.1, by have := h3.2; push_cast at this; omega⟩))
theorem RtOk.len {r : GRoutes} (h : RtOk r) : r.fSpans.length ≤ 4 := by
 have := few_ints 4 r.fBase (r.fSpans.map (·.fGroup)) h.nodup (fun x hx => by
  obtain ⟨o, ho, rfl⟩ := List.mem_map.1 hx
  exact h.rng o ho)
 simpa using this
end Go.Proofs.YtibaehlfpgipfaaGreat
