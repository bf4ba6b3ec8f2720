/- ROOT: awake. Printed by mac.py. -/
import Derived.Test.YtibaehlfpgipfaaGreatQRoA
import Derived.Test.YtibaehlfpgipfaaGreatQMod
namespace Go.Proofs.YtibaehlfpgipfaaGreat
open Go.RowKit

def cmdV (k t n : Int) (f : Bool) (ti : Int) (tn : ByteArray) (aT : Option Addr) (nT cT : Nat) (aK : Option Addr) (nK cK : Nat) : List Value :=
  [.int .i64 k, .int .i64 0, .int .u64 t, .int .i64 n, .int .i64 0, .int .i64 0, .bool f, .slice none 0 0, .slice none 0 0, .slice none 0 0, .slice none 0 0, .slice none 0 0, .slice none 0 0, .int .i64 ti, .string tn, .slice aT nT cT, .slice aK nK cK, .int .i64 0, .int .i64 0, .string ⟨#[]⟩, .slice none 0 0, .bool false, .int .i64 0, .bool false, .string ⟨#[]⟩]
/-- A root that was made behind W. -/
structure IsAt (W w : World) (O : Nat → Prop) (g n : Nat) (R : RootS) : Prop where
  is : IsRoot w O g n R
  new : ∀ b, O b → W.heap.size ≤ b
  kept : Keep Nix W w
theorem IsAt.nix {W w w' : World} {O : Nat → Prop} {g n : Nat} {R : RootS} (h : IsAt W w O g n R) (k : Keep Nix w w') : IsAt W w' O g n R := ⟨h.is.nix k, h.new, h.kept.trans k⟩
theorem IsAt.run {W w w' : World} {O : Nat → Prop} {g n : Nat} {R : RootS} {y : GReply × RootS} {e : Ending} (h : IsAt W w O g n R) (post : RunPost w O g n y e w') : ∃ (cs : List Value) (O' : Nat → Prop), e = .returned (.agg cs.toArray) ∧ rGReply w' (fun b => w.heap.size ≤ b ∧ b < w'.heap.size ∧ ¬ O' b) cs y.1 ∧ IsAt W w' O' g (n + 1) y.2 ∧ Keep O w w' ∧ (∀ b, O' b → O b ∨ w.heap.size ≤ b) := by
  obtain ⟨cs, O', R', h1, h2, h3, h4, h5, h6, h7⟩ := post
  have hs := h.kept.size
  exact ⟨cs, O', h1, rGReply_lawful.mono h2 h3, ⟨h4, fun b hb => (h5 b hb).elim (h.new b) (fun h => by omega), h.kept.then h7 (fun i hi ho => by have := h.new i ho; omega)⟩, h7, h5⟩
theorem rep_cells {w : World} {p : Nat → Prop} {cs : List Value} {y : GReply} (h : rGReply w p cs y) : cs[0]? = some (.int .i64 y.fErr) ∧ cs[1]? = some (.int .u64 y.fTxn) ∧ cs[2]? = some (.int .i64 y.fN) := by
  obtain ⟨_, _, _, _, _, _, _, _, _, _, _, _, rfl, -⟩ := rGReply_open h
  exact ⟨rfl, rfl, rfl⟩
section
attribute [local go_sem ↓] stz_Reply
set_option maxRecDepth 100000 in
set_option maxHeartbeats 4000000 in
theorem roawake_c (W : World) : Calls Tryz.prog 7 #[] W fun e w' => e = .returned (.bool true) ∧ Keep Nix W w' := by
  have HN := Lib.hid (rootNew_c 1 1 W ⟨by decide, by decide⟩ ⟨by decide, by decide⟩)
  go_enter Tryz.func7, Tryz.ntmps7
  go_wp2_with fail
  go_fit HN.out
  rintro e w1 ⟨g, O, rfl, H1, hO1, k1⟩
  clear HN
  have A1 : IsAt W w1 O g 0 _ := ⟨H1, hO1, k1⟩
  clear H1 hO1 k1
  obtain ⟨r, hr⟩ : ∃ r : GRoutes, Hid ((⟨0, 1, [⟨1 + 1, [120]⟩], 0, []⟩ : GRoutes) = r) := ⟨_, rfl⟩
  rw [hr.out] at A1
  clear hr
  have HC := Lib.hid (run_begin O g 0 _ (cmdV 11 0 0 false 0 ⟨#[]⟩ none 0 0 none 0 0) w1 A1.is rfl (by show (0 : Int) ≤ _; decide))
  unfold cmdV at HC
  go_wp2_with fail
  go_fit HC.out
  rintro e w2 hpost
  obtain ⟨cs2, O2, rfl, hr2, A2, k2, ho2'⟩ := A1.run hpost
  clear hpost HC
  have hl2 := rGReply_lawful.len hr2
  have ho2 := rGReply_ones hr2
  obtain ⟨hst2, rowB2, kV2⟩ := boxed (P := Tryz.prog) (zs := [.int .i64 0, .int .u64 0, .int .i64 0, .bool false, .slice none 0 0, .slice none 0 0, .int .i64 0, .int .i64 0, .slice none 0 0, .slice none 0 0, .int .i64 0, .int .i64 0, .slice none 0 0, .int .i64 0, .slice none 0 0]) S_Reply w2 rfl hl2 ho2
  have c1 : ((w2.alloc (.cells [.int .i64 0, .int .u64 0, .int .i64 0, .bool false, .slice none 0 0, .slice none 0 0, .int .i64 0, .int .i64 0, .slice none 0 0, .slice none 0 0, .int .i64 0, .int .i64 0, .slice none 0 0, .int .i64 0, .slice none 0 0].toArray 55)).setRow w2.heap.size cs2.toArray).cell? ⟨w2.heap.size, 1, none⟩ = some (.int .u64 1) := (rowB2.cell 1).trans (rep_cells hr2).2.1
  have A3 := A2.nix kV2
  have hbo : Hid (∀ b, O2 b → b ≠ w2.heap.size) := fun b hb e => by have := A2.is.lt b hb; omega
  have ROW2 := Lib.hid rowB2
  have C1 := Lib.hid (rep_cells hr2).2.1
  have hd : Hid (decideF (bump (startS 1 r)) 1 (goodB (bump (startS 1 r)) 0 true) = (0, 1, (decideF (bump (startS 1 r)) 1 true).2.2)) := by show _ = _; rfl
  have HC := Lib.hid (run_decide O2 g 1 _ (cmdV 12 1 0 true 0 ⟨#[]⟩ none 0 0 none 0 0) 1 0 true _ A3.is rfl rfl rfl rfl (by decide) ⟨by decide, by decide⟩ (by show 0 ≤ _; decide))
  unfold cmdV at HC
  clear rowB2 hr2 kV2 A2 k2 ho2' hl2 ho2 c1
  go_wp2_with fail
  clear hst2
  go_fit HC.out
  rintro e w4 hpost
  obtain ⟨cs4, O4, rfl, hr4, A4, k4, -⟩ := A3.run hpost
  clear hpost HC
  have hl4 := rGReply_lawful.len hr4
  have ho4 := rGReply_ones hr4
  obtain ⟨hst4, rowB4, kV4⟩ := boxed (P := Tryz.prog) (zs := [.int .i64 0, .int .u64 0, .int .i64 0, .bool false, .slice none 0 0, .slice none 0 0, .int .i64 0, .int .i64 0, .slice none 0 0, .slice none 0 0, .int .i64 0, .int .i64 0, .slice none 0 0, .int .i64 0, .slice none 0 0]) S_Reply w4 rfl hl4 ho4
  have rowC := (ROW2.out.keep k4 (fun h => hbo.out _ h rfl)).keep kV4 id
  have z1 := (rowC.cell 1).trans C1.out
  have z0 := (rowB4.cell 0).trans (rep_cells hr4).1
  have z2 := (rowB4.cell 2).trans (rep_cells hr4).2.2
  replace z1 : ((w4.alloc (.cells [.int .i64 0, .int .u64 0, .int .i64 0, .bool false, .slice none 0 0, .slice none 0 0, .int .i64 0, .int .i64 0, .slice none 0 0, .slice none 0 0, .int .i64 0, .int .i64 0, .slice none 0 0, .int .i64 0, .slice none 0 0].toArray 55)).setRow w4.heap.size cs4.toArray).cell? ⟨w2.heap.size, 1, none⟩ = some (.int .u64 1) := z1
  replace z0 : ((w4.alloc (.cells [.int .i64 0, .int .u64 0, .int .i64 0, .bool false, .slice none 0 0, .slice none 0 0, .int .i64 0, .int .i64 0, .slice none 0 0, .slice none 0 0, .int .i64 0, .int .i64 0, .slice none 0 0, .int .i64 0, .slice none 0 0].toArray 55)).setRow w4.heap.size cs4.toArray).cell? ⟨w4.heap.size, 0, none⟩ = some (.int .i64 0) := by rw [z0]; show some (Value.int .i64 (decideF _ _ _).1) = _; rw [hd.out]
  replace z2 : ((w4.alloc (.cells [.int .i64 0, .int .u64 0, .int .i64 0, .bool false, .slice none 0 0, .slice none 0 0, .int .i64 0, .int .i64 0, .slice none 0 0, .slice none 0 0, .int .i64 0, .int .i64 0, .slice none 0 0, .int .i64 0, .slice none 0 0].toArray 55)).setRow w4.heap.size cs4.toArray).cell? ⟨w4.heap.size, 2, none⟩ = some (.int .i64 1) := by rw [z2]; show some (Value.int .i64 (decideF _ _ _).2.1) = _; rw [hd.out]
  have K := Lib.hid (A4.kept.trans kV4)
  clear rowB4 rowC hr4 A4 k4 kV4 A3 hl4 ho4
  go_wp2_with fail
  go_ret
  exact ⟨rfl, K.out⟩
end
end Go.Proofs.YtibaehlfpgipfaaGreat
