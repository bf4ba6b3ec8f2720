/- PAGES: slices.Grow of nil, slices.Concat of two pages. Printed by mac.py. -/
import Derived.Test.YthkocgpbpgfocaaDelB
import Derived.Test.YthkocgpbpgfocaaPg9
namespace Go.Proofs.Ythkocgpbpgfocaa
open Go.RowKit

set_option maxRecDepth 100000 in
theorem grow_c (k : Nat) (h0 : 0 < k) (hk : k ≤ 1000000) (w : World) : Calls Try.prog 58 #[.slice none 0 0, .int .i64 k] w fun e w' => ∃ G, e = .returned (.slice (some ⟨w.heap.size, 0, none⟩) 0 G) ∧ w'.ownsRow w.heap.size 29 3 (.slice (some ⟨w.heap.size, 0, none⟩) 0 G) 0 [] ∧ Keep Nix w w' := by
  obtain ⟨i, z, hi, hz, hsz, hby, hzs⟩ := T_lPair.info
  obtain ⟨G, Z, hG, hG2, hZ, hrz⟩ : ∃ (G : Nat) (Z : List Value), k ≤ G ∧ G ≤ 9223372036854775807 ∧ Z.length = G * 3 ∧ ∀ ty, (Builtin.append_ #[22, 3] ty #[.slice none 0 0, .int .i64 (k : Int)]).run Try.prog w = .ok (.slice (some ⟨w.heap.size, 0, none⟩) k G) (w.drew.alloc (.cells Z.toArray 29)) := by
    refine ⟨grownCap w (0 + k) 0 29, (Builtin.zeroCells z.cells k ++ Builtin.zeroCells z.cells (grownCap w (0 + k) 0 29 - (0 + k))).toList, ?_, ?_, ?_, fun ty => ?_⟩
    · have := grownCap_ge w (0 + k) 0 29; omega
    · have := grownCap_le_maxLen w (0 + k) 0 29 (by unfold maxLen; omega)
      unfold maxLen at this
      omega
    · have := grownCap_ge w (0 + k) 0 29
      simp [Builtin.zeroCells, hzs]
      simp at this
      omega
    · have h := Lib.run_append_grow_zeros w 22 3 ty 29 i z .i64 .i64 T_lPair.under Try.underlying3 hi hz none 0 0 [] (by simp [Builtin.firstCells]) k h0 (by rw [hsz]; omega) (by omega) (by omega) (by rw [hby]; omega) (by rw [hby]; exact growslice_fits (by omega) (by omega))
      rw [show 0 + k = k by omega] at h ⊢
      rw [h]
      congr 3
      simp
  have kk : Keep Nix w (w.drew.alloc (.cells Z.toArray 29)) := ((Keep.refl Nix w).drew).alloc _
  have row : RowIs (w.drew.alloc (.cells Z.toArray 29)) w.heap.size 29 ([] ++ Z) := by
    have h := RowIs.alloc w.drew Z.toArray 29
    exact h
  have own : Hid ((w.drew.alloc (.cells Z.toArray 29)).ownsRow w.heap.size 29 3 (.slice (some ⟨w.heap.size, 0, none⟩) 0 G) 0 []) := row_own row (Nat.le_refl _) (by simpa using hZ) rfl (by omega) (by unfold maxLen; exact hG2)
  have hk0 : (0 : Int) < (k : Int) := by omega
  have hkn : ¬ (k : Int) < 0 := by omega
  have hkG : (k : Int) ≤ (G : Int) := by omega
  clear hi hz hsz hby hzs row hZ
  go_enter Try.func58, Try.ntmps58
  go_wp2_with (at_builtin; refine Lib.wpList_append_run _ rfl _ _ _ _ rfl _ _ rfl rfl _ _ (hrz _) ?_)
  go_ret
  exact ⟨G, rfl, own.out, kk⟩
theorem Lies.lt {w : World} {p : Nat → Prop} {a : Option Addr} {xs : List Value} (h : Lies w p a xs) : Lies w (fun b => b < w.heap.size) a xs := fun hx => by
  obtain ⟨b, off, h1, -, h3, h4⟩ := h hx
  exact ⟨b, off, h1, h3, h3, h4⟩
def ConR (w : World) (n : Nat) (zs : List Value) (e : Ending) (w' : World) : Prop := ∃ a' c', e = .returned (.slice a' n c') ∧ w'.ownsRow w.heap.size 29 3 (.slice a' n c') n zs ∧ Keep Nix w w'
set_option maxRecDepth 100000 in
set_option maxHeartbeats 1000000 in
theorem concat_c {p q : Nat → Prop} (g c : Nat) (a1 a2 : Option Addr) (n1 n2 c1 c2 : Nat) (xs ys : List Value) (w : World) (row : RowIs w g 22 [.slice a1 n1 c1, .slice a2 n2 c2]) (hx : xs.length = n1 * 3) (hy : ys.length = n2 * 3) (lx : Lies w p a1 xs) (ly : Lies w q a2 ys) (ox : ∀ u ∈ xs, u.oneCell' = true) (oy : ∀ u ∈ ys, u.oneCell' = true) (h0 : 0 < n1 + n2) (hn : n1 + n2 ≤ 1000000) :
    Calls Try.prog 53 #[.slice (some ⟨g, 0, none⟩) 2 c] w (ConR w (n1 + n2) (xs ++ ys)) := by
  have HX := Lib.hid lx.lt
  have HY := Lib.hid ly.lt
  have HOX := Lib.hid ox
  have HOY := Lib.hid oy
  have g0 := row.cell 0
  (try simp only [List.getElem?_cons_zero] at g0)
  have g1 := row.cell 1
  (try simp only [List.getElem?_cons_succ] at g1); (try simp only [List.getElem?_cons_zero] at g1)
  have hw1 : IntKind.i64.wrap ((n1 : Int) + (n2 : Int)) = (n1 : Int) + (n2 : Int) := by rw [IntKind.wrap_i64]; omega
  have hp1 : ¬ (n1 : Int) < 0 := by omega
  have hp2 : ¬ (n1 : Int) + (n2 : Int) < 0 := by omega
  clear lx ly ox oy
  go_enter Try.func53, Try.ntmps53
  go_wp2_with fail
  refine wp_loop_rounds 3 ?_
  rw [rounds_succ]
  go_wp2_with fail
  rw [rounds_succ]
  go_wp2_with fail
  rw [rounds_succ]
  go_wp2_with fail
  have hG := grow_c (n1 + n2) h0 hn w
  rw [Int.natCast_add] at hG
  go_fit hG
  clear hG
  rintro e w1 ⟨G, rfl, own, k1⟩
  have hs1 := k1.size
  replace g0 := (k1.cell row.lt id).trans g0
  replace g1 := (k1.cell row.lt id).trans g1
  have HROW := Lib.hid (row.keep k1 id)
  replace HX := Lib.hid (HX.out.keep k1 (fun _ _ h => h))
  replace HY := Lib.hid (HY.out.keep k1 (fun _ _ h => h))
  have HLT := Lib.hid row.lt
  clear row
  generalize hgw : w.heap.size = gw at *
  go_wp2_with fail
  refine wp_loop_rounds 3 ?_
  rw [rounds_succ]
  go_wp2_with (at_builtin; refine wpl_append (m := n1) (c := c1) T_lPair ?hgd (.tmp 31) (.tmp 32) ?ho gw ?hs own xs ?hx ?c0 HX.out ?c1 ?c2 ?c3 ?c4 ?_)
  case hgd => rfl
  case ho => rfl
  case hs => rfl
  case hx => rfl
  case c0 => exact hx
  case c1 => exact HOX.out
  case c2 => unfold maxLen; omega
  case c3 => omega
  case c4 => omega
  intro a' cap' w2 own2 hg2
  have k2 : Keep (OwnB (.slice (some ⟨gw, 0, none⟩) 0 G)) w1 w2 := (Keep.refl _ w1).grown hg2 (fun _ h _ => h)
  clear g0 own hg2
  replace g1 := (HROW.out.keep k2 (fun h => by have e : some gw = some g := h; cases e; exact Nat.lt_irrefl _ HLT.out)).cell 1
  (try simp only [List.getElem?_cons_succ] at g1); (try simp only [List.getElem?_cons_zero] at g1)
  have HY2 := Lib.hid (HY.out.keep k2 (fun b hb h => by have e : some gw = some b := h; cases e; exact Nat.lt_irrefl _ hb))
  clear HY HX
  go_wp2_with fail
  rw [rounds_succ]
  go_wp2_with (at_builtin; refine wpl_append (m := n2) (c := c2) T_lPair ?hgd (.tmp 31) (.tmp 32) ?ho gw ?hs own2 ys ?hx ?c0 HY2.out ?c1 ?c2 ?c3 ?c4 ?_)
  case hgd => rfl
  case ho => rfl
  case hs => simp [Act.eval]
  case hx => rfl
  case c0 => exact hy
  case c1 => exact HOY.out
  case c2 => unfold maxLen; omega
  case c3 => omega
  case c4 => have := k2.size; omega
  intro a3 c3 w3 own3 hg3
  have k3 : Keep (OwnB (.slice a' n1 cap')) w2 w3 := (Keep.refl _ w2).grown hg3 (fun _ h _ => h)
  have hge : ∀ b, OwnB (.slice a' n1 cap') b → gw ≤ b := fun b hb => (own2.lt b hb).1
  have kk : Keep Nix w w3 := (k1.then k2 (fun i hi h => by have e : some gw = some i := h; cases e; omega)).then k3 (fun i hi h => by have := hge i h; omega)
  have HK := Lib.hid kk
  have HO := Lib.hid own3
  clear g1 kk k1 k2 k3 hg3 hge own2 own3 HY2 HROW
  go_wp2_with fail
  rw [rounds_succ]
  go_wp2_with fail
  go_ret
  unfold ConR
  rw [hgw]
  exact ⟨a3, c3, rfl, HO.out, HK.out⟩
end Go.Proofs.Ythkocgpbpgfocaa
