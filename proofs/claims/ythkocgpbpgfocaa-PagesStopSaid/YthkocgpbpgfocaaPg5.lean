/- PAGES: how full the pages are: Sizes, Len; the first pair that is put. Printed by mac.py. -/
import Derived.Test.YthkocgpbpgfocaaPg4
namespace Go.Proofs.Ythkocgpbpgfocaa
open Go.RowKit Go.Shelf

def iL (l : List Nat) : List Value := l.map (fun n : Nat => .int .i64 (n : Int))
/-- A map whose pages have so many pairs. -/
def PagesAt (w : World) (bD : Nat) (lens : List Nat) : Prop := ∃ aP cP, RowIs w bD 65 [.slice aP lens.length cP] ∧ (lens ≠ [] → ∃ b o, aP = some ⟨b, o, none⟩ ∧ b < w.heap.size ∧ ∀ k (h : k < lens.length), ∃ a c, w.cell? ⟨b, o + k, none⟩ = some (.slice a lens[k] c))
theorem PagesAt.keep {w w' : World} {bD : Nat} {lens : List Nat} (h : PagesAt w bD lens) (k : Keep Nix w w') : PagesAt w' bD lens := by
  obtain ⟨aP, cP, r, hp⟩ := h
  refine ⟨aP, cP, r.keep k id, fun hl => ?_⟩
  obtain ⟨b, o, e, hb, hc⟩ := hp hl
  refine ⟨b, o, e, Nat.lt_of_lt_of_le hb k.size, fun j hj => ?_⟩
  obtain ⟨a, c, h⟩ := hc j hj
  exact ⟨a, c, (k.cell (p := ⟨b, o + j, none⟩) hb id).trans h⟩
theorem T_lint : SliceT Try.prog 60 3 1 8 := SliceT.mk' Try.underlying60 (z := .int .i64 0) (by kernel_rfl) rfl (by decide)
set_option maxRecDepth 100000 in
set_option maxHeartbeats 1000000 in
theorem sizes_c (bD : Nat) (lens : List Nat) (w : World) (hp : PagesAt w bD lens) (hn : lens.length ≤ 1000000) :
    Calls Try.prog 29 #[.pointer (some ⟨bD, 0, none⟩)] w fun e w' => ∃ a c, e = .returned (.slice a lens.length c) ∧ w'.ownsRow w.heap.size 3 1 (.slice a lens.length c) lens.length (iL lens) ∧ Keep Nix w w' := by
  obtain ⟨aP, cP, row, hc⟩ := hp
  have x0 := row.cell 0
  (try simp only [List.getElem?_cons_zero] at x0)
  have HC := Lib.hid hc
  clear hc row
  go_enter Try.func29, Try.ntmps29
  go_wp2_with fail
  clear x0
  go_loopw [3, 13] (fun l i wr => ∃ (k : Nat) (a : Option Addr) (cap : Nat), k ≤ lens.length ∧ i = .int .i64 k ∧ l = .slice a k cap ∧ wr.ownsRow w.heap.size 3 1 (.slice a k cap) k (iL (lens.take k)) ∧ Keep Nix w wr) (fun _ i _ => lens.length - (intOf i).toNat)
  case atStart => exact ⟨0, none, 0, by omega, rfl, rfl, World.ownsRow_nil _ _ _ _, Keep.refl _ _⟩
  case round =>
    obtain ⟨k, a, cap, hk, rfl, rfl, own, kk⟩ := hrel
    have hs := kk.size
    by_cases hlt : k < lens.length
    · have hi0 : (0 : Int) ≤ (k : Int) := by omega
      have hi1 : (k : Int) < (lens.length : Int) := by omega
      obtain ⟨b, o, rfl, hb, hc⟩ := HC.out (by intro e; rw [e] at hlt; simp at hlt)
      obtain ⟨a1, c1, h1⟩ := hc k hlt
      have y := (kk.cell (p := ⟨b, o + k, none⟩) hb id).trans h1
      have HT : Hid (iL (lens.take (k + 1)) = iL (lens.take k) ++ [.int .i64 (lens[k] : Int)]) := by show _ = _; rw [List.take_succ_eq_append_getElem hlt]; unfold iL; rw [List.map_append]; rfl
      clear hc h1
      generalize lens[k] = n at *
      go_wp2_with (at_builtin; refine wpl_append1 T_lint rfl (.tmp 17) (.tmp 20) rfl w.heap.size rfl own rfl rfl ?c1 ?c2 ?c3 hs ?_)
      case c1 => rfl
      case c2 => unfold maxLen; omega
      case c3 => omega
      intro a' cap' w6 own6 k6
      replace own6 : w6.ownsRow w.heap.size 3 1 (.slice a' (k + 1) cap') (k + 1) (iL (lens.take (k + 1))) := by rw [HT.out]; exact own6
      have hn6 : ∀ b, OwnB (.slice a k cap) b → w.heap.size ≤ b := fun b hb => (own.lt b hb).1
      replace kk := kk.then k6 (fun i hi hb => by have := hn6 _ hb; omega)
      clear own k6 y
      go_wp2_with fail
      go_roundw
      case rel => exact ⟨k + 1, a', cap', by omega, by go_num, by simp, own6, kk⟩
      case measure => simp [intOf]; omega
    · obtain rfl : k = lens.length := by omega
      have HL : Hid (lens.take lens.length = lens) := List.take_length
      rw [HL.out] at own
      go_wp2_with fail
      go_ret
      exact ⟨a, cap, rfl, own, kk⟩
theorem sum_take_succ {l : List Nat} {k : Nat} (h : k < l.length) : (l.take (k + 1)).sum = (l.take k).sum + l[k] := by
  rw [List.take_succ_eq_append_getElem h, List.sum_append]; simp
theorem sum_take_le (l : List Nat) (k : Nat) : (l.take k).sum ≤ l.sum := by
  conv => rhs; rw [← List.take_append_drop k l, List.sum_append]
  omega
set_option maxRecDepth 100000 in
set_option maxHeartbeats 1000000 in
theorem len_c (bD : Nat) (lens : List Nat) (w : World) (hp : PagesAt w bD lens) (hn : lens.length ≤ 1000000) (hs : lens.sum ≤ 1000000000) :
    Calls Try.prog 15 #[.pointer (some ⟨bD, 0, none⟩)] w fun e w' => e = .returned (.int .i64 (lens.sum : Int)) ∧ Keep Nix w w' := by
  obtain ⟨Y, HY⟩ : ∃ y, Hid (lens.sum = y) := ⟨_, rfl⟩
  rw [HY.out]
  go_enter Try.func15, Try.ntmps15
  go_wp2_with fail
  go_fit (sizes_c bD lens w hp hn)
  rintro e w1 ⟨a, c, rfl, own, kk⟩
  have hl := Lies.of_owned own
  have HS := Lib.hid hs
  clear own hs
  go_wp2_with fail
  go_loopw [3, 9] (fun s i wr => ∃ k : Nat, k ≤ lens.length ∧ i = .int .i64 k ∧ s = .int .i64 ((lens.take k).sum : Nat) ∧ w1 = wr) (fun _ i _ => lens.length - (intOf i).toNat)
  case atStart => exact ⟨0, by omega, rfl, by simp, rfl⟩
  case round =>
    obtain ⟨k, hk, rfl, rfl, rfl⟩ := hrel
    by_cases hlt : k < lens.length
    · have hi0 : (0 : Int) ≤ (k : Int) := by omega
      have hi1 : (k : Int) < (lens.length : Int) := by omega
      obtain ⟨b, o, rfl, -, hbl, hc⟩ := hl (by intro e; unfold iL at e; rw [List.map_eq_nil_iff] at e; rw [e] at hlt; simp at hlt)
      have xk := hc k (.int .i64 (lens[k] : Int)) (by simp [iL, hlt])
      have HT : Hid ((lens.take (k + 1)).sum = (lens.take k).sum + lens[k]) := sum_take_succ hlt
      have h3 := sum_take_le lens (k + 1)
      have h4 := HS.out
      have h5 := HT.out
      clear hc
      generalize lens[k] = n at *
      generalize (lens.take k).sum = s at *
      have hw : IntKind.i64.wrap ((s : Int) + (n : Int)) = (s : Int) + (n : Int) := by unfold IntKind.wrap; simp [IntKind.bits, IntKind.signed]; omega
      clear h3 h4 h5
      go_wp2_with fail
      go_roundw
      case rel => exact ⟨k + 1, by omega, by go_num, by rw [HT.out]; simp, trivial⟩
      case measure => simp [intOf]; omega
    · obtain rfl : k = lens.length := by omega
      have HL : Hid ((lens.take lens.length).sum = Y) := by show _ = _; rw [List.take_length]; exact HY.out
      rw [HL.out]
      go_wp2_with fail
      go_ret
      exact ⟨rfl, kk⟩
theorem find_empty (bD : Nat) (v : Value) (w : World) (row : RowIs w bD 65 [.slice none 0 0]) : Calls Try.prog 31 #[.pointer (some ⟨bD, 0, none⟩), v] w fun e w' => e = .returned (.tuple #[.int .i64 0, .int .i64 0, .bool false]) ∧ w = w' := by
  have x0 := row.cell 0
  (try simp only [List.getElem?_cons_zero] at x0)
  clear row
  go_enter Try.func31, Try.ntmps31
  go_wp2
  go_ret3
  exact ⟨rfl, rfl⟩
set_option maxRecDepth 100000 in
set_option maxHeartbeats 2000000 in
/-- The first pair that is put. -/
theorem put_first {p q : Nat → Prop} (bD : Nat) (aK aV : Option Addr) (cK cV : Nat) (lk lv : List UInt8) (z : Int) (w : World) (row : RowIs w bD 65 [.slice none 0 0]) (hk : Lies w p aK (lk.map bv)) (hv : Lies w q aV (lv.map bv)) (hk0 : lk ≠ []) (hk6 : lk.length ≤ 600) (hv1 : lv.length ≤ 1000) :
    Calls Try.prog 12 #[.pointer (some ⟨bD, 0, none⟩), .agg #[.slice aK lk.length cK, .slice aV lv.length cV, .int .i64 z]] w fun e w' => e = .returned (.int .i64 0) ∧ PagesAt w' bD [1] ∧ Keep (· = bD) w w' := by
  have rowP := RowIs.alloc w #[.slice aK lk.length cK, .slice aV lv.length cV, .int .i64 z] 29
  have k1 : Keep Nix w (w.alloc (.cells #[.slice aK lk.length cK, .slice aV lv.length cV, .int .i64 z] 29)) := (Keep.refl Nix w).alloc _
  have hbD : bD < w.heap.size := row.lt
  replace row := row.keep k1 id
  have x0 := rowP.cell 0
  (try simp only [List.getElem?_cons_zero] at x0)
  have x1 := rowP.cell 1
  (try simp only [List.getElem?_cons_succ] at x1); (try simp only [List.getElem?_cons_zero] at x1)
  have x2 := rowP.cell 2
  (try simp only [List.getElem?_cons_succ] at x2); (try simp only [List.getElem?_cons_zero] at x2)
  have hl0 : ((lk.length : Int) == 0) = false := by cases lk with
    | nil => exact absurd rfl hk0
    | cons _ _ => simp only [List.length_cons, beq_eq_false_iff_ne]; omega
  have hl6 : (lk.length : Int) ≤ 600 := by omega
  have hl1 : (lv.length : Int) ≤ 1000 := by omega
  have hcall := own_c aK aV cK cV lk lv z (w.alloc (.cells #[.slice aK lk.length cK, .slice aV lv.length cV, .int .i64 z] 29)) (hk.keep k1 (fun _ _ h => h)) (hv.keep k1 (fun _ _ h => h)) (by omega) (by omega)
  clear hk hv hk0
  go_enter Try.func12, Try.ntmps12
  go_wp2_with fail
  go_fit hcall
  clear hcall
  generalize hbp : w.heap.size = bp at *
  rintro e w2 ⟨a1, c1, a2, c2, rfl, -, -, -, k2⟩
  replace rowP := rowP.keep k2 id
  replace row := row.keep k2 id
  have kk : Keep Nix w w2 := k1.trans k2
  clear x0 x1 x2 k1 k2
  have x0 := rowP.cell 0
  (try simp only [List.getElem?_cons_zero] at x0)
  have x1 := rowP.cell 1
  (try simp only [List.getElem?_cons_succ] at x1); (try simp only [List.getElem?_cons_zero] at x1)
  have x2 := rowP.cell 2
  (try simp only [List.getElem?_cons_succ] at x2); (try simp only [List.getElem?_cons_zero] at x2)
  have f0 := rowP.frozen 0
  have f1 := rowP.frozen 1
  have f2 := rowP.frozen 2
  have kS : Keep (· = bp) w2 (((w2.setCell ⟨bp, 0, none⟩ (.slice a1 lk.length c1)).setCell ⟨bp, 1, none⟩ (.slice a2 lv.length c2)).setCell ⟨bp, 2, none⟩ (.int .i64 z)) := (((Keep.refl (· = bp) w2).setCell (p := ⟨bp, 0, none⟩) (fun _ => rfl) _).setCell (p := ⟨bp, 1, none⟩) (fun _ => rfl) _).setCell (p := ⟨bp, 2, none⟩) (fun _ => rfl) _
  have rowQ : RowIs (((w2.setCell ⟨bp, 0, none⟩ (.slice a1 lk.length c1)).setCell ⟨bp, 1, none⟩ (.slice a2 lv.length c2)).setCell ⟨bp, 2, none⟩ (.int .i64 z)) bp 29 [.slice a1 lk.length c1, .slice a2 lv.length c2, .int .i64 z] := ((rowP.set 0 _).set 1 _).set 2 _
  have rowD := row.keep kS (by omega)
  have kk3 := kk.then kS (fun i hi e => by omega)
  clear rowP row kS kk
  go_upto_region 8 with fail
  clear x0 x1 x2 f0 f1 f2
  generalize (((w2.setCell ⟨bp, 0, none⟩ (.slice a1 lk.length c1)).setCell ⟨bp, 1, none⟩ (.slice a2 lv.length c2)).setCell ⟨bp, 2, none⟩ (.int .i64 z)) = w3 at *
  have x0 := rowQ.cell 0
  (try simp only [List.getElem?_cons_zero] at x0)
  have x1 := rowQ.cell 1
  (try simp only [List.getElem?_cons_succ] at x1); (try simp only [List.getElem?_cons_zero] at x1)
  have x2 := rowQ.cell 2
  (try simp only [List.getElem?_cons_succ] at x2); (try simp only [List.getElem?_cons_zero] at x2)
  have d0 := rowD.cell 0
  (try simp only [List.getElem?_cons_zero] at d0)
  have df := rowD.frozen 0
  have hbD3 := rowD.lt
  have hbp3 := rowQ.lt
  have kE : Keep (· = bD) w3 (w3.setCell ⟨bD, 0, none⟩ (.slice (some ⟨w3.heap.size + 1, 0, none⟩) 1 1)) := (Keep.refl (· = bD) w3).setCell (p := ⟨bD, 0, none⟩) (fun _ => rfl) _
  have hszE : (w3.setCell ⟨bD, 0, none⟩ (.slice (some ⟨w3.heap.size + 1, 0, none⟩) 1 1)).heap.size = w3.heap.size := by simp
  have rowE : RowIs (w3.setCell ⟨bD, 0, none⟩ (.slice (some ⟨w3.heap.size + 1, 0, none⟩) 1 1)) bD 65 [.slice (some ⟨w3.heap.size + 1, 0, none⟩) 1 1] := rowD.set 0 _
  have hfe := find_empty bD (.slice a1 lk.length c1) w3 rowD
  clear rowD rowQ
  go_wp2_with fail
  go_fit hfe
  clear hfe
  rintro e w4 ⟨rfl, rfl⟩
  go_wp2_with fail
  go_ret
  have kA : Keep Nix (w3.setCell ⟨bD, 0, none⟩ (.slice (some ⟨w3.heap.size + 1, 0, none⟩) 1 1)) (((w3.setCell ⟨bD, 0, none⟩ (.slice (some ⟨w3.heap.size + 1, 0, none⟩) 1 1)).alloc (.cells #[.slice a1 lk.length c1, .slice a2 lv.length c2, .int .i64 z] 29)).alloc (.cells #[.slice (some ⟨w3.heap.size, 0, none⟩) 1 1] 22)) := ((Keep.refl Nix _).alloc _).alloc _
  refine ⟨rfl, ⟨_, 1, rowE.keep kA id, fun _ => ⟨w3.heap.size + 1, 0, rfl, by simp, fun k hk => ?_⟩⟩, (kk3.nix.trans kE).trans kA.nix⟩
  obtain rfl : k = 0 := by simp at hk; omega
  have r := RowIs.alloc ((w3.setCell ⟨bD, 0, none⟩ (.slice (some ⟨w3.heap.size + 1, 0, none⟩) 1 1)).alloc (.cells #[.slice a1 lk.length c1, .slice a2 lv.length c2, .int .i64 z] 29)) #[.slice (some ⟨w3.heap.size, 0, none⟩) 1 1] 22
  have hsz2 : ((w3.setCell ⟨bD, 0, none⟩ (.slice (some ⟨w3.heap.size + 1, 0, none⟩) 1 1)).alloc (.cells #[.slice a1 lk.length c1, .slice a2 lv.length c2, .int .i64 z] 29)).heap.size = w3.heap.size + 1 := by simp
  rw [hsz2] at r
  exact ⟨_, _, r.cell 0⟩
end Go.Proofs.Ythkocgpbpgfocaa
