/- PAGES: the laws' own list: Within, Find, Cut, Part. Printed by mac.py. -/
import Derived.Test.YthkocgpbpgfocaaPgX0
import Derived.Test.YthkocgpbpgfocaaPgG
import Derived.Laws.Cover1
namespace Go.Proofs.Ythkocgpbpgfocaa
open Go.RowKit

theorem len0 {α : Type} {l : List α} (h : l = []) : ((l.length : Int) == 0) = true := by rw [h]; rfl
theorem len1 {α : Type} {l : List α} (h : l ≠ []) : ((l.length : Int) == 0) = false := by
  have : l.length ≠ 0 := fun e => h (List.eq_nil_of_length_eq_zero e)
  simp only [beq_eq_false_iff_ne]; omega
set_option maxRecDepth 100000 in
theorem within_c {p q : Nat → Prop} (s : GSpan) (css : List Value) (a : Option Addr) (cap : Nat) (l : List UInt8) (w : World) (hs : rGSpan w p css s) (hl : Lies w q a (l.map bv)) :
    Calls Try.prog 40 #[.agg css.toArray, .slice a l.length cap] w fun e w' => e = .returned (.bool (withinF s l)) ∧ Keep Nix w w' := by
  obtain ⟨sF, dF, sT, dT, rfl, h1, h2, -⟩ := rGSpan_open hs
  have kk : Keep Nix w (w.alloc (.cells #[.slice sF s.fFrom.length dF, .slice sT s.fTo.length dT] 37)) := (Keep.refl Nix w).alloc _
  have row0 : RowIs (w.alloc (.cells #[.slice sF s.fFrom.length dF, .slice sT s.fTo.length dT] 37)) w.heap.size 37 [.slice sF s.fFrom.length dF, .slice sT s.fTo.length dT] := RowIs.alloc w _ _
  have c0 := conv_bytes (P := Try.prog) Try.underlying27 Try.underlying5 Try.underlying9 (cap := cap) rfl (hl.keep kk (fun _ _ h => h))
  have c1 := conv_bytes (P := Try.prog) Try.underlying27 Try.underlying5 Try.underlying9 (cap := dF) rfl (h1.1.keep kk (fun _ _ h => h))
  have c2 := conv_bytes (P := Try.prog) Try.underlying27 Try.underlying5 Try.underlying9 (cap := dT) rfl (h2.1.keep kk (fun _ _ h => h))
  obtain ⟨y, HY⟩ : ∃ y, Hid (withinF s l = y) := ⟨_, rfl⟩
  rw [HY.out]
  obtain ⟨v1, e1⟩ : ∃ v, ltB l s.fFrom = v := ⟨_, rfl⟩
  obtain ⟨v2, e2⟩ : ∃ v, ltB l s.fTo = v := ⟨_, rfl⟩
  have H1 := Lib.hid e1
  have H2 := Lib.hid e2
  have b1 : Op.bytesLess (strB l).toList (strB s.fFrom).toList = v1 := by rw [strB_toList, strB_toList]; exact e1
  have b2 : Op.bytesLess (strB l).toList (strB s.fTo).toList = v2 := by rw [strB_toList, strB_toList]; exact e2
  have x0 := row0.cell 0
  (try simp only [List.getElem?_cons_zero] at x0)
  have x1 := row0.cell 1
  (try simp only [List.getElem?_cons_succ] at x1); (try simp only [List.getElem?_cons_zero] at x1)
  clear hs hl h1 h2 row0 e1 e2
  cases v1 with
  | true =>
    have e : Hid (y = false) := by show _ = _; rw [← HY.out, withinF, H1.out]; rfl
    go_enter Try.func40, Try.ntmps40
    go_wp2_with fail
    go_ret
    exact ⟨ret_bool e.out.symm, kk⟩
  | false =>
    by_cases ht : s.fTo = []
    · have hn := len0 ht
      have e : Hid (y = true) := by show _ = _; rw [← HY.out, withinF, H1.out, ht]; rfl
      clear ht
      go_enter Try.func40, Try.ntmps40
      go_wp2_with fail
      go_ret
      exact ⟨ret_bool e.out.symm, kk⟩
    · have hn := len1 ht
      have e : Hid (y = v2) := by
        show _ = _
        rw [← HY.out, withinF, H1.out, H2.out, show s.fTo.isEmpty = false from by simpa using ht]; rfl
      clear ht
      go_enter Try.func40, Try.ntmps40
      go_wp2_with fail
      go_ret
      exact ⟨ret_bool e.out.symm, kk⟩
theorem rGPair_lt {w : World} {p : Nat → Prop} {cs : List Value} {x : GPair} (h : rGPair w p cs x) : rGPair w (fun b => p b ∧ b < w.heap.size) cs x := by
  obtain ⟨aK, cK, aV, cV, rfl, hk, hv, hz, -⟩ := rGPair_open h
  have t : ∀ {a : Option Addr} {xs : List Value}, Lies w p a xs → Lies w (fun b => p b ∧ b < w.heap.size) a xs := fun h hx => by
    obtain ⟨b, o, h1, h2, h3, h4⟩ := h hx
    exact ⟨b, o, h1, ⟨h2, h3⟩, h3, h4⟩
  exact rGPair_mk w _ ⟨t hk.1, hk.2⟩ ⟨t hv.1, hv.2⟩ hz
/-- Pairs in a new row; what they lead to lies where it lay. -/
def ListS (w : World) (p : Nat → Prop) (l : List GPair) (e : Ending) (w' : World) : Prop := ∃ a c css, e = .returned (.slice a l.length c) ∧ w'.ownsRow w.heap.size 29 3 (.slice a l.length c) l.length css.flatten ∧ Els rGPair w' (fun b => p b ∧ b < w.heap.size) css l ∧ Keep Nix w w'
theorem ListS.list {w w' : World} {p : Nat → Prop} {l : List GPair} {a : Option Addr} {c : Nat} {css : List (List Value)} (own : w'.ownsRow w.heap.size 29 3 (.slice a l.length c) l.length css.flatten) (els : Els rGPair w' (fun b => p b ∧ b < w.heap.size) css l) (hf : l.length ≤ far) : rList rGPair w' (fun b => p b ∨ w.heap.size ≤ b) [.slice a l.length c] l :=
  ⟨a, c, css, rfl, els.1, (Lies.of_owned own).mono (fun _ hb => .inr hb.1), (owned_bounds own).2.1, hf, fun i d y hd hy => rGPair_lawful.mono (els.2 i d y hd hy) (fun _ hb => .inl hb.1)⟩
theorem cutK_snoc (A : List GPair) (x : GPair) (key : List UInt8) : cutK (A ++ [x]) key = if x.fKey = key then cutK A key else cutK A key ++ [x] := by
  unfold cutK
  rw [List.filter_append]
  by_cases h : x.fKey = key <;> simp [h]
set_option maxRecDepth 100000 in
set_option maxHeartbeats 1000000 in
theorem cut_c {p q : Nat → Prop} (l : List GPair) (key : List UInt8) (a : Option Addr) (c : Nat) (ak : Option Addr) (ck : Nat) (w : World) (hl : rList rGPair w p [.slice a l.length c] l) (hk : Lies w q ak (key.map bv)) (_hn : l.length ≤ 1000000) :
    Calls Try.prog 22 #[.slice a l.length c, .slice ak key.length ck] w (ListS w p (cutK l key)) := by
  have HLL := Lib.hid hl
  have HKK := Lib.hid hk
  clear hl hk
  go_enter Try.func22, Try.ntmps22
  go_wp2_with fail
  go_loopw [5, 6] (fun u i wr => ∃ (k : Nat) (a0 : Option Addr) (c0 : Nat) (css : List (List Value)) (ys : List GPair), k ≤ l.length ∧ u = .slice a0 ys.length c0 ∧ i = .int .i64 k ∧ Hid (cutK (l.take k) key = ys) ∧ ys.length ≤ k ∧ wr.ownsRow w.heap.size 29 3 (.slice a0 ys.length c0) ys.length css.flatten ∧ Els rGPair wr (fun b => p b ∧ b < w.heap.size) css ys ∧ Keep Nix w wr) (fun _ i _ => l.length - (intOf i).toNat)
  case atStart => exact ⟨0, none, 0, [], [], by omega, rfl, rfl, rfl, by simp, World.ownsRow_nil _ _ _ _, Els.nil _ _ _, Keep.refl _ _⟩
  case round =>
    obtain ⟨k, a0, c0, css, ys, hk, rfl, rfl, HYS, hys, own, els, kk⟩ := hrel
    by_cases hlt : k < l.length
    · have hi0 : (0 : Int) ≤ (k : Int) := by omega
      have hi1 : (k : Int) < (l.length : Int) := by omega
      obtain ⟨b, o, aK, cK, aV, cV, rfl, hbw, -, rx, x0, x1, x2⟩ := at_pair HLL.out k hlt
      replace x0 := (kk.cell (p := ⟨b, o + k * 3, none⟩) hbw id).trans x0
      replace x1 := (kk.cell (p := ⟨b, o + k * 3 + 1, none⟩) hbw id).trans x1
      replace x2 := (kk.cell (p := ⟨b, o + k * 3 + 2, none⟩) hbw id).trans x2
      replace rx := rGPair_lawful.nix (rGPair_lt rx) kk
      have hT : Hid (l.take (k + 1) = l.take k ++ [l[k]]) := List.take_succ_eq_append_getElem hlt
      obtain ⟨x, hx⟩ : ∃ x, l[k] = x := ⟨_, rfl⟩
      rw [hx] at rx x0 x1 x2 hT
      have HX := Lib.hid hx
      have HRX := Lib.hid rx
      have hKx : Lies wr (fun b => p b ∧ b < w.heap.size) aK (x.fKey.map bv) := by
        obtain ⟨_, _, _, _, e, h, -⟩ := rGPair_open rx
        simp only [List.cons.injEq, Value.slice.injEq, and_true, true_and] at e
        obtain ⟨⟨rfl, rfl⟩, -⟩ := e
        exact h.1
      clear hx rx
      have hB := bytes_c aK ak _ cK _ ck x.fKey key wr rfl rfl hKx (HKK.out.keep kk (fun _ _ h => h))
      clear hKx
      obtain ⟨v, hv⟩ : ∃ v, decide (x.fKey = key) = v := ⟨_, rfl⟩
      rw [hv] at hB
      have HV := Lib.hid hv
      clear hv
      go_wp2_with fail
      go_fit hB
      clear hB
      rintro e w5 ⟨rfl, rfl⟩
      cases v with
      | true =>
        have HP : Hid (cutK (l.take (k + 1)) key = ys) := by show _ = _; rw [hT.out, cutK_snoc, if_pos (of_decide_eq_true HV.out), HYS.out]
        clear x0 x1 x2 HRX
        go_wp2_with fail
        go_roundw
        case rel => exact ⟨k + 1, a0, c0, css, ys, by omega, rfl, by go_num, HP, by omega, own, els, kk⟩
        case measure => simp [intOf]; omega
      | false =>
        have HP : Hid (cutK (l.take (k + 1)) key = ys ++ [x]) := by show _ = _; rw [hT.out, cutK_snoc, if_neg (of_decide_eq_false HV.out), HYS.out]
        go_wp2_with (at_builtin; refine wpl_append1_at (c := 1) T_lPair ?hgd (.tmp 21) (.tmp 26) ?ho w.heap.size ?hs own ?hx ?c0 ?c1 ?c2 ?c3 ?c4 ?_)
        case hgd => rfl
        case ho => rfl
        case hs => rfl
        case hx => rfl
        case c0 => rfl
        case c1 => simp [Value.oneCell']
        case c2 => unfold maxLen; omega
        case c3 => omega
        case c4 => exact kk.size
        intro a' cap' w6 own6 k6 hfresh
        have hge : ∀ b, OwnB (.slice a0 ys.length c0) b → w.heap.size ≤ b := fun b hb => (own.lt b hb).1
        have els2 : Els rGPair w6 (fun b => p b ∧ b < w.heap.size) (css ++ [[.slice aK x.fKey.length cK, .slice aV x.fValue.length cV, .int .i64 x.fVersion]]) (ys ++ [x]) := Els.snoc (els.keep rGPair_lawful k6 (fun b hb h => by have := hge b h; have := hb.2; omega)) (rGPair_lawful.keep HRX.out k6 (fun b hb h => by have := hge b h; have := hb.2; omega))
        have kk2 := kk.then k6 (fun i hi hb => by have := hge _ hb; omega)
        clear own els hfresh k6 kk hge HRX
        go_wp2_with fail
        go_roundw
        case rel => exact ⟨k + 1, a', cap', css ++ [[.slice aK x.fKey.length cK, .slice aV x.fValue.length cV, .int .i64 x.fVersion]], ys ++ [x], by omega, by simp, by go_num, HP, by simp; omega, by simpa using own6, els2, kk2⟩
        case measure => simp [intOf]; omega
    · obtain rfl : k = l.length := by omega
      have HP : Hid (cutK l key = ys) := by show _ = _; rw [← HYS.out, List.take_length]
      go_wp2_with fail
      go_ret
      rw [HP.out]
      exact ⟨a0, c0, css, rfl, own, els, kk⟩
set_option maxRecDepth 100000 in
set_option maxHeartbeats 1000000 in
theorem part_c {p q : Nat → Prop} (l : List GPair) (s : GSpan) (csS : List Value) (a : Option Addr) (c : Nat) (w : World) (hl : rList rGPair w p [.slice a l.length c] l) (hs : rGSpan w q csS s) (_hn : l.length ≤ 1000000) :
    Calls Try.prog 23 #[.slice a l.length c, .agg csS.toArray] w (ListS w p (partF s l)) := by
  have hs2 := hs
  obtain ⟨sF, dF, sT, dT, rfl, -⟩ := rGSpan_open hs
  have k0 : Keep Nix w (w.alloc (.cells #[.slice sF s.fFrom.length dF, .slice sT s.fTo.length dT] 37)) := (Keep.refl Nix w).alloc _
  have rowS := RowIs.alloc w #[.slice sF s.fFrom.length dF, .slice sT s.fTo.length dT] 37
  have hS0 : ((w.alloc (.cells #[.slice sF s.fFrom.length dF, .slice sT s.fTo.length dT] 37))).heap.size = w.heap.size + 1 := by simp
  have HLL := Lib.hid hl
  have HSS := Lib.hid hs2
  clear hl hs hs2
  go_enter Try.func23, Try.ntmps23
  go_wp2_with fail
  generalize hw0 : (w.alloc (.cells #[.slice sF s.fFrom.length dF, .slice sT s.fTo.length dT] 37)) = w0 at *
  go_loopw [5, 6] (fun u i wr => ∃ (k : Nat) (a0 : Option Addr) (c0 : Nat) (css : List (List Value)) (ys : List GPair), k ≤ l.length ∧ u = .slice a0 ys.length c0 ∧ i = .int .i64 k ∧ Hid (partF s (l.take k) = ys) ∧ ys.length ≤ k ∧ wr.ownsRow (w.heap.size + 1) 29 3 (.slice a0 ys.length c0) ys.length css.flatten ∧ Els rGPair wr (fun b => p b ∧ b < w.heap.size) css ys ∧ Keep Nix w0 wr) (fun _ i _ => l.length - (intOf i).toNat)
  case atStart => exact ⟨0, none, 0, [], [], by omega, rfl, rfl, rfl, by simp, World.ownsRow_nil _ _ _ _, Els.nil _ _ _, Keep.refl _ _⟩
  case round =>
    obtain ⟨k, a0, c0, css, ys, hk, rfl, rfl, HYS, hys, own, els, k1⟩ := hrel
    have kk := k0.trans k1
    by_cases hlt : k < l.length
    · have hi0 : (0 : Int) ≤ (k : Int) := by omega
      have hi1 : (k : Int) < (l.length : Int) := by omega
      obtain ⟨b, o, aK, cK, aV, cV, rfl, hbw, -, rx, x0, x1, x2⟩ := at_pair HLL.out k hlt
      replace x0 := (kk.cell (p := ⟨b, o + k * 3, none⟩) hbw id).trans x0
      replace x1 := (kk.cell (p := ⟨b, o + k * 3 + 1, none⟩) hbw id).trans x1
      replace x2 := (kk.cell (p := ⟨b, o + k * 3 + 2, none⟩) hbw id).trans x2
      replace rx := rGPair_lawful.nix (rGPair_lt rx) kk
      have hT : Hid (l.take (k + 1) = l.take k ++ [l[k]]) := List.take_succ_eq_append_getElem hlt
      obtain ⟨x, hx⟩ : ∃ x, l[k] = x := ⟨_, rfl⟩
      rw [hx] at rx x0 x1 x2 hT
      have HX := Lib.hid hx
      have HRX := Lib.hid rx
      have hKx : Lies wr (fun b => p b ∧ b < w.heap.size) aK (x.fKey.map bv) := by
        obtain ⟨_, _, _, _, e, h, -⟩ := rGPair_open rx
        simp only [List.cons.injEq, Value.slice.injEq, and_true, true_and] at e
        obtain ⟨⟨rfl, rfl⟩, -⟩ := e
        exact h.1
      clear hx rx
      have rowSx := rowS.keep k1 id
      have u0 := rowSx.cell 0
      (try simp only [List.getElem?_cons_zero] at u0)
      have u1 := rowSx.cell 1
      (try simp only [List.getElem?_cons_succ] at u1); (try simp only [List.getElem?_cons_zero] at u1)
      have hsx := rGSpan_lawful.nix HSS.out kk
      go_upto_region 5 with fail
      have kd : Keep Nix wr wr.drew := (Keep.refl Nix wr).drew
      refine wp_region_held_drew (S := (fun w' => w'.cell? ⟨w.heap.size, 0, none⟩ = some (.slice sF s.fFrom.length dF) ∧ w'.cell? ⟨w.heap.size, 1, none⟩ = some (.slice sT s.fTo.length dT) ∧ w'.cell? ⟨b, o + k * 3, none⟩ = some (.slice aK x.fKey.length cK))) (by kernel_rfl) (⟨u0, u1, x0⟩) (fun hHeld => ?_)
      have hbr : b < wr.heap.size := Nat.lt_of_lt_of_le hbw kk.size
      have hin := within_c s _ aK cK x.fKey wr.drew (rGSpan_lawful.nix hsx kd) (hKx.keep kd (fun _ _ h => h))
      have hsl := rowSx.lt
      replace x0 := (kd.cell (p := ⟨b, o + k * 3, none⟩) hbr id).trans x0
      replace x1 := (kd.cell (p := ⟨b, o + k * 3 + 1, none⟩) hbr id).trans x1
      replace x2 := (kd.cell (p := ⟨b, o + k * 3 + 2, none⟩) hbr id).trans x2
      replace hbr := Nat.lt_of_lt_of_le hbr kd.size
      replace kk := kk.trans kd
      replace k1 := k1.trans kd
      replace HRX := Lib.hid (rGPair_lawful.nix HRX.out kd)
      replace own := owned_keep own kd (fun _ _ h => h)
      replace els := els.keep rGPair_lawful kd (fun _ _ h => h)
      have hsl2 := Nat.lt_of_lt_of_le hsl kd.size
      clear kd hsx rowSx u0 u1 hKx
      generalize wr.drew = wd at *
      refine wpAnyH_take (i := 0) (v := ?_) rfl (by kernel_rfl) (by kernel_rfl) (by kernel_rfl) (fun _ _ _ h => h) (Or.inl ⟨by kernel_rfl, ?_⟩) hHeld ?_
      rotate_left
      · intro w' hSw
        (try dsimp only at hSw)
        (try simp only [List.getElem_toArray]); (try simp only [List.getElem_cons_succ]); (try simp only [List.getElem_cons_zero])
        go_simp
        try with_reducible rfl
      (try simp only [Act.put]); (try simp only [List.getElem_toArray]); (try simp only [List.getElem_cons_succ]); (try simp only [List.getElem_cons_zero]); (try simp only [List.setIfInBounds_toArray]); (try simp only [List.set_cons_succ]); (try simp only [List.set_cons_zero])
      refine wpAnyH_take (i := 1) (v := ?_) rfl (by kernel_rfl) (by kernel_rfl) (by kernel_rfl) (fun _ _ _ h => h) (Or.inl ⟨by kernel_rfl, ?_⟩) hHeld ?_
      rotate_left
      · intro w' hSw
        (try dsimp only at hSw)
        (try simp only [List.getElem_toArray]); (try simp only [List.getElem_cons_succ]); (try simp only [List.getElem_cons_zero])
        go_simp
        try with_reducible rfl
      (try simp only [Act.put]); (try simp only [List.getElem_toArray]); (try simp only [List.getElem_cons_succ]); (try simp only [List.getElem_cons_zero]); (try simp only [List.setIfInBounds_toArray]); (try simp only [List.set_cons_succ]); (try simp only [List.set_cons_zero])
      refine wpAnyH_take (i := 2) (v := ?_) rfl (by kernel_rfl) (by kernel_rfl) (by kernel_rfl) (fun _ _ _ h => h) (Or.inl ⟨by kernel_rfl, ?_⟩) hHeld ?_
      rotate_left
      · intro w' hSw
        (try dsimp only at hSw)
        (try simp only [List.getElem_toArray]); (try simp only [List.getElem_cons_succ]); (try simp only [List.getElem_cons_zero])
        go_simp
        try with_reducible rfl
      (try simp only [Act.put]); (try simp only [List.getElem_toArray]); (try simp only [List.getElem_cons_succ]); (try simp only [List.getElem_cons_zero]); (try simp only [List.setIfInBounds_toArray]); (try simp only [List.set_cons_succ]); (try simp only [List.set_cons_zero])
      refine wpAnyH_take (i := 3) (v := ?_) rfl (by kernel_rfl) (by kernel_rfl) (by kernel_rfl) (fun _ _ _ h => h) (Or.inl ⟨by kernel_rfl, ?_⟩) hHeld ?_
      rotate_left
      · intro w' hSw
        (try dsimp only at hSw)
        (try simp only [List.getElem_toArray]); (try simp only [List.getElem_cons_succ]); (try simp only [List.getElem_cons_zero])
        go_simp
        try with_reducible rfl
      (try simp only [Act.put]); (try simp only [List.getElem_toArray]); (try simp only [List.getElem_cons_succ]); (try simp only [List.getElem_cons_zero]); (try simp only [List.setIfInBounds_toArray]); (try simp only [List.set_cons_succ]); (try simp only [List.set_cons_zero])
      refine wpAnyH_take (i := 4) (v := ?_) rfl (by kernel_rfl) (by kernel_rfl) (by kernel_rfl) (fun _ _ _ h => h) (Or.inl ⟨by kernel_rfl, ?_⟩) hHeld ?_
      rotate_left
      · intro w' hSw
        (try dsimp only at hSw)
        (try simp only [List.getElem_toArray]); (try simp only [List.getElem_cons_succ]); (try simp only [List.getElem_cons_zero])
        go_simp
        try with_reducible rfl
      (try simp only [Act.put]); (try simp only [List.getElem_toArray]); (try simp only [List.getElem_cons_succ]); (try simp only [List.getElem_cons_zero]); (try simp only [List.setIfInBounds_toArray]); (try simp only [List.set_cons_succ]); (try simp only [List.set_cons_zero])
      refine wpAnyH_take (i := 5) (v := ?_) rfl (by kernel_rfl) (by kernel_rfl) (by kernel_rfl) (fun _ _ _ h => h) (Or.inl ⟨by kernel_rfl, ?_⟩) hHeld ?_
      rotate_left
      · intro w' hSw
        (try dsimp only at hSw)
        (try simp only [List.getElem_toArray]); (try simp only [List.getElem_cons_succ]); (try simp only [List.getElem_cons_zero])
        go_simp
        try with_reducible rfl
      (try simp only [Act.put]); (try simp only [List.getElem_toArray]); (try simp only [List.getElem_cons_succ]); (try simp only [List.getElem_cons_zero]); (try simp only [List.setIfInBounds_toArray]); (try simp only [List.set_cons_succ]); (try simp only [List.set_cons_zero])
      refine wpAnyH_ready (rs := [6]) (by kernel_rfl) (by simp) ?_
      refine AllReadyH.cons rfl (fun K hK => ?_) AllReadyH.nil
      go_simp
      go_fit hin
      clear hin
      rintro e w5 ⟨rfl, k5⟩
      go_wp2_with fail
      refine hK.out _ _ (⟨(k5.cell (p := ⟨w.heap.size, 0, none⟩) hsl2 id).trans hHeld.1, (k5.cell (p := ⟨w.heap.size, 1, none⟩) hsl2 id).trans hHeld.2.1, (k5.cell (p := ⟨b, o + k * 3, none⟩) hbr id).trans hHeld.2.2⟩) (fun hHeld => ?_)
      clear hK K
      (try simp only [Act.put]); (try simp only [List.getElem_toArray]); (try simp only [List.getElem_cons_succ]); (try simp only [List.getElem_cons_zero]); (try simp only [List.setIfInBounds_toArray]); (try simp only [List.set_cons_succ]); (try simp only [List.set_cons_zero])
      refine wpAnyH_done (by kernel_rfl) ?_ _
      clear hHeld
      replace x0 := (k5.cell (p := ⟨b, o + k * 3, none⟩) hbr id).trans x0
      replace x1 := (k5.cell (p := ⟨b, o + k * 3 + 1, none⟩) hbr id).trans x1
      replace x2 := (k5.cell (p := ⟨b, o + k * 3 + 2, none⟩) hbr id).trans x2
      replace hbr := Nat.lt_of_lt_of_le hbr k5.size
      replace kk := kk.trans k5
      replace k1 := k1.trans k5
      replace HRX := Lib.hid (rGPair_lawful.nix HRX.out k5)
      replace own := owned_keep own k5 (fun _ _ h => h)
      replace els := els.keep rGPair_lawful k5 (fun _ _ h => h)
      have hsn := partF_snoc s (l.take k) x
      rw [← hT.out, HYS.out] at hsn
      have hge0 := kk.size
      generalize withinF s x.fKey = v at *
      cases v with
      | true =>
        have HP : Hid (partF s (l.take (k + 1)) = ys ++ [x]) := by show _ = _; rw [hsn, if_pos rfl]
        clear hsn k5
        go_wp2_with (at_builtin; refine wpl_append1_at (c := 1) T_lPair ?hgd (.tmp 20) (.tmp 25) ?ho (w.heap.size + 1) ?hs own ?hx ?c0 ?c1 ?c2 ?c3 ?c4 ?_)
        case hgd => rfl
        case ho => rfl
        case hs => rfl
        case hx => rfl
        case c0 => rfl
        case c1 => simp [Value.oneCell']
        case c2 => unfold maxLen; omega
        case c3 => omega
        case c4 => have := k1.size; omega
        intro a' cap' w6 own6 k6 hfresh
        have hge : ∀ b, OwnB (.slice a0 ys.length c0) b → w.heap.size + 1 ≤ b := fun b hb => (own.lt b hb).1
        have els2 : Els rGPair w6 (fun b => p b ∧ b < w.heap.size) (css ++ [[.slice aK x.fKey.length cK, .slice aV x.fValue.length cV, .int .i64 x.fVersion]]) (ys ++ [x]) := Els.snoc (els.keep rGPair_lawful k6 (fun b hb h => by have := hge b h; have := hb.2; omega)) (rGPair_lawful.keep HRX.out k6 (fun b hb h => by have := hge b h; have := hb.2; omega))
        have k16 := k1.then k6 (fun i hi hb => by have := hge _ hb; omega)
        clear own els hfresh k6 kk hge HRX k1
        go_wp2_with fail
        go_roundw
        case rel => exact ⟨k + 1, a', cap', css ++ [[.slice aK x.fKey.length cK, .slice aV x.fValue.length cV, .int .i64 x.fVersion]], ys ++ [x], by omega, by simp, by go_num, HP, by simp; omega, by simpa using own6, els2, k16⟩
        case measure => simp [intOf]; omega
      | false =>
        have HP : Hid (partF s (l.take (k + 1)) = ys) := by show _ = _; rw [hsn, if_neg (by decide)]
        clear hsn k5 x0 x1 x2 HRX
        go_wp2_with fail
        go_roundw
        case rel => exact ⟨k + 1, a0, c0, css, ys, by omega, rfl, by go_num, HP, by omega, own, els, k1⟩
        case measure => simp [intOf]; omega
    · obtain rfl : k = l.length := by omega
      have HP : Hid (partF s l = ys) := by show _ = _; rw [← HYS.out, List.take_length]
      go_wp2_with fail
      go_ret
      rw [HP.out]
      exact ⟨a0, c0, css, rfl, own_from own (by omega), els, kk⟩
def findF (l : List GPair) (key : List UInt8) : GPair := (l.find? (fun y => decide (y.fKey = key))).getD ⟨[], [], 0⟩
def FoundP (w : World) (p : Nat → Prop) (l : List GPair) (key : List UInt8) (e : Ending) (w' : World) : Prop :=
  ∃ cs : List Value, e = .returned (.tuple #[.agg cs.toArray, .bool (hasK l key)]) ∧ rGPair w' p cs (findF l key) ∧ Keep Nix w w'
theorem found_none {l : List GPair} {key : List UInt8} (h : ∀ q (hq : q < l.length), l[q].fKey ≠ key) : hasK l key = false ∧ findF l key = ⟨[], [], 0⟩ := by
  have h2 : ∀ x ∈ l, x.fKey ≠ key := fun x hx => by
    obtain ⟨q, hq, rfl⟩ := List.mem_iff_getElem.1 hx
    exact h q hq
  refine ⟨hasK_none h2, ?_⟩
  unfold findF
  rw [List.find?_eq_none.2 (fun x hx => by simp [h2 x hx])]
  rfl
theorem found_some {l : List GPair} {key : List UInt8} {k : Nat} (hk : k < l.length) (h : ∀ q (hq : q < l.length), q < k → l[q].fKey ≠ key) (he : l[k].fKey = key) : hasK l key = true ∧ findF l key = l[k] := by
  refine ⟨by rw [← he]; exact hasK_some (List.getElem_mem hk), ?_⟩
  unfold findF
  rw [List.find?_eq_some_iff_getElem.2 ⟨by simp [he], k, hk, rfl, fun j hj => by simp [h j (by omega) hj]⟩]
  rfl
set_option maxRecDepth 100000 in
set_option maxHeartbeats 1000000 in
theorem find_s {p q : Nat → Prop} (l : List GPair) (key : List UInt8) (a : Option Addr) (c : Nat) (ak : Option Addr) (ck : Nat) (w : World) (hl : rList rGPair w p [.slice a l.length c] l) (hk : Lies w q ak (key.map bv)) (_hn : l.length ≤ 1000000) :
    Calls Try.prog 26 #[.slice a l.length c, .slice ak key.length ck] w (FoundP w p l key) := by
  have k0 : Keep Nix w (w.alloc (.cells #[.slice none 0 0, .slice none 0 0, .int .i64 0] 29)) := (Keep.refl Nix w).alloc _
  have rowZ := RowIs.alloc w #[.slice none 0 0, .slice none 0 0, .int .i64 0] 29
  have HLL := Lib.hid hl
  have HKK := Lib.hid hk
  have hz0 : Hid (∀ w, rGPair w p [.slice none 0 0, .slice none 0 0, .int .i64 0] ⟨[], [], 0⟩) := fun w => rGPair_mk (x := ⟨[], [], 0⟩) w p ⟨Lies.nil _ _ _, Nat.zero_le _, Nat.zero_le _⟩ ⟨Lies.nil _ _ _, Nat.zero_le _, Nat.zero_le _⟩ (show isI64 0 by unfold isI64; omega)
  have hinfo : (Try.prog.info? 29).map (·.size) = some 3 := by kernel_rfl
  clear hl hk
  go_enter Try.func26, Try.ntmps26
  go_wp2_with fail
  generalize hw0 : (w.alloc (.cells #[.slice none 0 0, .slice none 0 0, .int .i64 0] 29)) = w0 at *
  go_loopw [6] (fun i wr => ∃ k : Nat, k ≤ l.length ∧ i = .int .i64 k ∧ Hid (∀ q (hq : q < l.length), q < k → l[q].fKey ≠ key) ∧ Keep Nix w0 wr) (fun i _ => l.length - (intOf i).toNat)
  case atStart => exact ⟨0, by omega, rfl, fun q _ h => absurd h (Nat.not_lt_zero q), Keep.refl _ _⟩
  case round =>
    obtain ⟨k, hk, rfl, HNO, k1⟩ := hrel
    have kk := k0.trans k1
    by_cases hlt : k < l.length
    · have hi0 : (0 : Int) ≤ (k : Int) := by omega
      have hi1 : (k : Int) < (l.length : Int) := by omega
      obtain ⟨b, o, aK, cK, aV, cV, rfl, hbw, -, rx, x0, x1, x2⟩ := at_pair HLL.out k hlt
      replace x0 := (kk.cell (p := ⟨b, o + k * 3, none⟩) hbw id).trans x0
      replace x1 := (kk.cell (p := ⟨b, o + k * 3 + 1, none⟩) hbw id).trans x1
      replace x2 := (kk.cell (p := ⟨b, o + k * 3 + 2, none⟩) hbw id).trans x2
      replace rx := rGPair_lawful.nix (rGPair_lt rx) kk
      have hT : Hid (l.take (k + 1) = l.take k ++ [l[k]]) := List.take_succ_eq_append_getElem hlt
      obtain ⟨x, hx⟩ : ∃ x, l[k] = x := ⟨_, rfl⟩
      rw [hx] at rx x0 x1 x2 hT
      have HX := Lib.hid hx
      have HRX := Lib.hid rx
      have hKx : Lies wr (fun b => p b ∧ b < w.heap.size) aK (x.fKey.map bv) := by
        obtain ⟨_, _, _, _, e, h, -⟩ := rGPair_open rx
        simp only [List.cons.injEq, Value.slice.injEq, and_true, true_and] at e
        obtain ⟨⟨rfl, rfl⟩, -⟩ := e
        exact h.1
      clear hx rx
      have hB := bytes_c aK ak _ cK _ ck x.fKey key wr rfl rfl hKx (HKK.out.keep kk (fun _ _ h => h))
      clear hKx
      obtain ⟨v, hv⟩ : ∃ v, decide (x.fKey = key) = v := ⟨_, rfl⟩
      rw [hv] at hB
      have HV := Lib.hid hv
      clear hv
      have rowZ1 := rowZ.keep k1 id
      have z0 := rowZ1.cell 0
      (try simp only [List.getElem?_cons_zero] at z0)
      have z1 := rowZ1.cell 1
      (try simp only [List.getElem?_cons_succ] at z1); (try simp only [List.getElem?_cons_zero] at z1)
      have z2 := rowZ1.cell 2
      (try simp only [List.getElem?_cons_succ] at z2); (try simp only [List.getElem?_cons_zero] at z2)
      have zf0 := rowZ1.frozen 0
      have zf1 := rowZ1.frozen 1
      have zf2 := rowZ1.frozen 2
      go_wp2_with fail
      go_fit hB
      clear hB
      rintro e w5 ⟨rfl, rfl⟩
      cases v with
      | true =>
        have F := found_some hlt HNO.out (by rw [HX.out]; exact of_decide_eq_true HV.out)
        rw [HX.out] at F
        have HF := Lib.hid F
        clear F
        go_wp2_with fail
        have rowR : RowIs (((wr.setCell ⟨w.heap.size, 0, none⟩ (.slice aK x.fKey.length cK)).setCell ⟨w.heap.size, 1, none⟩ (.slice aV x.fValue.length cV)).setCell ⟨w.heap.size, 2, none⟩ (.int .i64 x.fVersion)) w.heap.size 29 [.slice aK x.fKey.length cK, .slice aV x.fValue.length cV, .int .i64 x.fVersion] := ((rowZ1.set 0 (.slice aK x.fKey.length cK)).set 1 (.slice aV x.fValue.length cV)).set 2 (.int .i64 x.fVersion)
        have kR : Keep (· = w.heap.size) wr (((wr.setCell ⟨w.heap.size, 0, none⟩ (.slice aK x.fKey.length cK)).setCell ⟨w.heap.size, 1, none⟩ (.slice aV x.fValue.length cV)).setCell ⟨w.heap.size, 2, none⟩ (.int .i64 x.fVersion)) := (((Keep.refl (· = w.heap.size) wr).setCell (p := ⟨w.heap.size, 0, none⟩) (fun _ => rfl) _).setCell (p := ⟨w.heap.size, 1, none⟩) (fun _ => rfl) _).setCell (p := ⟨w.heap.size, 2, none⟩) (fun _ => rfl) _
        refine bodyPost_ret (results_cell_row2 (by rfl) _ _ _ _ _ _ _ (by rfl) rowR Try.underlying29 (by rfl) hinfo) rfl ?_
        refine ⟨[.slice aK x.fKey.length cK, .slice aV x.fValue.length cV, .int .i64 x.fVersion], by rw [HF.out.1]; rfl, by rw [HF.out.2]; exact rGPair_lawful.mono (rGPair_lawful.keep HRX.out kR (fun b hb e => by have := hb.2; omega)) (fun _ hb => hb.1), kk.then kR (fun i hi e => by omega)⟩
      | false =>
        have HNO2 : Hid (∀ q (hq : q < l.length), q < k + 1 → l[q].fKey ≠ key) := fun q hq h => by
          by_cases e : q = k
          · subst e; rw [HX.out]; exact of_decide_eq_false HV.out
          · exact HNO.out q hq (by omega)
        clear x0 x1 x2 HRX z0 z1 z2 zf0 zf1 zf2
        go_wp2_with fail
        go_roundw
        case rel => exact ⟨k + 1, by omega, by go_num, HNO2, k1⟩
        case measure => simp [intOf]; omega
    · obtain rfl : k = l.length := by omega
      have F := found_none (l := l) (key := key) (fun q hq => HNO.out q hq hq)
      have HF := Lib.hid F
      clear F
      have rowZ1 := rowZ.keep k1 id
      have z0 := rowZ1.cell 0
      (try simp only [List.getElem?_cons_zero] at z0)
      have z1 := rowZ1.cell 1
      (try simp only [List.getElem?_cons_succ] at z1); (try simp only [List.getElem?_cons_zero] at z1)
      have z2 := rowZ1.cell 2
      (try simp only [List.getElem?_cons_succ] at z2); (try simp only [List.getElem?_cons_zero] at z2)
      have zf0 := rowZ1.frozen 0
      have zf1 := rowZ1.frozen 1
      have zf2 := rowZ1.frozen 2
      go_wp2_with fail
      have rowR : RowIs (((wr.setCell ⟨w.heap.size, 0, none⟩ (.slice none 0 0)).setCell ⟨w.heap.size, 1, none⟩ (.slice none 0 0)).setCell ⟨w.heap.size, 2, none⟩ (.int .i64 0)) w.heap.size 29 [.slice none 0 0, .slice none 0 0, .int .i64 0] := ((rowZ1.set 0 (.slice none 0 0)).set 1 (.slice none 0 0)).set 2 (.int .i64 0)
      have kR : Keep (· = w.heap.size) wr (((wr.setCell ⟨w.heap.size, 0, none⟩ (.slice none 0 0)).setCell ⟨w.heap.size, 1, none⟩ (.slice none 0 0)).setCell ⟨w.heap.size, 2, none⟩ (.int .i64 0)) := (((Keep.refl (· = w.heap.size) wr).setCell (p := ⟨w.heap.size, 0, none⟩) (fun _ => rfl) _).setCell (p := ⟨w.heap.size, 1, none⟩) (fun _ => rfl) _).setCell (p := ⟨w.heap.size, 2, none⟩) (fun _ => rfl) _
      refine bodyPost_ret (results_cell_row2 (by rfl) _ _ _ _ _ _ _ (by rfl) rowR Try.underlying29 (by rfl) hinfo) rfl ?_
      exact ⟨[.slice none 0 0, .slice none 0 0, .int .i64 0], by rw [HF.out.1]; rfl, by rw [HF.out.2]; exact hz0.out _, kk.then kR (fun i hi e => by omega)⟩
end Go.Proofs.Ythkocgpbpgfocaa
