/- PAGES: the pairs of a span: in, own, list. Printed by mac.py. -/
import Derived.Test.YthkocgpbpgfocaaPgB
namespace Go.Proofs.Ythkocgpbpgfocaa
open Go.RowKit

def withinF (s : GSpan) (key : List UInt8) : Bool := !ltB key s.fFrom && (s.fTo.isEmpty || ltB key s.fTo)
def partF (s : GSpan) (l : List GPair) : List GPair := l.filter (fun x => withinF s x.fKey)
set_option maxRecDepth 100000 in
theorem in_c {p q : Nat → Prop} (s : GSpan) (css : List Value) (a : Option Addr) (cap : Nat) (l : List UInt8) (w : World) (hs : rGSpan w p css s) (hl : Lies w q a (l.map bv)) :
    Calls Try.prog 52 #[.agg css.toArray, .slice a l.length cap] w fun e w' => e = .returned (.bool (withinF s l)) ∧ Keep Nix w w' := by
  obtain ⟨sF, dF, sT, dT, rfl, h1, h2, -⟩ := rGSpan_open hs
  have kk : Keep Nix w (w.alloc (.cells #[.slice sF s.fFrom.length dF, .slice sT s.fTo.length dT] 37)) := (Keep.refl Nix w).alloc _
  have row0 : RowIs (w.alloc (.cells #[.slice sF s.fFrom.length dF, .slice sT s.fTo.length dT] 37)) w.heap.size 37 [.slice sF s.fFrom.length dF, .slice sT s.fTo.length dT] := RowIs.alloc w _ _
  have c1 := cmpB_c a sF l.length cap s.fFrom.length dF l s.fFrom _ rfl rfl (hl.keep kk (fun _ _ h => h)) (h1.1.keep kk (fun _ _ h => h))
  have c2 := cmpB_c a sT l.length cap s.fTo.length dT l s.fTo _ rfl rfl (hl.keep kk (fun _ _ h => h)) (h2.1.keep kk (fun _ _ h => h))
  have e1 : Hid (ltB l s.fFrom = decide (Lib.compareBytes l s.fFrom < 0)) := (cmp_lt _ _).symm
  have e2 : Hid (ltB l s.fTo = decide (Lib.compareBytes l s.fTo < 0)) := (cmp_lt _ _).symm
  generalize Lib.compareBytes l s.fFrom = m1 at *
  generalize Lib.compareBytes l s.fTo = m2 at *
  obtain ⟨y, HY⟩ : ∃ y, Hid (withinF s l = y) := ⟨_, rfl⟩
  rw [HY.out]
  have x0 := row0.cell 0
  (try simp only [List.getElem?_cons_zero] at x0)
  have x1 := row0.cell 1
  (try simp only [List.getElem?_cons_succ] at x1); (try simp only [List.getElem?_cons_zero] at x1)
  clear hs hl h1 h2 row0
  rcases Int.lt_or_le m1 0 with t | t
  · have e : Hid (y = false) := by show _ = _; rw [← HY.out, withinF, e1.out]; simp [t]
    have t2 : ¬ 0 ≤ m1 := by omega
    go_enter Try.func52, Try.ntmps52
    go_wp2_with fail
    go_fit c1
    rintro e w' ⟨rfl, rfl⟩
    go_wp2_with fail
    go_ret
    exact ⟨ret_bool e.out.symm, kk⟩
  · by_cases ht : s.fTo = []
    · have hn : ((s.fTo.length : Int) == 0) = true := by rw [ht]; rfl
      have e : Hid (y = true) := by show _ = _; rw [← HY.out, withinF, e1.out, ht]; simp [t]
      clear ht
      go_enter Try.func52, Try.ntmps52
      go_wp2_with fail
      go_fit c1
      rintro e w' ⟨rfl, rfl⟩
      go_wp2_with fail
      go_ret
      exact ⟨ret_bool e.out.symm, kk⟩
    · have hn : ((s.fTo.length : Int) == 0) = false := by
        have : s.fTo.length ≠ 0 := fun e => ht (List.eq_nil_of_length_eq_zero e)
        simp only [beq_eq_false_iff_ne]; omega
      have e : Hid (y = decide (m2 < 0)) := by
        show _ = _
        rw [← HY.out, withinF, e1.out, e2.out]
        have : s.fTo.isEmpty = false := by cases h : s.fTo with
          | nil => exact absurd h ht
          | cons _ _ => rfl
        rw [this]; simp [t]
      clear ht
      go_enter Try.func52, Try.ntmps52
      go_wp2_with fail
      go_fit c1
      rintro e w' ⟨rfl, rfl⟩
      go_wp2_with fail
      go_fit c2
      rintro e w' ⟨rfl, rfl⟩
      go_wp2_with fail
      go_ret
      exact ⟨ret_bool e.out.symm, kk⟩
def OwnP (w : World) (base : Nat) (cs : List Value) (x : GPair) : Prop := ∃ a1 c1 a2 c2, cs = [.slice a1 x.fKey.length c1, .slice a2 x.fValue.length c2, .int .i64 x.fVersion] ∧ w.ownsRow base 5 1 (.slice a1 x.fKey.length c1) x.fKey.length (x.fKey.map bv) ∧ w.ownsRow base 5 1 (.slice a2 x.fValue.length c2) x.fValue.length (x.fValue.map bv) ∧ (∀ b, OwnB (.slice a1 x.fKey.length c1) b → ¬ OwnB (.slice a2 x.fValue.length c2) b) ∧ isI64 x.fVersion ∧ x.fKey.length ≤ far ∧ x.fValue.length ≤ far
theorem OwnP.gp {w : World} {base : Nat} {cs : List Value} {x : GPair} (h : OwnP w base cs x) : rGPair w (fun b => base ≤ b ∧ b < w.heap.size) cs x := by
  obtain ⟨a1, c1, a2, c2, rfl, o1, o2, -, hv, f1, f2⟩ := h
  exact rGPair_mk w _ ⟨(Lies.of_owned o1).mono (fun b hb => ⟨hb.1, (o1.lt b hb.2).2⟩), (owned_bounds o1).2.1, f1⟩ ⟨(Lies.of_owned o2).mono (fun b hb => ⟨hb.1, (o2.lt b hb.2).2⟩), (owned_bounds o2).2.1, f2⟩ hv
theorem own_p {p : Nat → Prop} (x : GPair) (cs : List Value) (w : World) (hx : rGPair w p cs x) :
    Calls Try.prog 30 #[.agg cs.toArray] w fun e w' => ∃ cn, e = .returned (.agg cn.toArray) ∧ OwnP w' w.heap.size cn x ∧ Keep Nix w w' := by
  obtain ⟨aK, cK, aV, cV, rfl, hk, hv, hver, -⟩ := rGPair_open hx
  refine (own_c aK aV cK cV x.fKey x.fValue x.fVersion w hk.1 hv.1 (Nat.le_trans hk.2.2 (by decide)) (Nat.le_trans hv.2.2 (by decide))).mono ?_
  rintro e w' ⟨a1, c1, a2, c2, rfl, o1, o2, hd, kk⟩
  exact ⟨_, rfl, ⟨a1, c1, a2, c2, rfl, o1, o2, hd, hver, hk.2.2, hv.2.2⟩, kk⟩
theorem Els.push0 {α : Type} {R : RD α} {sz : Nat} {w wr w2 w3 : World} {css : List (List Value)} {xs : List α} {v v' : Value} {c : List Value} {x : α} (els : Els R wr (fun b => NewIn w wr b ∧ ¬ OwnB v b) css xs) (L : Lawful R sz) (hc : R w2 (NewIn wr w2) c x) (k2 : Keep Nix wr w2) (k3 : Keep (OwnB v) w2 w3) (hw : w.heap.size ≤ wr.heap.size)
    (hv : ∀ b, OwnB v b → b < wr.heap.size) (hn : ∀ b, OwnB v' b → OwnB v b ∨ w2.heap.size ≤ b) : Els R w3 (fun b => NewIn w w3 b ∧ ¬ OwnB v' b) (css ++ [c]) (xs ++ [x]) := by
  have s2 := k2.size
  have s3 := k3.size
  refine Els.snoc ?_ ?_
  · refine ((els.keep L k2 (fun _ _ h => h)).keep L k3 (fun b hb => hb.2)).mono L (fun b hb => ⟨⟨hb.1.1, by have := hb.1.2; omega⟩, fun h => ?_⟩)
    rcases hn b h with h | h
    · exact hb.2 h
    · have := hb.1.2; omega
  · refine L.mono (L.keep hc k3 (fun b hb h => by have := hv b h; have := hb.1; omega)) (fun b hb => ⟨⟨by have := hb.1; omega, by have := hb.2; omega⟩, fun h => ?_⟩)
    rcases hn b h with h | h
    · have := hv b h; have := hb.1; omega
    · have := hb.2; omega
def ListR (w : World) (l : List GPair) (e : Ending) (w' : World) : Prop := ∃ a c css, e = .returned (.slice a l.length c) ∧ w'.ownsRow w.heap.size 29 3 (.slice a l.length c) l.length css.flatten ∧ Els rGPair w' (fun b => NewIn w w' b ∧ ¬ OwnB (.slice a l.length c) b) css l ∧ Keep Nix w w'
theorem partF_snoc (s : GSpan) (A : List GPair) (x : GPair) : partF s (A ++ [x]) = if withinF s x.fKey = true then partF s A ++ [x] else partF s A := by
  unfold partF
  rw [List.filter_append]
  by_cases h : withinF s x.fKey = true
  · rw [if_pos h]; simp [h]
  · rw [if_neg h]; simp [h]
set_option maxRecDepth 100000 in
set_option maxHeartbeats 4000000 in
theorem list_c {p q : Nat → Prop} (g : Nat) (aP : Option Addr) (cP : Nat) (L : List (List GPair)) (s : GSpan) (csS : List Value) (w : World) (row : RowIs w g 65 [.slice aP L.length cP]) (hl : rPages w p [.slice aP L.length cP] L) (hs : rGSpan w q csS s) (hn : L.flatten.length ≤ 1000000) (hL : L.length ≤ 1000000) :
    Calls Try.prog 35 #[.pointer (some ⟨g, 0, none⟩), .agg csS.toArray] w (ListR w (partF s L.flatten)) := by
  have hs2 := hs
  obtain ⟨sF, dF, sT, dT, rfl, h1, h2, -⟩ := rGSpan_open hs
  have k0 : Keep Nix w (w.alloc (.cells #[.slice sF s.fFrom.length dF, .slice sT s.fTo.length dT] 37)) := (Keep.refl Nix w).alloc _
  have rowS := RowIs.alloc w #[.slice sF s.fFrom.length dF, .slice sT s.fTo.length dT] 37
  have x0 := (row.keep k0 id).cell 0
  (try simp only [List.getElem?_cons_zero] at x0)
  have HLL := Lib.hid hl
  have HSS := Lib.hid hs2
  have HLn := Lib.hid (rList_len hl)
  obtain ⟨y, HY⟩ : ∃ y, Hid (partF s L.flatten = y) := ⟨_, rfl⟩
  rw [HY.out]
  have u0 := rowS.cell 0
  (try simp only [List.getElem?_cons_zero] at u0)
  have u1 := rowS.cell 1
  (try simp only [List.getElem?_cons_succ] at u1); (try simp only [List.getElem?_cons_zero] at u1)
  clear hl hs hs2 h1 h2 row
  go_enter Try.func35, Try.ntmps35
  go_wp2_with fail
  go_loopw [5, 17] (fun l i wr => ∃ (k : Nat) (a : Option Addr) (c : Nat) (css : List (List Value)) (ys : List GPair), k ≤ L.length ∧ i = .int .i64 k ∧ l = .slice a ys.length c ∧ Hid (partF s (L.take k).flatten = ys) ∧ ys.length ≤ (L.take k).flatten.length ∧ wr.ownsRow (w.heap.size + 1) 29 3 (.slice a ys.length c) ys.length css.flatten ∧ Els rGPair wr (fun b => NewIn w wr b ∧ ¬ OwnB (.slice a ys.length c) b) css ys ∧ Keep Nix (w.alloc (.cells #[.slice sF s.fFrom.length dF, .slice sT s.fTo.length dT] 37)) wr) (fun _ i _ => L.length - (intOf i).toNat)
  case atStart => exact ⟨0, none, 0, [], [], by omega, rfl, rfl, rfl, by simp, World.ownsRow_nil _ _ _ _, Els.nil _ _ _, Keep.refl _ _⟩
  case round =>
    clear x0 u0 u1
    obtain ⟨k, a0, c0, css, ys, hk, rfl, rfl, HYS, hys, own, els, kk⟩ := hrel
    by_cases hlt : k < L.length
    · have hi0 : (0 : Int) ≤ (k : Int) := by omega
      have hi1 : (k : Int) < (L.length : Int) := by omega
      obtain ⟨b, o, _, cs, e1, -, hb, rP, hcl⟩ := rList_at (rList_lawful rGPair_lawful) (by decide) (rPages_lawful.nix HLL.out k0) k hlt
      simp only [List.cons.injEq, Value.slice.injEq, and_true] at e1
      obtain ⟨rfl, -, -⟩ := e1
      have HTK : Hid ((L.take (k + 1)).flatten = (L.take k).flatten ++ L[k]) := by show _ = _; rw [List.take_succ_eq_append_getElem hlt, List.flatten_append]; simp
      have HBN : Hid ((L.take k).flatten.length + L[k].length ≤ 1000000) := by
        show _ ≤ _
        have h := congrArg List.length HTK.out
        rw [List.length_append] at h
        have h2 : (L.take (k + 1)).flatten.length ≤ L.flatten.length := by
          conv => rhs; rw [← List.take_append_drop (k + 1) L, List.flatten_append, List.length_append]
          omega
        omega
      have hpn : L[k].length ≤ 1000000 := by have := HBN.out; omega
      generalize hA : (L.take k).flatten = A at *
      generalize L[k] = pg at *
      obtain ⟨aG, cG, _, rfl, -⟩ := id rP
      have y0 := hcl 0 _ rfl
      (try simp only [Nat.add_zero, Nat.mul_one] at y0)
      replace y0 := (kk.cell (p := ⟨b, o + k, none⟩) hb id).trans y0
      have HRP := Lib.hid rP
      clear hcl rP hA
      go_wp2_with fail
      clear y0
      go_loopw [5, 23] (fun l i wx => ∃ (j : Nat) (a : Option Addr) (c : Nat) (css : List (List Value)) (ys : List GPair), j ≤ pg.length ∧ i = .int .i64 j ∧ l = .slice a ys.length c ∧ Hid (partF s (A ++ pg.take j) = ys) ∧ ys.length ≤ A.length + j ∧ wx.ownsRow (w.heap.size + 1) 29 3 (.slice a ys.length c) ys.length css.flatten ∧ Els rGPair wx (fun b => NewIn w wx b ∧ ¬ OwnB (.slice a ys.length c) b) css ys ∧ Keep Nix (w.alloc (.cells #[.slice sF s.fFrom.length dF, .slice sT s.fTo.length dT] 37)) wx) (fun _ i _ => pg.length - (intOf i).toNat)
      case atStart => exact ⟨0, a0, c0, css, ys, by omega, rfl, rfl, by show _ = _; rw [List.take_zero, List.append_nil]; exact HYS.out, by omega, own, els, kk⟩
      case round =>
        clear own els kk HYS hys css
        obtain ⟨j, a1, c1, css, zs, hj, rfl, rfl, HZS, hzs, own, els, kk⟩ := hrel
        have hsk := kk.size
        have hs0 := k0.size
        by_cases hjt : j < pg.length
        · have hj0 : (0 : Int) ≤ (j : Int) := by omega
          have hj1 : (j : Int) < (pg.length : Int) := by omega
          obtain ⟨bq, oq, _, cx, e2, -, hbq, rx, hcx⟩ := rList_at rGPair_lawful (by decide) ((rList_lawful rGPair_lawful).nix HRP.out kk) j hjt
          simp only [List.cons.injEq, Value.slice.injEq, and_true] at e2
          obtain ⟨rfl, -, -⟩ := e2
          have HT2 : Hid (A ++ pg.take (j + 1) = (A ++ pg.take j) ++ [pg[j]]) := by show _ = _; rw [List.take_succ_eq_append_getElem hjt, List.append_assoc]
          generalize pg[j] = x at rx HT2
          have rx2 := rx
          obtain ⟨aK, cK, aV, cV, rfl, hK, hV, hver, -⟩ := rGPair_open rx
          have x0 := hcx 0 _ rfl
          have x1 := hcx 1 _ rfl
          have x2 := hcx 2 _ rfl
          (try simp only [Nat.add_zero] at x0)
          have kA : Keep Nix wr (wr.alloc (.cells #[.slice aK x.fKey.length cK, .slice aV x.fValue.length cV, .int .i64 x.fVersion] 29)) := (Keep.refl Nix wr).alloc _
          have rowX := RowIs.alloc wr #[.slice aK x.fKey.length cK, .slice aV x.fValue.length cV, .int .i64 x.fVersion] 29
          have rowSx := rowS.keep (kk.trans kA) id
          have u0 := rowSx.cell 0
          (try simp only [List.getElem?_cons_zero] at u0)
          have u1 := rowSx.cell 1
          (try simp only [List.getElem?_cons_succ] at u1); (try simp only [List.getElem?_cons_zero] at u1)
          have z0 := rowX.cell 0
          (try simp only [List.getElem?_cons_zero] at z0)
          have z1 := rowX.cell 1
          (try simp only [List.getElem?_cons_succ] at z1); (try simp only [List.getElem?_cons_zero] at z1)
          have z2 := rowX.cell 2
          (try simp only [List.getElem?_cons_succ] at z2); (try simp only [List.getElem?_cons_zero] at z2)
          have hin := in_c s _ aK cK x.fKey (wr.alloc (.cells #[.slice aK x.fKey.length cK, .slice aV x.fValue.length cV, .int .i64 x.fVersion] 29)) (rGSpan_lawful.nix HSS.out ((k0.trans kk).trans kA)) (hK.1.keep kA (fun _ _ h => h))
          have HX := Lib.hid (rGPair_lawful.nix rx2 kA)
          clear hcx hK hV hver rx2 rx rowSx
          go_wp2_with fail
          go_fit hin
          rintro e w1 ⟨rfl, k1⟩
          have rowX1 := rowX.keep k1 id
          have hb1 := rowX.lt
          have hk1 := k1.size
          have hkA := kA.size
          have HX1 := Lib.hid (rGPair_lawful.nix HX.out k1)
          clear hin rowX u0 u1 z0 z1 z2 HX x0 x1 x2
          have z0 := rowX1.cell 0
          (try simp only [List.getElem?_cons_zero] at z0)
          have z1 := rowX1.cell 1
          (try simp only [List.getElem?_cons_succ] at z1); (try simp only [List.getElem?_cons_zero] at z1)
          have z2 := rowX1.cell 2
          (try simp only [List.getElem?_cons_succ] at z2); (try simp only [List.getElem?_cons_zero] at z2)
          have hsn := partF_snoc s (A ++ pg.take j) x
          rw [← HT2.out, HZS.out] at hsn
          generalize withinF s x.fKey = v at *
          cases v with
          | true =>
            have HP : Hid (partF s (A ++ pg.take (j + 1)) = zs ++ [x]) := by show _ = _; rw [hsn, if_pos rfl]
            clear hsn rowX1
            go_wp2_with fail
            go_fit (own_p x [.slice aK x.fKey.length cK, .slice aV x.fValue.length cV, .int .i64 x.fVersion] w1 HX1.out)
            rintro e w2 ⟨cn, rfl, ⟨a3, c3, a4, c4, rfl, o3, o4, hd, hv, f3, f4⟩, k2⟩
            have hO := OwnP.gp ⟨a3, c3, a4, c4, rfl, o3, o4, hd, hv, f3, f4⟩
            have hk2 := k2.size
            have hWS : ((w.alloc (.cells #[.slice sF s.fFrom.length dF, .slice sT s.fTo.length dT] 37))).heap.size = w.heap.size + 1 := by simp
            have own2 := owned_keep (owned_keep (owned_keep own kA (fun _ _ h => h)) k1 (fun _ _ h => h)) k2 (fun _ _ h => h)
            clear o3 o4 hd hv f3 f4 HX1 z0 z1 z2
            go_wp2_with (at_builtin; refine wpl_append1_at (c := 1) T_lPair ?hgd (.tmp 31) (.tmp 34) ?ho (w.heap.size + 1) ?hs own2 ?hx ?c0 ?c1 ?c2 ?c3 ?c4 ?_)
            case hgd => rfl
            case ho => rfl
            case hs => rfl
            case hx => rfl
            case c0 => rfl
            case c1 => simp [Value.oneCell']
            case c2 => unfold maxLen; have := HBN.out; omega
            case c3 => have := HBN.out; omega
            case c4 => omega
            intro a' cap' w6 own6 k6 hfresh
            have els2 := els.push0 rGPair_lawful (rGPair_lawful.mono hO (q := NewIn wr w2) (fun b hb => ⟨by have := hb.1; omega, hb.2⟩)) ((kA.trans k1).trans k2) k6 (by omega) (fun b hb => (own.lt b hb).2) hfresh
            have hn6 : ∀ b, OwnB (.slice a1 zs.length c1) b → w.heap.size + 1 ≤ b := fun b hb => (own.lt b hb).1
            have kk2 := (((kk.trans kA).trans k1).trans k2).then k6 (fun i hi hb => by have := hn6 _ hb; omega)
            clear own own2 els hfresh k6 k2 k1 kA kk hO
            go_wp2_with fail
            go_roundw
            case rel => exact ⟨j + 1, a', cap', css ++ [[.slice a3 x.fKey.length c3, .slice a4 x.fValue.length c4, .int .i64 x.fVersion]], zs ++ [x], by omega, by go_num, by simp, HP, by simp; omega, by simpa using own6, by simpa using els2, kk2⟩
            case measure => simp [intOf]; omega
          | false =>
            have HP : Hid (partF s (A ++ pg.take (j + 1)) = zs) := by show _ = _; rw [hsn, if_neg (by decide)]
            have own2 := owned_keep (owned_keep own kA (fun _ _ h => h)) k1 (fun _ _ h => h)
            have els2 := ((els.keep rGPair_lawful kA (fun _ _ h => h)).keep rGPair_lawful k1 (fun _ _ h => h)).mono (q := fun b => NewIn w w1 b ∧ ¬ OwnB (.slice a1 zs.length c1) b) rGPair_lawful (fun b hb => ⟨⟨hb.1.1, by have := hb.1.2; omega⟩, hb.2⟩)
            have kk2 := (kk.trans kA).trans k1
            clear hsn rowX1 own els k1 kA kk HX1 z0 z1 z2
            go_wp2_with fail
            go_roundw
            case rel => exact ⟨j + 1, a1, c1, css, zs, by omega, by go_num, rfl, HP, by omega, own2, els2, kk2⟩
            case measure => simp [intOf]; omega
        · obtain rfl : j = pg.length := by omega
          have HP : Hid (partF s (L.take (k + 1)).flatten = zs) := by show _ = _; rw [HTK.out, ← HZS.out, List.take_length]
          have HQ : Hid (zs.length ≤ (L.take (k + 1)).flatten.length) := by show _ ≤ _; rw [HTK.out, List.length_append]; omega
          go_wp2_with fail
          go_roundw
          case rel => exact ⟨k + 1, a1, c1, css, zs, by omega, by go_num, rfl, HP, HQ.out, own, els, kk⟩
          case measure => simp [intOf]; omega
    · obtain rfl : k = L.length := by omega
      have HP : Hid (y = ys) := by show _ = _; rw [← HY.out, ← HYS.out, List.take_length]
      have hsk := kk.size
      go_wp2_with fail
      go_ret
      rw [HP.out]
      exact ⟨a0, c0, css, rfl, own_from own (by omega), els, k0.trans kk⟩
end Go.Proofs.Ythkocgpbpgfocaa
