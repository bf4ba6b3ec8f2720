/- PAGES: Put, walked. Printed by genPgB.py and mac.py. -/
import Derived.Test.YthkocgpbpgfocaaPgA
import Derived.Test.YthkocgpbpgfocaaPgI
namespace Go.Proofs.Ythkocgpbpgfocaa
open Go.RowKit

theorem Els.lens3 {w : World} {B : Nat → Prop} {css : List (List Value)} {l : List GPair} (h : Els rGPair w B css l) : ∀ c ∈ css, c.length = 3 := by
  intro c hc
  obtain ⟨i, hi, rfl⟩ := List.mem_iff_getElem.1 hc
  have hx : i < l.length := by rw [← h.1]; exact hi
  exact rGPair_lawful.len (h.2 i _ _ (List.getElem?_eq_getElem hi) (List.getElem?_eq_getElem hx))
theorem ones3 {w : World} {B : Nat → Prop} {css : List (List Value)} {l : List GPair} (h : Els rGPair w B css l) : ∀ u ∈ css.flatten, u.oneCell' = true := by
  intro u hu
  obtain ⟨c, hc, hu⟩ := List.mem_flatten.1 hu
  obtain ⟨i, hi, rfl⟩ := List.mem_iff_getElem.1 hc
  obtain ⟨_, _, _, _, e, -⟩ := rGPair_open (h.2 i _ _ (List.getElem?_eq_getElem hi) (List.getElem?_eq_getElem (by rw [← h.1]; exact hi)))
  rw [e] at hu
  simp only [List.mem_cons, List.not_mem_nil, or_false] at hu
  rcases hu with rfl | rfl | rfl <;> rfl
theorem flat_take3 : ∀ {css : List (List Value)} (_ : ∀ c ∈ css, c.length = 3) (j : Nat), css.flatten.take (j * 3) = (css.take j).flatten
  | [], _, j => by simp
  | c :: css, h, 0 => by simp
  | c :: css, h, j + 1 => by
    have hc := h c (by simp)
    rw [List.take_succ_cons, List.flatten_cons, List.flatten_cons, List.take_append, ← flat_take3 (fun d hd => h d (by simp [hd])) j, hc, List.take_of_length_le (by omega)]
    congr 2
    omega
theorem flat_drop3 : ∀ {css : List (List Value)} (_ : ∀ c ∈ css, c.length = 3) (j : Nat), css.flatten.drop (j * 3) = (css.drop j).flatten
  | [], _, j => by simp
  | c :: css, h, 0 => by simp
  | c :: css, h, j + 1 => by
    have hc := h c (by simp)
    rw [List.drop_succ_cons, List.flatten_cons, List.drop_append, ← flat_drop3 (fun d hd => h d (by simp [hd])) j, hc, List.drop_eq_nil_of_le (by omega), List.nil_append]
    congr 1
    omega
theorem Els.insAt {w : World} {p : Nat → Prop} {css : List (List Value)} {xs : List GPair} (h : Els rGPair w p css xs) {c : List Value} {x : GPair} {j : Nat} (hc : rGPair w p c x) : Els rGPair w p (css.take j ++ c :: css.drop j) (insL xs j x) := by
  have hl := h.1
  unfold insL
  refine ⟨by simp [hl], fun i d y hd hy => ?_⟩
  have e1 : (css.take j).length = (xs.take j).length := by rw [List.length_take, List.length_take, hl]
  by_cases h1 : i < (css.take j).length
  · rw [List.getElem?_append_left h1] at hd
    rw [List.getElem?_append_left (by rw [← e1]; exact h1)] at hy
    rw [List.length_take] at h1
    rw [List.getElem?_take_of_lt (by omega)] at hd hy
    exact h.2 i d y hd hy
  · rw [List.getElem?_append_right (by omega)] at hd
    rw [List.getElem?_append_right (by rw [← e1]; omega), ← e1] at hy
    cases hq : i - (css.take j).length with
    | zero =>
      rw [hq] at hd hy
      simp only [List.getElem?_cons_zero, Option.some.injEq] at hd hy
      subst hd hy
      exact hc
    | succ q =>
      rw [hq] at hd hy
      simp only [List.getElem?_cons_succ, List.getElem?_drop] at hd hy
      exact h.2 (j + q) d y hd hy
theorem own_weak {w : World} {base e sz n : Nat} {v : Value} {xs : List Value} (h : w.ownsRow base e sz v n xs) : w.ownsRow 0 e sz v n xs :=
  ⟨h.1, h.2.imp id (fun ⟨g, cap, cur, a, _, c⟩ => ⟨g, cap, cur, a, Nat.zero_le _, c⟩)⟩
theorem Els.takeN {w : World} {p : Nat → Prop} {css : List (List Value)} {xs : List GPair} (h : Els rGPair w p css xs) (j : Nat) : Els rGPair w p (css.take j) (xs.take j) := by
  refine ⟨by rw [List.length_take, List.length_take, h.1], fun i c x hc hx => ?_⟩
  obtain ⟨hi, -⟩ := List.getElem?_eq_some_iff.1 hc
  rw [List.length_take] at hi
  rw [List.getElem?_take_of_lt (by omega)] at hc hx
  exact h.2 i c x hc hx
theorem Els.dropN {w : World} {p : Nat → Prop} {css : List (List Value)} {xs : List GPair} (h : Els rGPair w p css xs) (j : Nat) : Els rGPair w p (css.drop j) (xs.drop j) := by
  refine ⟨by rw [List.length_drop, List.length_drop, h.1], fun i c x hc hx => ?_⟩
  rw [List.getElem?_drop] at hc hx
  exact h.2 _ c x hc hx
theorem kk_alloc {w cur : World} (k : Keep Nix w cur) (cs : Array Value) (T : TypeId) : RowIs (cur.alloc (.cells cs T)) cur.heap.size T cs.toList ∧ Keep Nix w (cur.alloc (.cells cs T)) ∧ w.heap.size ≤ cur.heap.size ∧ cur.heap.size ≤ (cur.alloc (.cells cs T)).heap.size :=
  ⟨RowIs.alloc cur cs T, k.alloc _, k.size, by simp⟩
theorem MapIs.ones {w : World} {O B : Nat → Prop} {g : Nat} {aP : Option Addr} {cP : Nat} {S : List Value} {L : List (List GPair)} (M : MapIs w O B g aP cP S L) : ∀ u ∈ S, u.oneCell' = true := by
  intro u hu
  obtain ⟨j, hj, rfl⟩ := List.mem_iff_getElem.1 hu
  obtain ⟨_, a, c, css, e, -⟩ := M.pg j (by rw [← M.len]; exact hj)
  rw [e]; rfl
theorem Insert_iB (w : World) (base n c k b1 : Nat) (kI : Int) (a : Option Addr) (xs xc : List Value) (own : w.ownsRow base 22 1 (.slice a n c) n xs) (h0 : 0 < n) (ho : ∀ u ∈ xs, u.oneCell' = true) (rowX : RowIs w b1 22 xc) (hxc : xc.length = 1) (h1 : ∀ u ∈ xc, u.oneCell' = true) (hbg : ¬ OwnB (.slice a n c) b1) (hn : n ≤ 1000000) (hk : k ≤ n) (hb : base ≤ w.heap.size) (hI : kI = (k : Int)) :
    Calls Try.prog 34 #[.slice a n c, .int .i64 kI, .slice (some ⟨b1, 0, none⟩) 1 1] w (InsR 22 1 w base (.slice a n c) n (xs.take (k) ++ xc ++ xs.drop (k))) := by
  subst hI
  exact Insert_cB w base n c k b1 a xs xc own h0 ho rowX hxc h1 hbg hn hk hb
def PutPost (w : World) (O : Nat → Prop) (g : Nat) (L : List (List GPair)) (x : GPair) (e : Ending) (w' : World) : Prop :=
  e = .returned (.int .i64 (mayF x)) ∧ (mayF x ≠ 0 → Keep Nix w w') ∧ (mayF x = 0 → ∃ (i k : Nat) (is : Bool) (O' B' : Nat → Prop) (aP : Option Addr) (cP : Nat) (S : List Value), (0 < L.length → FindP L x.fKey i k is) ∧ MapIs w' O' B' g aP cP S (insF L i k is x) ∧ (∀ b, O' b → O b ∨ w.heap.size ≤ b) ∧ Keep O w w')
set_option maxRecDepth 100000 in
set_option maxHeartbeats 8000000 in
theorem put_c {p : Nat → Prop} (O B : Nat → Prop) (g : Nat) (aP : Option Addr) (cP : Nat) (S : List Value) (L : List (List GPair)) (x : GPair) (aK aV : Option Addr) (cK cV : Nat) (w : World) (M : MapIs w O B g aP cP S L) (ok : PagesOk L) (hr : RisingL L) (hL : L.length ≤ 100000) (hx : rGPair w p [.slice aK x.fKey.length cK, .slice aV x.fValue.length cV, .int .i64 x.fVersion] x) :
    Calls Try.prog 12 #[.pointer (some ⟨g, 0, none⟩), .agg #[.slice aK x.fKey.length cK, .slice aV x.fValue.length cV, .int .i64 x.fVersion]] w (PutPost w O g L x) := by
  obtain ⟨_, _, _, _, e0, hk, hv, hver, -⟩ := rGPair_open hx
  simp only [List.cons.injEq, Value.slice.injEq, and_true, true_and] at e0
  obtain ⟨⟨rfl, rfl⟩, rfl, rfl⟩ := e0
  have rowP := RowIs.alloc w #[.slice aK x.fKey.length cK, .slice aV x.fValue.length cV, .int .i64 x.fVersion] 29
  have k1 : Keep Nix w (w.alloc (.cells #[.slice aK x.fKey.length cK, .slice aV x.fValue.length cV, .int .i64 x.fVersion] 29)) := (Keep.refl Nix w).alloc _
  have hgw : g < w.heap.size := M.row.lt
  have x0 := rowP.cell 0
  (try simp only [List.getElem?_cons_zero] at x0)
  have x1 := rowP.cell 1
  (try simp only [List.getElem?_cons_succ] at x1); (try simp only [List.getElem?_cons_zero] at x1)
  have x2 := rowP.cell 2
  (try simp only [List.getElem?_cons_succ] at x2); (try simp only [List.getElem?_cons_zero] at x2)
  have HV := Lib.hid hver
  have HM := Lib.hid M
  have HR := Lib.hid hr
  have HOK := Lib.hid ok
  clear M hr ok hx hver
  have errs : ∀ c : Int, mayF x = c → c ≠ 0 → PutPost w O g L x (.returned (.int .i64 c)) (w.alloc (.cells #[.slice aK x.fKey.length cK, .slice aV x.fValue.length cV, .int .i64 x.fVersion] 29)) := fun c h1 h2 => ⟨by rw [h1], fun _ => k1, fun h => absurd (h1.symm.trans h) h2⟩
  have HER := Lib.hid errs
  clear errs
  by_cases hk0 : x.fKey = []
  · have hl0 : ((x.fKey.length : Int) == 0) = true := by rw [hk0]; rfl
    have hm : Hid (mayF x = 1) := by show _ = _; unfold mayF; rw [if_pos (.inl hk0)]
    clear hk0 hk hv k1 rowP
    go_enter Try.func12, Try.ntmps12
    go_wp2_with fail
    go_ret
    exact HER.out 1 hm.out (by decide)
  have hl0 : ((x.fKey.length : Int) == 0) = false := by
    have : x.fKey.length ≠ 0 := fun e => hk0 (List.eq_nil_of_length_eq_zero e)
    simp only [beq_eq_false_iff_ne]; omega
  rcases Int.lt_or_le 600 (x.fKey.length : Int) with hl6 | hl6
  · have hm : Hid (mayF x = 1) := by show _ = _; unfold mayF; rw [if_pos (.inr (by omega))]
    clear hk0 hk hv k1 rowP
    go_enter Try.func12, Try.ntmps12
    go_wp2_with fail
    go_ret
    exact HER.out 1 hm.out (by decide)
  rcases Int.lt_or_le 1000 (x.fValue.length : Int) with hl1 | hl1
  · have hm : Hid (mayF x = 10) := by show _ = _; unfold mayF; rw [if_neg (by rintro (h | h); exact hk0 h; omega), if_pos (by omega)]
    clear hk0 hk hv k1 rowP
    go_enter Try.func12, Try.ntmps12
    go_wp2_with fail
    go_ret
    exact HER.out 10 hm.out (by decide)
  have hm0 : Hid (mayF x = 0) := by show _ = _; unfold mayF; rw [if_neg (by rintro (h | h); exact hk0 h; omega), if_neg (by omega)]
  have hcall := own_c aK aV cK cV x.fKey x.fValue x.fVersion (w.alloc (.cells #[.slice aK x.fKey.length cK, .slice aV x.fValue.length cV, .int .i64 x.fVersion] 29)) (hk.1.keep k1 (fun _ _ h => h)) (hv.1.keep k1 (fun _ _ h => h)) (by omega) (by omega)
  clear hk hv hk0 HER
  go_enter Try.func12, Try.ntmps12
  go_wp2_with fail
  go_fit hcall
  clear hcall
  generalize hbp : w.heap.size = bp at *
  rintro e w2 ⟨a1, c1, a2, c2, rfl, own1, own2, -, k2⟩
  replace rowP := rowP.keep k2 id
  have kk : Keep Nix w w2 := k1.trans k2
  clear x0 x1 x2 k1
  have x0 := rowP.cell 0
  (try simp only [List.getElem?_cons_zero] at x0)
  have x1 := rowP.cell 1
  (try simp only [List.getElem?_cons_succ] at x1); (try simp only [List.getElem?_cons_zero] at x1)
  have x2 := rowP.cell 2
  (try simp only [List.getElem?_cons_succ] at x2); (try simp only [List.getElem?_cons_zero] at x2)
  have f0 := rowP.frozen 0
  have f1 := rowP.frozen 1
  have f2 := rowP.frozen 2
  have kS : Keep (· = bp) w2 (((w2.setCell ⟨bp, 0, none⟩ (.slice a1 x.fKey.length c1)).setCell ⟨bp, 1, none⟩ (.slice a2 x.fValue.length c2)).setCell ⟨bp, 2, none⟩ (.int .i64 x.fVersion)) := (((Keep.refl (· = bp) w2).setCell (p := ⟨bp, 0, none⟩) (fun _ => rfl) _).setCell (p := ⟨bp, 1, none⟩) (fun _ => rfl) _).setCell (p := ⟨bp, 2, none⟩) (fun _ => rfl) _
  have rowQ : RowIs (((w2.setCell ⟨bp, 0, none⟩ (.slice a1 x.fKey.length c1)).setCell ⟨bp, 1, none⟩ (.slice a2 x.fValue.length c2)).setCell ⟨bp, 2, none⟩ (.int .i64 x.fVersion)) bp 29 [.slice a1 x.fKey.length c1, .slice a2 x.fValue.length c2, .int .i64 x.fVersion] := ((rowP.set 0 _).set 1 _).set 2 _
  have kk3 := kk.then kS (fun i hi e => by omega)
  have hW0 : ((w.alloc (.cells #[.slice aK x.fKey.length cK, .slice aV x.fValue.length cV, .int .i64 x.fVersion] 29))).heap.size = bp + 1 := by simp [hbp]
  rw [hW0] at own1 own2
  have hs3 := kS.size
  have L1 : Lies (((w2.setCell ⟨bp, 0, none⟩ (.slice a1 x.fKey.length c1)).setCell ⟨bp, 1, none⟩ (.slice a2 x.fValue.length c2)).setCell ⟨bp, 2, none⟩ (.int .i64 x.fVersion)) (fun b => bp < b ∧ b < ((((w2.setCell ⟨bp, 0, none⟩ (.slice a1 x.fKey.length c1)).setCell ⟨bp, 1, none⟩ (.slice a2 x.fValue.length c2)).setCell ⟨bp, 2, none⟩ (.int .i64 x.fVersion))).heap.size) a1 (x.fKey.map bv) := ((Lies.of_owned own1).keep kS (fun b hb e => by have := hb.1; omega)).mono (fun b hb => ⟨by have := hb.1; omega, by have := (own1.lt b hb.2).2; omega⟩)
  have L2 : Lies (((w2.setCell ⟨bp, 0, none⟩ (.slice a1 x.fKey.length c1)).setCell ⟨bp, 1, none⟩ (.slice a2 x.fValue.length c2)).setCell ⟨bp, 2, none⟩ (.int .i64 x.fVersion)) (fun b => bp < b ∧ b < ((((w2.setCell ⟨bp, 0, none⟩ (.slice a1 x.fKey.length c1)).setCell ⟨bp, 1, none⟩ (.slice a2 x.fValue.length c2)).setCell ⟨bp, 2, none⟩ (.int .i64 x.fVersion))).heap.size) a2 (x.fValue.map bv) := ((Lies.of_owned own2).keep kS (fun b hb e => by have := hb.1; omega)).mono (fun b hb => ⟨by have := hb.1; omega, by have := (own2.lt b hb.2).2; omega⟩)
  have hc1 : x.fKey.length ≤ c1 := (owned_bounds own1).2.1
  have hc2 : x.fValue.length ≤ c2 := (owned_bounds own2).2.1
  have RX : rGPair (((w2.setCell ⟨bp, 0, none⟩ (.slice a1 x.fKey.length c1)).setCell ⟨bp, 1, none⟩ (.slice a2 x.fValue.length c2)).setCell ⟨bp, 2, none⟩ (.int .i64 x.fVersion)) (fun b => bp < b ∧ b < ((((w2.setCell ⟨bp, 0, none⟩ (.slice a1 x.fKey.length c1)).setCell ⟨bp, 1, none⟩ (.slice a2 x.fValue.length c2)).setCell ⟨bp, 2, none⟩ (.int .i64 x.fVersion))).heap.size) [.slice a1 x.fKey.length c1, .slice a2 x.fValue.length c2, .int .i64 x.fVersion] x := rGPair_mk _ _ ⟨L1, hc1, by unfold far; omega⟩ ⟨L2, hc2, by unfold far; omega⟩ HV.out
  have M3 := HM.out.keep kk3.nix (T := fun _ => False) (fun _ _ h => h)
  clear rowP kS kk own1 own2 L2 hc1 hc2 hW0 hs3 k2
  go_upto_region 8 with fail
  clear x0 x1 x2 f0 f1 f2
  generalize (((w2.setCell ⟨bp, 0, none⟩ (.slice a1 x.fKey.length c1)).setCell ⟨bp, 1, none⟩ (.slice a2 x.fValue.length c2)).setCell ⟨bp, 2, none⟩ (.int .i64 x.fVersion)) = w3 at *
  have x0 := rowQ.cell 0
  (try simp only [List.getElem?_cons_zero] at x0)
  rcases Nat.eq_zero_or_pos L.length with hL0 | hL0
  · obtain rfl : L = [] := List.eq_nil_of_length_eq_zero hL0
    have x1 := rowQ.cell 1
    (try simp only [List.getElem?_cons_succ] at x1); (try simp only [List.getElem?_cons_zero] at x1)
    have x2 := rowQ.cell 2
    (try simp only [List.getElem?_cons_succ] at x2); (try simp only [List.getElem?_cons_zero] at x2)
    have rowD : RowIs w3 g 65 [.slice aP 0 cP] := M3.row
    have hlt3 : ∀ b, O b → b < w.heap.size := HM.out.lt
    have HLT := Lib.hid hlt3
    have hOg : Hid (O g) := M3.og
    have d0 := rowD.cell 0
    (try simp only [List.getElem?_cons_zero] at d0)
    have df := rowD.frozen 0
    have hbD3 := rowD.lt
    have hbp3 := rowQ.lt
    have hfe := find_zero g cP aP (.slice a1 x.fKey.length c1) w3 rowD
    have kE : Keep (· = g) w3 (w3.setCell ⟨g, 0, none⟩ (.slice (some ⟨w3.heap.size + 1, 0, none⟩) 1 1)) := (Keep.refl (· = g) w3).setCell (p := ⟨g, 0, none⟩) (fun _ => rfl) _
    have rowE : RowIs (w3.setCell ⟨g, 0, none⟩ (.slice (some ⟨w3.heap.size + 1, 0, none⟩) 1 1)) g 65 [.slice (some ⟨w3.heap.size + 1, 0, none⟩) 1 1] := rowD.set 0 _
    clear rowD rowQ M3 hlt3
    go_wp2_with fail
    go_fit hfe
    clear hfe
    rintro e w4 ⟨rfl, rfl⟩
    go_wp2_with fail
    go_ret
    have hszE : ((w3.setCell ⟨g, 0, none⟩ (.slice (some ⟨w3.heap.size + 1, 0, none⟩) 1 1))).heap.size = w3.heap.size := by simp
    have kA : Keep Nix (w3.setCell ⟨g, 0, none⟩ (.slice (some ⟨w3.heap.size + 1, 0, none⟩) 1 1)) ((((w3.setCell ⟨g, 0, none⟩ (.slice (some ⟨w3.heap.size + 1, 0, none⟩) 1 1))).alloc (.cells #[.slice a1 x.fKey.length c1, .slice a2 x.fValue.length c2, .int .i64 x.fVersion] 29)).alloc (.cells #[.slice (some ⟨w3.heap.size, 0, none⟩) 1 1] 22)) := ((Keep.refl Nix _).alloc _).alloc _
    have rA : RowIs ((((w3.setCell ⟨g, 0, none⟩ (.slice (some ⟨w3.heap.size + 1, 0, none⟩) 1 1))).alloc (.cells #[.slice a1 x.fKey.length c1, .slice a2 x.fValue.length c2, .int .i64 x.fVersion] 29)).alloc (.cells #[.slice (some ⟨w3.heap.size, 0, none⟩) 1 1] 22)) w3.heap.size 29 [.slice a1 x.fKey.length c1, .slice a2 x.fValue.length c2, .int .i64 x.fVersion] := by
      have h := (RowIs.alloc (w3.setCell ⟨g, 0, none⟩ (.slice (some ⟨w3.heap.size + 1, 0, none⟩) 1 1)) #[.slice a1 x.fKey.length c1, .slice a2 x.fValue.length c2, .int .i64 x.fVersion] 29).keep ((Keep.refl Nix _).alloc (.cells #[.slice (some ⟨w3.heap.size, 0, none⟩) 1 1] 22)) id
      rw [hszE] at h
      exact h
    have hsz2 : (((w3.setCell ⟨g, 0, none⟩ (.slice (some ⟨w3.heap.size + 1, 0, none⟩) 1 1))).alloc (.cells #[.slice a1 x.fKey.length c1, .slice a2 x.fValue.length c2, .int .i64 x.fVersion] 29)).heap.size = w3.heap.size + 1 := by simp
    have rB : RowIs ((((w3.setCell ⟨g, 0, none⟩ (.slice (some ⟨w3.heap.size + 1, 0, none⟩) 1 1))).alloc (.cells #[.slice a1 x.fKey.length c1, .slice a2 x.fValue.length c2, .int .i64 x.fVersion] 29)).alloc (.cells #[.slice (some ⟨w3.heap.size, 0, none⟩) 1 1] 22)) (w3.heap.size + 1) 22 [.slice (some ⟨w3.heap.size, 0, none⟩) 1 1] := by
      have h := RowIs.alloc (((w3.setCell ⟨g, 0, none⟩ (.slice (some ⟨w3.heap.size + 1, 0, none⟩) 1 1))).alloc (.cells #[.slice a1 x.fKey.length c1, .slice a2 x.fValue.length c2, .int .i64 x.fVersion] 29)) #[.slice (some ⟨w3.heap.size, 0, none⟩) 1 1] 22
      rw [hsz2] at h
      exact h
    have hszF : (((((w3.setCell ⟨g, 0, none⟩ (.slice (some ⟨w3.heap.size + 1, 0, none⟩) 1 1))).alloc (.cells #[.slice a1 x.fKey.length c1, .slice a2 x.fValue.length c2, .int .i64 x.fVersion] 29)).alloc (.cells #[.slice (some ⟨w3.heap.size, 0, none⟩) 1 1] 22))).heap.size = w3.heap.size + 1 + 1 := by simp
    have RX2 := rGPair_lawful.nix (rGPair_lawful.keep RX kE (fun b hb e => by have := hb.1; have := HLT.out g hOg.out; omega)) kA
    have hw3 : w.heap.size ≤ w3.heap.size := kk3.size
    refine ⟨by rw [hm0.out]; rfl, fun h => absurd hm0.out h, fun _ => ⟨0, 0, false, fun b => O b ∨ (w.heap.size ≤ b ∧ b < (((((w3.setCell ⟨g, 0, none⟩ (.slice (some ⟨w3.heap.size + 1, 0, none⟩) 1 1))).alloc (.cells #[.slice a1 x.fKey.length c1, .slice a2 x.fValue.length c2, .int .i64 x.fVersion] 29)).alloc (.cells #[.slice (some ⟨w3.heap.size, 0, none⟩) 1 1] 22))).heap.size), fun b => bp < b ∧ b < w3.heap.size, some ⟨w3.heap.size + 1, 0, none⟩, 1, [.slice (some ⟨w3.heap.size, 0, none⟩) 1 1], fun h => absurd h (by simp), ?_, fun b hb => hb.imp id (·.1), (kk3.nix.trans (kE.mono (fun b hb => by rw [hb]; exact hOg.out))).trans kA.nix⟩⟩
    have hOB1 : ∀ b, OwnB (.slice (some ⟨w3.heap.size + 1, 0, none⟩) 1 1) b → b = w3.heap.size + 1 := fun b hb => by have e : some (w3.heap.size + 1) = some b := hb; cases e; rfl
    have hOB0 : ∀ b, OwnB (.slice (some ⟨w3.heap.size, 0, none⟩) 1 1) b → b = w3.heap.size := fun b hb => by have e : some w3.heap.size = some b := hb; cases e; rfl
    have hS1 : ∀ v ∈ [(Value.slice (some ⟨w3.heap.size, 0, none⟩) 1 1)], v = .slice (some ⟨w3.heap.size, 0, none⟩) 1 1 := fun v hv => by simpa using hv
    have hgg := HLT.out g hOg.out
    exact { row := rowE.keep kA id
            own := row_own (rest := []) rB (Nat.zero_le _) rfl rfl (Nat.le_refl _) (by decide)
            pg := fun j h => by
              obtain rfl : j = 0 := by have h : j < 1 := h; omega
              refine ⟨Nat.zero_lt_one, some ⟨w3.heap.size, 0, none⟩, 1, [[.slice a1 x.fKey.length c1, .slice a2 x.fValue.length c2, .int .i64 x.fVersion]], rfl, row_own (rest := []) rA (Nat.zero_le _) rfl rfl (Nat.le_refl _) (by decide), rfl, fun i c y hc hy => ?_⟩
              match i, hc, hy with
              | 0, hc, hy => cases hc; cases hy; exact RX2
            og := .inl hOg.out
            oP := fun b hb => by have := hOB1 b hb; subst this; exact ⟨.inr ⟨by omega, by omega⟩, by omega⟩
            oS := fun v hv b hb => by
              rw [hS1 v hv] at hb
              have := hOB0 b hb; subst this
              exact ⟨.inr ⟨by omega, by omega⟩, by omega, fun h => by have := hOB1 _ h; omega⟩
            oB := fun b hb => ⟨.inr ⟨by have := hb.1; omega, by have := hb.2; omega⟩, by have := hb.1; omega, fun h => by have := hOB1 b h; have := hb.2; omega, fun v hv h => by
              rw [hS1 v hv] at h
              have := hOB0 b h; have := hb.2; omega⟩
            ap := List.pairwise_singleton _ _
            lt := fun b hb => by
              rcases hb with h | h
              · have := HLT.out b h; omega
              · exact h.2 }
  have hfar : ∀ l ∈ L, l.length ≤ far := fun l hl => by have := (HOK.out.one l hl).2; unfold far; omega
  have hpgs := M3.pages (by unfold far; omega) hfar
  have hfc := find_c g aP a1 cP c1 L x.fKey w3 M3.row hpgs (fun l hl => (HOK.out.one l hl).1) HR.out hL0 L1
  have d0 := M3.row.cell 0
  (try simp only [List.getElem?_cons_zero] at d0)
  clear hpgs hfar L1
  go_wp2_with fail
  go_fit hfc
  clear hfc x0 d0
  rintro e w4 ⟨i, k, is, rfl, FP, k4⟩
  have HFP := Lib.hid FP
  have M4 := M3.keep k4.nix (T := fun _ => False) (fun _ _ h => h)
  replace RX := rGPair_lawful.nix RX k4
  replace rowQ := rowQ.keep k4 id
  have kk4 := kk3.trans k4
  have hw34 := k4.size
  have hi := FP.hi
  clear M3 FP kk3 k4
  obtain ⟨bP, restP, rfl, -, rowPg, hPl, -, -, hcP⟩ := own_row M4.own hL0
  obtain ⟨hiS, ai, ci, css, eS, ownI, elsI⟩ := M4.pg i hi
  have hli := HOK.out.one _ (List.getElem_mem hi)
  rw [eS] at ownI
  obtain ⟨bi, resti, rfl, -, rowI, hIl, hIx, hIc, hcI⟩ := own_row ownI hli.1
  have hSl := M4.len
  have hbPi : bP ≠ bi := fun e => (M4.oS _ (List.getElem_mem hiS) bi (by rw [eS]; rfl)).2.2 (by rw [← e]; rfl)
  have hgi : g ≠ bi := fun e => (M4.oS _ (List.getElem_mem hiS) bi (by rw [eS]; rfl)).2.1 e.symm
  have hgP : g ≠ bP := fun e => (M4.oP bP rfl).2 e.symm
  have hOi : O bi := (M4.oS _ (List.getElem_mem hiS) bi (by rw [eS]; rfl)).1
  have hOP : O bP := (M4.oP bP rfl).1
  have hltO := HM.out.lt
  have hbpi : bp ≠ bi := by have := hltO bi hOi; omega
  have hbpP : bp ≠ bP := by have := hltO bP hOP; omega
  have hii0 : (0 : Int) ≤ (i : Int) := by omega
  have hii1 : (i : Int) < (L.length : Int) := by omega
  have hcell : (S ++ restP)[i]? = some (.slice (some ⟨bi, 0, none⟩) L[i].length ci) := by rw [List.getElem?_append_left hiS, List.getElem?_eq_getElem hiS, eS]
  have hO : ∀ w', Keep (· = bi) w4 w' → (fun w' => w'.cell? ⟨g, 0, none⟩ = some (.slice (some ⟨bP, 0, none⟩) L.length cP) ∧ w'.cell? ⟨bP, i, none⟩ = some (.slice (some ⟨bi, 0, none⟩) L[i].length ci) ∧ w'.cell? ⟨bp, 0, none⟩ = some (.slice a1 x.fKey.length c1) ∧ w'.cell? ⟨bp, 1, none⟩ = some (.slice a2 x.fValue.length c2) ∧ w'.cell? ⟨bp, 2, none⟩ = some (.int .i64 x.fVersion)) w' := fun w' k' => ⟨(M4.row.keep k' hgi).cell 0, ((rowPg.keep k' hbPi).cell i).trans hcell, (rowQ.keep k' hbpi).cell 0, (rowQ.keep k' hbpi).cell 1, (rowQ.keep k' hbpi).cell 2⟩
  have HO := Lib.hid hO
  have HLT := Lib.hid hltO
  have HES := Lib.hid eS
  have HCE := Lib.hid hcell
  clear hO hltO eS hcell
  cases is with
  | true =>
    obtain ⟨hk, hkey⟩ := HFP.out.yes rfl
    have HKY := Lib.hid hkey
    have hki0 : (0 : Int) ≤ (k : Int) := by omega
    have hki1 : (k : Int) < (L[i].length : Int) := by omega
    clear hkey
    go_upto_region 10 with fail
    have kd : Keep (· = bi) w4 w4.drew := (Keep.refl _ w4).drew
    have rowId := rowI.keep ((Keep.refl Nix w4).drew) id
    refine wp_region_held_drew (S := (fun w' => w'.cell? ⟨g, 0, none⟩ = some (.slice (some ⟨bP, 0, none⟩) L.length cP) ∧ w'.cell? ⟨bP, i, none⟩ = some (.slice (some ⟨bi, 0, none⟩) L[i].length ci) ∧ w'.cell? ⟨bp, 0, none⟩ = some (.slice a1 x.fKey.length c1) ∧ w'.cell? ⟨bp, 1, none⟩ = some (.slice a2 x.fValue.length c2) ∧ w'.cell? ⟨bp, 2, none⟩ = some (.int .i64 x.fVersion))) (by kernel_rfl) ((HO.out _ kd)) (fun hHeld => ?_)
    generalize w4.drew = wd at *
    refine wpAnyH_take (i := 0) (v := ?_) rfl (by kernel_rfl) (by kernel_rfl) (by kernel_rfl) (fun _ _ _ h => h) (Or.inl ⟨by kernel_rfl, ?_⟩) hHeld ?_
    rotate_left
    · intro w' hSw
      (try dsimp only at hSw)
      (try simp only [List.getElem_toArray]); (try simp only [List.getElem_cons_succ]); (try simp only [List.getElem_cons_zero])
      go_simp
      try with_reducible rfl
    (try simp only [Act.put]); (try simp only [List.getElem_toArray]); (try simp only [List.getElem_cons_succ]); (try simp only [List.getElem_cons_zero]); (try simp only [List.setIfInBounds_toArray]); (try simp only [List.set_cons_succ]); (try simp only [List.set_cons_zero])
    refine wpAnyH_take (i := 1) (v := ?_) rfl (by kernel_rfl) (by kernel_rfl) (by kernel_rfl) (fun _ _ _ h => h) (Or.inl ⟨by kernel_rfl, ?_⟩) hHeld ?_
    rotate_left
    · intro w' hSw
      (try dsimp only at hSw)
      (try simp only [List.getElem_toArray]); (try simp only [List.getElem_cons_succ]); (try simp only [List.getElem_cons_zero])
      go_simp
      try with_reducible rfl
    (try simp only [Act.put]); (try simp only [List.getElem_toArray]); (try simp only [List.getElem_cons_succ]); (try simp only [List.getElem_cons_zero]); (try simp only [List.setIfInBounds_toArray]); (try simp only [List.set_cons_succ]); (try simp only [List.set_cons_zero])
    refine wpAnyH_take (i := 2) (v := ?_) rfl (by kernel_rfl) (by kernel_rfl) (by kernel_rfl) (fun _ _ _ h => h) (Or.inl ⟨by kernel_rfl, ?_⟩) hHeld ?_
    rotate_left
    · intro w' hSw
      (try dsimp only at hSw)
      (try simp only [List.getElem_toArray]); (try simp only [List.getElem_cons_succ]); (try simp only [List.getElem_cons_zero])
      go_simp
      try with_reducible rfl
    (try simp only [Act.put]); (try simp only [List.getElem_toArray]); (try simp only [List.getElem_cons_succ]); (try simp only [List.getElem_cons_zero]); (try simp only [List.setIfInBounds_toArray]); (try simp only [List.set_cons_succ]); (try simp only [List.set_cons_zero])
    refine wpAnyH_take (i := 3) (v := ?_) rfl (by kernel_rfl) (by kernel_rfl) (by kernel_rfl) (fun _ _ _ h => h) (Or.inl ⟨by kernel_rfl, ?_⟩) hHeld ?_
    rotate_left
    · intro w' hSw
      (try dsimp only at hSw)
      (try simp only [List.getElem_toArray]); (try simp only [List.getElem_cons_succ]); (try simp only [List.getElem_cons_zero])
      go_simp
      try with_reducible rfl
    (try simp only [Act.put]); (try simp only [List.getElem_toArray]); (try simp only [List.getElem_cons_succ]); (try simp only [List.getElem_cons_zero]); (try simp only [List.setIfInBounds_toArray]); (try simp only [List.set_cons_succ]); (try simp only [List.set_cons_zero])
    refine wpAnyH_take (i := 4) (v := ?_) rfl (by kernel_rfl) (by kernel_rfl) (by kernel_rfl) (fun _ _ _ h => h) (Or.inl ⟨by kernel_rfl, ?_⟩) hHeld ?_
    rotate_left
    · intro w' hSw
      (try dsimp only at hSw)
      (try simp only [List.getElem_toArray]); (try simp only [List.getElem_cons_succ]); (try simp only [List.getElem_cons_zero])
      go_simp
      try with_reducible rfl
    (try simp only [Act.put]); (try simp only [List.getElem_toArray]); (try simp only [List.getElem_cons_succ]); (try simp only [List.getElem_cons_zero]); (try simp only [List.setIfInBounds_toArray]); (try simp only [List.set_cons_succ]); (try simp only [List.set_cons_zero])
    refine wpAnyH_take (i := 5) (v := ?_) rfl (by kernel_rfl) (by kernel_rfl) (by kernel_rfl) (fun _ _ _ h => h) (Or.inl ⟨by kernel_rfl, ?_⟩) hHeld ?_
    rotate_left
    · intro w' hSw
      (try dsimp only at hSw)
      (try simp only [List.getElem_toArray]); (try simp only [List.getElem_cons_succ]); (try simp only [List.getElem_cons_zero])
      go_simp
      try with_reducible rfl
    (try simp only [Act.put]); (try simp only [List.getElem_toArray]); (try simp only [List.getElem_cons_succ]); (try simp only [List.getElem_cons_zero]); (try simp only [List.setIfInBounds_toArray]); (try simp only [List.set_cons_succ]); (try simp only [List.set_cons_zero])
    refine wpAnyH_take (i := 6) (v := ?_) rfl (by kernel_rfl) (by kernel_rfl) (by kernel_rfl) (fun _ _ _ h => h) (Or.inl ⟨by kernel_rfl, ?_⟩) hHeld ?_
    rotate_left
    · intro w' hSw
      (try dsimp only at hSw)
      (try simp only [List.getElem_toArray]); (try simp only [List.getElem_cons_succ]); (try simp only [List.getElem_cons_zero])
      go_simp
      try with_reducible rfl
    (try simp only [Act.put]); (try simp only [List.getElem_toArray]); (try simp only [List.getElem_cons_succ]); (try simp only [List.getElem_cons_zero]); (try simp only [List.setIfInBounds_toArray]); (try simp only [List.set_cons_succ]); (try simp only [List.set_cons_zero])
    refine wpAnyH_take (i := 7) (v := ?_) rfl (by kernel_rfl) (by kernel_rfl) (by kernel_rfl) (fun _ _ _ h => h) (Or.inl ⟨by kernel_rfl, ?_⟩) hHeld ?_
    rotate_left
    · intro w' hSw
      (try dsimp only at hSw)
      (try simp only [List.getElem_toArray]); (try simp only [List.getElem_cons_succ]); (try simp only [List.getElem_cons_zero])
      go_simp
      try with_reducible rfl
    (try simp only [Act.put]); (try simp only [List.getElem_toArray]); (try simp only [List.getElem_cons_succ]); (try simp only [List.getElem_cons_zero]); (try simp only [List.setIfInBounds_toArray]); (try simp only [List.set_cons_succ]); (try simp only [List.set_cons_zero])
    refine wpAnyH_take (i := 8) (v := ?_) rfl (by kernel_rfl) (by kernel_rfl) (by kernel_rfl) (fun _ _ _ h => h) (Or.inl ⟨by kernel_rfl, ?_⟩) hHeld ?_
    rotate_left
    · intro w' hSw
      (try dsimp only at hSw)
      (try simp only [List.getElem_toArray]); (try simp only [List.getElem_cons_succ]); (try simp only [List.getElem_cons_zero])
      go_simp
      try with_reducible rfl
    (try simp only [Act.put]); (try simp only [List.getElem_toArray]); (try simp only [List.getElem_cons_succ]); (try simp only [List.getElem_cons_zero]); (try simp only [List.setIfInBounds_toArray]); (try simp only [List.set_cons_succ]); (try simp only [List.set_cons_zero])
    refine wpAnyH_take (i := 9) (v := ?_) rfl (by kernel_rfl) (by kernel_rfl) (by kernel_rfl) (fun _ _ _ h => h) (Or.inl ⟨by kernel_rfl, ?_⟩) hHeld ?_
    rotate_left
    · intro w' hSw
      (try dsimp only at hSw)
      (try simp only [List.getElem_toArray]); (try simp only [List.getElem_cons_succ]); (try simp only [List.getElem_cons_zero])
      go_simp
      try with_reducible rfl
    (try simp only [Act.put]); (try simp only [List.getElem_toArray]); (try simp only [List.getElem_cons_succ]); (try simp only [List.getElem_cons_zero]); (try simp only [List.setIfInBounds_toArray]); (try simp only [List.set_cons_succ]); (try simp only [List.set_cons_zero])
    have hlen3 : k * 3 + 3 ≤ (css.flatten ++ resti).length := by rw [hIl]; omega
    obtain ⟨v0, hv0⟩ : ∃ v, wd.cell? ⟨bi, k * 3, none⟩ = some v := ⟨_, (rowId.cell (k * 3)).trans (List.getElem?_eq_getElem (by omega))⟩
    obtain ⟨v1, hv1⟩ : ∃ v, wd.cell? ⟨bi, k * 3 + 1, none⟩ = some v := ⟨_, (rowId.cell (k * 3 + 1)).trans (List.getElem?_eq_getElem (by omega))⟩
    obtain ⟨v2, hv2⟩ : ∃ v, wd.cell? ⟨bi, k * 3 + 2, none⟩ = some v := ⟨_, (rowId.cell (k * 3 + 2)).trans (List.getElem?_eq_getElem (by omega))⟩
    have f0 := rowId.frozen (k * 3)
    have f1 := rowId.frozen (k * 3 + 1)
    have f2 := rowId.frozen (k * 3 + 2)
    refine wpAnyH_ready (rs := [10]) (by kernel_rfl) (by simp) ?_
    refine AllReadyH.cons rfl (fun K hK => ?_) AllReadyH.nil
    go_simp
    clear hv0 hv1 hv2 f0 f1 f2
    have kT : Keep (· = bi) wd (((wd.setCell ⟨bi, k * 3, none⟩ (.slice a1 x.fKey.length c1)).setCell ⟨bi, k * 3 + 1, none⟩ (.slice a2 x.fValue.length c2)).setCell ⟨bi, k * 3 + 2, none⟩ (.int .i64 x.fVersion)) := (((Keep.refl (· = bi) wd).setCell (p := ⟨bi, k * 3, none⟩) (fun _ => rfl) _).setCell (p := ⟨bi, k * 3 + 1, none⟩) (fun _ => rfl) _).setCell (p := ⟨bi, k * 3 + 2, none⟩) (fun _ => rfl) _
    have k45 := kd.trans kT
    refine hK.out _ _ ((HO.out _ k45)) (fun hHeld => ?_)
    clear hK K
    (try simp only [Act.put]); (try simp only [List.getElem_toArray]); (try simp only [List.getElem_cons_succ]); (try simp only [List.getElem_cons_zero]); (try simp only [List.setIfInBounds_toArray]); (try simp only [List.set_cons_succ]); (try simp only [List.set_cons_zero])
    refine wpAnyH_done (by kernel_rfl) ?_ _
    clear hHeld
    have hcl := elsI.lens3
    have hkc : k < css.length := by rw [elsI.1]; exact hk
    have row5 : RowIs (((wd.setCell ⟨bi, k * 3, none⟩ (.slice a1 x.fKey.length c1)).setCell ⟨bi, k * 3 + 1, none⟩ (.slice a2 x.fValue.length c2)).setCell ⟨bi, k * 3 + 2, none⟩ (.int .i64 x.fVersion)) bi 29 ((css.set k [.slice a1 x.fKey.length c1, .slice a2 x.fValue.length c2, .int .i64 x.fVersion]).flatten ++ resti) := by
      have h := ((rowId.set (k * 3) (.slice a1 x.fKey.length c1)).set (k * 3 + 1) (.slice a2 x.fValue.length c2)).set (k * 3 + 2) (.int .i64 x.fVersion)
      rw [set3_list _ _ _ hlen3, List.take_append_of_le_length (by omega), List.drop_append_of_le_length (by omega), ← List.append_assoc, ← flat_set hcl hkc] at h
      exact h
    have kW : Keep (· = bi) w (((wd.setCell ⟨bi, k * 3, none⟩ (.slice a1 x.fKey.length c1)).setCell ⟨bi, k * 3 + 1, none⟩ (.slice a2 x.fValue.length c2)).setCell ⟨bi, k * 3 + 2, none⟩ (.int .i64 x.fVersion)) := kk4.nix.trans k45
    have hnb : ∀ b, B b → b ≠ bi := fun b hb e => (M4.oB b hb).2.2.2 _ (List.getElem_mem hiS) (by rw [HES.out, e]; rfl)
    have hw45 := k45.size
    have pg5 : PageIs (((wd.setCell ⟨bi, k * 3, none⟩ (.slice a1 x.fKey.length c1)).setCell ⟨bi, k * 3 + 1, none⟩ (.slice a2 x.fValue.length c2)).setCell ⟨bi, k * 3 + 2, none⟩ (.int .i64 x.fVersion)) (fun b => B b ∨ (bp < b ∧ b < w3.heap.size)) S[i] (L[i].set k x) :=
      ⟨some ⟨bi, 0, none⟩, ci, css.set k [.slice a1 x.fKey.length c1, .slice a2 x.fValue.length c2, .int .i64 x.fVersion], by rw [HES.out, List.length_set], by
        rw [HES.out, List.length_set]
        refine row_own row5 (Nat.zero_le _) ?_ ?_ hIc hcI
        · rw [flat_set hcl hkc]; simp only [List.length_append, List.length_take, List.length_drop, List.length_cons, List.length_nil] at *; omega
        · rw [flat_set hcl hkc]; simp only [List.length_append, List.length_take, List.length_drop, List.length_cons, List.length_nil] at *; omega,
       Els.setAt ((elsI.keep rGPair_lawful k45 hnb).mono rGPair_lawful (fun b hb => .inl hb)) (rGPair_lawful.mono (rGPair_lawful.keep RX k45 (fun b hb e => by have := hb.1; have := HLT.out bi hOi; omega)) (fun b hb => .inr hb))⟩
    have M5 := HM.out.setPage hi kW (fun b hb => .inr ⟨hiS, by rw [HES.out, hb]; rfl⟩) (by rw [List.set_getElem_self]; exact owned_keep M4.own k45 (fun b hb e => by have e2 : some bP = some b := hb; cases e2; exact hbPi e)) pg5 (fun b hb => .inl ⟨hiS, hb⟩) (fun b hb => .inl hb)
      (fun b hb => hb.imp id (fun h => ⟨by omega, by omega, fun h2 => by rw [HES.out] at h2; have e2 : some bi = some b := h2; cases e2; have := HLT.out bi hOi; omega⟩))
    have hins : insF L i k true x = L.set i (L[i].set k x) := by unfold insF; rw [List.getElem?_eq_getElem hi]; rfl
    clear row5 pg5 RX rowQ rowI rowId rowPg ownI elsI M4 HO
    go_wp2_with fail
    go_ret
    exact ⟨by rw [hm0.out]; rfl, fun h => absurd hm0.out h, fun _ => ⟨i, k, true, _, _, _, _, _, fun _ => HFP.out, by rw [hins]; exact M5, fun b (hb : O b ∨ (w.heap.size ≤ b ∧ b < ((((wd.setCell ⟨bi, k * 3, none⟩ (.slice a1 x.fKey.length c1)).setCell ⟨bi, k * 3 + 1, none⟩ (.slice a2 x.fValue.length c2)).setCell ⟨bi, k * 3 + 2, none⟩ (.int .i64 x.fVersion))).heap.size)) => hb.imp id (·.1), kW.mono (fun b hb => by rw [hb]; exact hOi)⟩⟩
  | false =>
    have hkL := HFP.out.hk
    have hlz : ((L.length : Int) == 0) = false := by simp only [beq_eq_false_iff_ne]; omega
    have d0 := M4.row.cell 0
    (try simp only [List.getElem?_cons_zero] at d0)
    go_upto_region 15 with fail
    clear d0
    have kd : Keep (· = bi) w4 w4.drew := (Keep.refl _ w4).drew
    have kd0 : Keep Nix w4 w4.drew := (Keep.refl Nix w4).drew
    refine wp_region_held_drew (S := (fun w' => w'.cell? ⟨g, 0, none⟩ = some (.slice (some ⟨bP, 0, none⟩) L.length cP) ∧ w'.cell? ⟨bP, i, none⟩ = some (.slice (some ⟨bi, 0, none⟩) L[i].length ci) ∧ w'.cell? ⟨bp, 0, none⟩ = some (.slice a1 x.fKey.length c1) ∧ w'.cell? ⟨bp, 1, none⟩ = some (.slice a2 x.fValue.length c2) ∧ w'.cell? ⟨bp, 2, none⟩ = some (.int .i64 x.fVersion))) (by kernel_rfl) ((HO.out _ kd)) (fun hHeld => ?_)
    generalize w4.drew = wd at *
    refine wpAnyH_take (i := 0) (v := ?_) rfl (by kernel_rfl) (by kernel_rfl) (by kernel_rfl) (fun _ _ _ h => h) (Or.inl ⟨by kernel_rfl, ?_⟩) hHeld ?_
    rotate_left
    · intro w' hSw
      (try dsimp only at hSw)
      (try simp only [List.getElem_toArray]); (try simp only [List.getElem_cons_succ]); (try simp only [List.getElem_cons_zero])
      go_simp
      try with_reducible rfl
    (try simp only [Act.put]); (try simp only [List.getElem_toArray]); (try simp only [List.getElem_cons_succ]); (try simp only [List.getElem_cons_zero]); (try simp only [List.setIfInBounds_toArray]); (try simp only [List.set_cons_succ]); (try simp only [List.set_cons_zero])
    refine wpAnyH_take (i := 1) (v := ?_) rfl (by kernel_rfl) (by kernel_rfl) (by kernel_rfl) (fun _ _ _ h => h) (Or.inl ⟨by kernel_rfl, ?_⟩) hHeld ?_
    rotate_left
    · intro w' hSw
      (try dsimp only at hSw)
      (try simp only [List.getElem_toArray]); (try simp only [List.getElem_cons_succ]); (try simp only [List.getElem_cons_zero])
      go_simp
      try with_reducible rfl
    (try simp only [Act.put]); (try simp only [List.getElem_toArray]); (try simp only [List.getElem_cons_succ]); (try simp only [List.getElem_cons_zero]); (try simp only [List.setIfInBounds_toArray]); (try simp only [List.set_cons_succ]); (try simp only [List.set_cons_zero])
    refine wpAnyH_take (i := 2) (v := ?_) rfl (by kernel_rfl) (by kernel_rfl) (by kernel_rfl) (fun _ _ _ h => h) (Or.inl ⟨by kernel_rfl, ?_⟩) hHeld ?_
    rotate_left
    · intro w' hSw
      (try dsimp only at hSw)
      (try simp only [List.getElem_toArray]); (try simp only [List.getElem_cons_succ]); (try simp only [List.getElem_cons_zero])
      go_simp
      try with_reducible rfl
    (try simp only [Act.put]); (try simp only [List.getElem_toArray]); (try simp only [List.getElem_cons_succ]); (try simp only [List.getElem_cons_zero]); (try simp only [List.setIfInBounds_toArray]); (try simp only [List.set_cons_succ]); (try simp only [List.set_cons_zero])
    refine wpAnyH_take (i := 3) (v := ?_) rfl (by kernel_rfl) (by kernel_rfl) (by kernel_rfl) (fun _ _ _ h => h) (Or.inl ⟨by kernel_rfl, ?_⟩) hHeld ?_
    rotate_left
    · intro w' hSw
      (try dsimp only at hSw)
      (try simp only [List.getElem_toArray]); (try simp only [List.getElem_cons_succ]); (try simp only [List.getElem_cons_zero])
      go_simp
      try with_reducible rfl
    (try simp only [Act.put]); (try simp only [List.getElem_toArray]); (try simp only [List.getElem_cons_succ]); (try simp only [List.getElem_cons_zero]); (try simp only [List.setIfInBounds_toArray]); (try simp only [List.set_cons_succ]); (try simp only [List.set_cons_zero])
    refine wpAnyH_take (i := 4) (v := ?_) rfl (by kernel_rfl) (by kernel_rfl) (by kernel_rfl) (fun _ _ _ h => h) (Or.inl ⟨by kernel_rfl, ?_⟩) hHeld ?_
    rotate_left
    · intro w' hSw
      (try dsimp only at hSw)
      (try simp only [List.getElem_toArray]); (try simp only [List.getElem_cons_succ]); (try simp only [List.getElem_cons_zero])
      go_simp
      try with_reducible rfl
    (try simp only [Act.put]); (try simp only [List.getElem_toArray]); (try simp only [List.getElem_cons_succ]); (try simp only [List.getElem_cons_zero]); (try simp only [List.setIfInBounds_toArray]); (try simp only [List.set_cons_succ]); (try simp only [List.set_cons_zero])
    refine wpAnyH_take (i := 5) (v := ?_) rfl (by kernel_rfl) (by kernel_rfl) (by kernel_rfl) (fun _ _ _ h => h) (Or.inl ⟨by kernel_rfl, ?_⟩) hHeld ?_
    rotate_left
    · intro w' hSw
      (try dsimp only at hSw)
      (try simp only [List.getElem_toArray]); (try simp only [List.getElem_cons_succ]); (try simp only [List.getElem_cons_zero])
      go_simp
      try with_reducible rfl
    (try simp only [Act.put]); (try simp only [List.getElem_toArray]); (try simp only [List.getElem_cons_succ]); (try simp only [List.getElem_cons_zero]); (try simp only [List.setIfInBounds_toArray]); (try simp only [List.set_cons_succ]); (try simp only [List.set_cons_zero])
    refine wpAnyH_take (i := 6) (v := ?_) rfl (by kernel_rfl) (by kernel_rfl) (by kernel_rfl) (fun _ _ _ h => h) (Or.inl ⟨by kernel_rfl, ?_⟩) hHeld ?_
    rotate_left
    · intro w' hSw
      (try dsimp only at hSw)
      (try simp only [List.getElem_toArray]); (try simp only [List.getElem_cons_succ]); (try simp only [List.getElem_cons_zero])
      go_simp
      try with_reducible rfl
    (try simp only [Act.put]); (try simp only [List.getElem_toArray]); (try simp only [List.getElem_cons_succ]); (try simp only [List.getElem_cons_zero]); (try simp only [List.setIfInBounds_toArray]); (try simp only [List.set_cons_succ]); (try simp only [List.set_cons_zero])
    refine wpAnyH_take (i := 7) (v := ?_) rfl (by kernel_rfl) (by kernel_rfl) (by kernel_rfl) (fun _ _ _ h => h) (Or.inl ⟨by kernel_rfl, ?_⟩) hHeld ?_
    rotate_left
    · intro w' hSw
      (try dsimp only at hSw)
      (try simp only [List.getElem_toArray]); (try simp only [List.getElem_cons_succ]); (try simp only [List.getElem_cons_zero])
      go_simp
      try with_reducible rfl
    (try simp only [Act.put]); (try simp only [List.getElem_toArray]); (try simp only [List.getElem_cons_succ]); (try simp only [List.getElem_cons_zero]); (try simp only [List.setIfInBounds_toArray]); (try simp only [List.set_cons_succ]); (try simp only [List.set_cons_zero])
    refine wpAnyH_take (i := 8) (v := ?_) rfl (by kernel_rfl) (by kernel_rfl) (by kernel_rfl) (fun _ _ _ h => h) (Or.inl ⟨by kernel_rfl, ?_⟩) hHeld ?_
    rotate_left
    · intro w' hSw
      (try dsimp only at hSw)
      (try simp only [List.getElem_toArray]); (try simp only [List.getElem_cons_succ]); (try simp only [List.getElem_cons_zero])
      go_simp
      try with_reducible rfl
    (try simp only [Act.put]); (try simp only [List.getElem_toArray]); (try simp only [List.getElem_cons_succ]); (try simp only [List.getElem_cons_zero]); (try simp only [List.setIfInBounds_toArray]); (try simp only [List.set_cons_succ]); (try simp only [List.set_cons_zero])
    refine wpAnyH_ready (rs := [9]) (by kernel_rfl) (by simp) ?_
    refine AllReadyH.cons rfl (fun K hK => ?_) AllReadyH.nil
    go_simp
    have rowX := RowIs.alloc wd #[.slice a1 x.fKey.length c1, .slice a2 x.fValue.length c2, .int .i64 x.fVersion] 29
    have kdA : Keep Nix w4 (wd.alloc (.cells #[.slice a1 x.fKey.length c1, .slice a2 x.fValue.length c2, .int .i64 x.fVersion] 29)) := kd0.alloc _
    have hsd := kd0.size
    have hsA := kdA.size
    refine hK.out _ _ ((HO.out _ kdA.nix)) (fun hHeld => ?_)
    clear hK K
    (try simp only [Act.put]); (try simp only [List.getElem_toArray]); (try simp only [List.getElem_cons_succ]); (try simp only [List.getElem_cons_zero]); (try simp only [List.setIfInBounds_toArray]); (try simp only [List.set_cons_succ]); (try simp only [List.set_cons_zero])
    refine wpAnyH_ready (rs := [10]) (by kernel_rfl) (by simp) ?_
    refine AllReadyH.cons rfl (fun K hK => ?_) AllReadyH.nil
    go_simp
    go_fit (Insert_cA _ 0 L[i].length ci k wd.heap.size (some ⟨bi, 0, none⟩) css.flatten [.slice a1 x.fKey.length c1, .slice a2 x.fValue.length c2, .int .i64 x.fVersion] (owned_keep ownI kdA (fun _ _ h => h)) hli.1 (ones3 elsI) rowX rfl (fun u hu => List.all_eq_true.1 (show ([.slice a1 x.fKey.length c1, .slice a2 x.fValue.length c2, .int .i64 x.fVersion] : List Value).all Value.oneCell' = true from rfl) u hu) (fun h => by have e2 : bi = wd.heap.size := Option.some.inj h; have := HLT.out _ hOi; have := kk4.size; omega) (by omega) hkL (Nat.zero_le _))
    rintro e w6 ⟨v6, rfl, own6, hfr, k6⟩
    have k6' : Keep (· = bi) _ w6 := k6.mono (T := (· = bi)) (fun b hb => by have e2 : some bi = some b := hb; cases e2; rfl)
    obtain ⟨a6, c6, rfl⟩ := owned_shape own6
    have k46 : Keep (· = bi) w4 w6 := kdA.nix.trans k6'
    go_wp2_with fail
    refine hK.out _ _ ((HO.out _ k46)) (fun hHeld => ?_)
    clear hK K
    (try simp only [Act.put]); (try simp only [List.getElem_toArray]); (try simp only [List.getElem_cons_succ]); (try simp only [List.getElem_cons_zero]); (try simp only [List.setIfInBounds_toArray]); (try simp only [List.set_cons_succ]); (try simp only [List.set_cons_zero])
    refine wpAnyH_take (i := 11) (v := ?_) rfl (by kernel_rfl) (by kernel_rfl) (by kernel_rfl) (fun _ _ _ h => h) (Or.inl ⟨by kernel_rfl, ?_⟩) hHeld ?_
    rotate_left
    · intro w' hSw
      (try dsimp only at hSw)
      (try simp only [List.getElem_toArray]); (try simp only [List.getElem_cons_succ]); (try simp only [List.getElem_cons_zero])
      go_simp
      try with_reducible rfl
    (try simp only [Act.put]); (try simp only [List.getElem_toArray]); (try simp only [List.getElem_cons_succ]); (try simp only [List.getElem_cons_zero]); (try simp only [List.setIfInBounds_toArray]); (try simp only [List.set_cons_succ]); (try simp only [List.set_cons_zero])
    refine wpAnyH_done (by kernel_rfl) ?_ _
    clear hHeld
    go_upto_region 16 with fail
    have d0 := (M4.row.keep k46 hgi).cell 0
    (try simp only [List.getElem?_cons_zero] at d0)
    have rowP6 := rowPg.keep k46 hbPi
    have y0 := (rowP6.cell i).trans HCE.out
    have yf := rowP6.frozen i
    have kT : Keep (· = bP) w6 (w6.setCell ⟨bP, i, none⟩ (.slice a6 (L[i].length + 1) c6)) := (Keep.refl (· = bP) w6).setCell (p := ⟨bP, i, none⟩) (fun _ => rfl) _
    have rowP7 : RowIs (w6.setCell ⟨bP, i, none⟩ (.slice a6 (L[i].length + 1) c6)) bP 22 (S.set i (.slice a6 (L[i].length + 1) c6) ++ restP) := by
      have h := rowP6.set i (.slice a6 (L[i].length + 1) c6)
      rw [List.set_append_left _ _ hiS] at h
      exact h
    have hcl := elsI.lens3
    have hlc := elsI.1
    have hins7 : (insL L[i] k x).length = L[i].length + 1 := by unfold insL; rw [List.length_append, List.length_take, List.length_cons, List.length_drop]; omega
    have hnb : ∀ b, B b → b ≠ bi := fun b hb e => (M4.oB b hb).2.2.2 _ (List.getElem_mem hiS) (by rw [HES.out, e]; rfl)
    have hnP : ∀ b, B b → b ≠ bP := fun b hb e => (M4.oB b hb).2.2.1 (by rw [e]; rfl)
    have h6P : ∀ b, OwnB (.slice a6 (L[i].length + 1) c6) b → b ≠ bP := fun b hb e => by
      rcases hfr b hb with h | h
      · have e2 : bi = b := Option.some.inj h; exact hbPi (by rw [← e, e2])
      · have := HLT.out _ hOP; have := kk4.size; omega
    have own7 := owned_keep own6 kT h6P
    have els7 : Els rGPair (w6.setCell ⟨bP, i, none⟩ (.slice a6 (L[i].length + 1) c6)) (fun b => B b ∨ (bp < b ∧ b < w3.heap.size)) (css.take k ++ [.slice a1 x.fKey.length c1, .slice a2 x.fValue.length c2, .int .i64 x.fVersion] :: css.drop k) (insL L[i] k x) :=
      Els.insAt (((elsI.keep rGPair_lawful k46 hnb).keep rGPair_lawful kT hnP).mono rGPair_lawful (fun b hb => .inl hb)) (rGPair_lawful.mono (rGPair_lawful.keep (rGPair_lawful.keep RX k46 (fun b hb e => by have := hb.1; have := HLT.out bi hOi; omega)) kT (fun b hb e => by have := hb.1; have := HLT.out bP hOP; omega)) (fun b hb => .inr hb))
    have kW : Keep (fun b => b = bi ∨ b = bP) w (w6.setCell ⟨bP, i, none⟩ (.slice a6 (L[i].length + 1) c6)) := (kk4.nix.trans (k46.mono (fun _ h => .inl h))).trans (kT.mono (fun _ h => .inr h))
    have pg7 : PageIs (w6.setCell ⟨bP, i, none⟩ (.slice a6 (L[i].length + 1) c6)) (fun b => B b ∨ (bp < b ∧ b < w3.heap.size)) (.slice a6 (L[i].length + 1) c6) (insL L[i] k x) :=
      ⟨a6, c6, css.take k ++ [.slice a1 x.fKey.length c1, .slice a2 x.fValue.length c2, .int .i64 x.fVersion] :: css.drop k, by rw [hins7], by rw [hins7, List.flatten_append, List.flatten_cons, ← flat_take3 hcl, ← flat_drop3 hcl, ← List.append_assoc]; exact own7, els7⟩
    have hw47 : w3.heap.size ≤ (w6.setCell ⟨bP, i, none⟩ (.slice a6 (L[i].length + 1) c6)).heap.size := by have := k46.size; have := kT.size; omega
    have hPl7 : (S.set i (.slice a6 (L[i].length + 1) c6) ++ restP).length = cP * 1 := by rw [List.length_append, List.length_set, ← List.length_append]; exact hPl
    have hcPn : L.length ≤ cP := by rw [List.length_append] at hPl; omega
    have M7 := HM.out.setPage hi kW (fun b hb => hb.elim (fun hb => .inr ⟨hiS, by rw [HES.out, hb]; rfl⟩) (fun hb => .inl (by rw [hb]; rfl))) (row_own rowP7 (Nat.zero_le _) hPl7 (by rw [List.length_set]; omega) hcPn hcP) pg7
      (fun b hb => (hfr b hb).imp (fun h => ⟨hiS, by rw [HES.out]; exact h⟩) (fun h => by have := kk4.size; omega)) (fun b hb => .inl hb)
      (fun b hb => hb.imp id (fun h => ⟨by omega, by omega, fun h2 => by
        rcases hfr b h2 with h3 | h3
        · have e2 : bi = b := Option.some.inj h3; have := HLT.out bi hOi; omega
        · omega⟩))
    clear rowX own6 pg7 rowP6 rowPg rowI ownI kdA kd kd0 k6 k6' HO
    by_cases hl8 : L[i].length < 8
    · have hli8 : (L[i].length : Int) + 1 ≤ 8 := by omega
      have hins : insF L i k false x = L.set i (insL L[i] k x) := by unfold insF; rw [List.getElem?_eq_getElem hi]; simp [hl8]
      clear hl8 M4 RX rowQ rowP7 elsI
      go_wp2_with fail
      go_ret
      exact ⟨by rw [hm0.out]; rfl, fun h => absurd hm0.out h, fun _ => ⟨i, k, false, _, _, _, _, _, fun _ => HFP.out, by rw [hins]; exact M7, fun b (hb : O b ∨ (w.heap.size ≤ b ∧ b < (w6.setCell ⟨bP, i, none⟩ (.slice a6 (L[i].length + 1) c6)).heap.size)) => hb.imp id (·.1), kW.mono (fun b hb => hb.elim (fun h => by rw [h]; exact hOi) (fun h => by rw [h]; exact hOP))⟩⟩
    have h8 : L[i].length = 8 := by omega
    have hli9 : (8 : Int) < (L[i].length : Int) + 1 := by omega
    replace own7 : World.ownsRow (w6.setCell ⟨bP, i, none⟩ (.slice a6 (L[i].length + 1) c6)) 0 29 3 (.slice a6 (L[i].length + 1) c6) (L[i].length + 1) (css.take k ++ [.slice a1 x.fKey.length c1, .slice a2 x.fValue.length c2, .int .i64 x.fVersion] :: css.drop k).flatten := by rw [List.flatten_append, List.flatten_cons, ← flat_take3 hcl, ← flat_drop3 hcl, ← List.append_assoc]; exact own7
    obtain ⟨css9, hcss9⟩ : ∃ c, css.take k ++ [.slice a1 x.fKey.length c1, .slice a2 x.fValue.length c2, .int .i64 x.fVersion] :: css.drop k = c := ⟨_, rfl⟩
    rw [hcss9] at own7 els7
    obtain ⟨ln, hln⟩ : ∃ c, insL L[i] k x = c := ⟨_, rfl⟩
    rw [hln] at els7 hins7 M7
    have HLN := Lib.hid hln
    obtain ⟨b6, rest6, rfl, -, row6, h6l, h6x, h6c, h6m⟩ := own_row own7 (by omega)
    have d7 := M7.row.cell 0
    (try simp only [List.getElem?_cons_zero, List.length_set] at d7)
    clear hl8 M4 RX rowQ elsI hcss9 hln
    go_upto_region 18 with fail
    clear d0 y0 yf
    have e9 : L[i].length + 1 = 9 := by omega
    (try rw [e9] at hins7); (try rw [e9] at hPl7); (try rw [e9] at hfr); (try rw [e9] at h6x); (try rw [e9] at h6c); (try rw [e9] at kT); (try rw [e9] at rowP7); (try rw [e9] at kW); (try rw [e9] at hw47); (try rw [e9] at own7); (try rw [e9] at M7); (try rw [e9] at row6); (try rw [e9] at els7); (try rw [e9] at d7); (try rw [e9] at h6P)
    (try rw [e9])
    generalize (w6.setCell ⟨bP, i, none⟩ (.slice (some ⟨b6, 0, none⟩) 9 c6)) = w7 at *
    clear hHeld
    have hcl9 := els7.lens3
    have hon9 := ones3 els7
    have hl9 : css9.length = 9 := by rw [els7.1, hins7]
    have ht12 : (css9.take 4).flatten = css9.flatten.take 12 := (flat_take3 hcl9 4).symm
    have hd12 : (css9.drop 4).flatten = css9.flatten.drop 12 := (flat_drop3 hcl9 4).symm
    have kd : Keep Nix w7 w7.drew := (Keep.refl Nix w7).drew
    have hc64 : (4 : Int) ≤ (c6 : Int) := by omega
    have hS7 : ∀ (v : Value) (w' : World), RowIs w' bP 22 (S.set i v ++ restP) → w'.cell? ⟨bP, i, none⟩ = some v := fun v w' r => (r.cell i).trans (by rw [List.getElem?_append_left (by rw [List.length_set]; exact hiS), List.getElem?_set_self hiS])
    have lt4 : Lies w7 (fun _ => True) (some ⟨b6, 0, none⟩) (css9.flatten.take 12) := row6.lies _ trivial (fun j u hu => by
      obtain ⟨hj, rfl⟩ := List.getElem?_eq_some_iff.1 hu
      have hj' := hj
      rw [List.length_take] at hj'
      rw [Nat.zero_add, List.getElem?_append_left (by omega), List.getElem_take, List.getElem?_eq_getElem (by omega)])
    have lt9 : Lies w7 (· = b6) (some ⟨b6, 12, none⟩) (css9.flatten.drop 12) := row6.lies (· = b6) rfl (fun j u hu => by
      obtain ⟨hj, rfl⟩ := List.getElem?_eq_some_iff.1 hu
      have hj' := hj
      rw [List.length_drop] at hj'
      rw [List.getElem?_append_left (by omega), List.getElem_drop, List.getElem?_eq_getElem (by omega)])
    have hLs : ∀ l, (L.set i l).length = L.length := fun l => List.length_set
    have M7r := M7.row
    rw [hLs] at M7r
    refine wp_region_held_drew (S := (fun w' => w'.cell? ⟨g, 0, none⟩ = some (.slice (some ⟨bP, 0, none⟩) L.length cP))) (by kernel_rfl) (((M7r.keep kd (fun h => h)).cell 0)) (fun hHeld => ?_)
    generalize w7.drew = wd7 at *
    refine wpAnyH_take (i := 0) (v := ?_) rfl (by kernel_rfl) (by kernel_rfl) (by kernel_rfl) (fun _ _ _ h => h) (Or.inl ⟨by kernel_rfl, ?_⟩) hHeld ?_
    rotate_left
    · intro w' hSw
      (try dsimp only at hSw)
      (try simp only [List.getElem_toArray]); (try simp only [List.getElem_cons_succ]); (try simp only [List.getElem_cons_zero])
      go_simp
      try with_reducible rfl
    (try simp only [Act.put]); (try simp only [List.getElem_toArray]); (try simp only [List.getElem_cons_succ]); (try simp only [List.getElem_cons_zero]); (try simp only [List.setIfInBounds_toArray]); (try simp only [List.set_cons_succ]); (try simp only [List.set_cons_zero])
    refine wpAnyH_take (i := 1) (v := ?_) rfl (by kernel_rfl) (by kernel_rfl) (by kernel_rfl) (fun _ _ _ h => h) (Or.inl ⟨by kernel_rfl, ?_⟩) hHeld ?_
    rotate_left
    · intro w' hSw
      (try dsimp only at hSw)
      (try simp only [List.getElem_toArray]); (try simp only [List.getElem_cons_succ]); (try simp only [List.getElem_cons_zero])
      go_simp
      try with_reducible rfl
    (try simp only [Act.put]); (try simp only [List.getElem_toArray]); (try simp only [List.getElem_cons_succ]); (try simp only [List.getElem_cons_zero]); (try simp only [List.setIfInBounds_toArray]); (try simp only [List.set_cons_succ]); (try simp only [List.set_cons_zero])
    refine wpAnyH_take (i := 2) (v := ?_) rfl (by kernel_rfl) (by kernel_rfl) (by kernel_rfl) (fun _ _ _ h => h) (Or.inl ⟨by kernel_rfl, ?_⟩) hHeld ?_
    rotate_left
    · intro w' hSw
      (try dsimp only at hSw)
      (try simp only [List.getElem_toArray]); (try simp only [List.getElem_cons_succ]); (try simp only [List.getElem_cons_zero])
      go_simp
      try with_reducible rfl
    (try simp only [Act.put]); (try simp only [List.getElem_toArray]); (try simp only [List.getElem_cons_succ]); (try simp only [List.getElem_cons_zero]); (try simp only [List.setIfInBounds_toArray]); (try simp only [List.set_cons_succ]); (try simp only [List.set_cons_zero])
    refine wpAnyH_take (i := 3) (v := ?_) rfl (by kernel_rfl) (by kernel_rfl) (by kernel_rfl) (fun _ _ _ h => h) (Or.inl ⟨by kernel_rfl, ?_⟩) hHeld ?_
    rotate_left
    · intro w' hSw
      (try dsimp only at hSw)
      (try simp only [List.getElem_toArray]); (try simp only [List.getElem_cons_succ]); (try simp only [List.getElem_cons_zero])
      go_simp
      try with_reducible rfl
    (try simp only [Act.put]); (try simp only [List.getElem_toArray]); (try simp only [List.getElem_cons_succ]); (try simp only [List.getElem_cons_zero]); (try simp only [List.setIfInBounds_toArray]); (try simp only [List.set_cons_succ]); (try simp only [List.set_cons_zero])
    refine wpAnyH_take (i := 4) (v := ?_) rfl (by kernel_rfl) (by kernel_rfl) (by kernel_rfl) (fun _ _ _ h => h) (Or.inl ⟨by kernel_rfl, ?_⟩) hHeld ?_
    rotate_left
    · intro w' hSw
      (try dsimp only at hSw)
      (try simp only [List.getElem_toArray]); (try simp only [List.getElem_cons_succ]); (try simp only [List.getElem_cons_zero])
      go_simp
      try with_reducible rfl
    (try simp only [Act.put]); (try simp only [List.getElem_toArray]); (try simp only [List.getElem_cons_succ]); (try simp only [List.getElem_cons_zero]); (try simp only [List.setIfInBounds_toArray]); (try simp only [List.set_cons_succ]); (try simp only [List.set_cons_zero])
    refine wpAnyH_take (i := 5) (v := ?_) rfl (by kernel_rfl) (by kernel_rfl) (by kernel_rfl) (fun _ _ _ h => h) (Or.inl ⟨by kernel_rfl, ?_⟩) hHeld ?_
    rotate_left
    · intro w' hSw
      (try dsimp only at hSw)
      (try simp only [List.getElem_toArray]); (try simp only [List.getElem_cons_succ]); (try simp only [List.getElem_cons_zero])
      go_simp
      try with_reducible rfl
    (try simp only [Act.put]); (try simp only [List.getElem_toArray]); (try simp only [List.getElem_cons_succ]); (try simp only [List.getElem_cons_zero]); (try simp only [List.setIfInBounds_toArray]); (try simp only [List.set_cons_succ]); (try simp only [List.set_cons_zero])
    refine wpAnyH_take (i := 6) (v := ?_) rfl (by kernel_rfl) (by kernel_rfl) (by kernel_rfl) (fun _ _ _ h => h) (Or.inl ⟨by kernel_rfl, ?_⟩) hHeld ?_
    rotate_left
    · intro w' hSw
      (try dsimp only at hSw)
      (try simp only [List.getElem_toArray]); (try simp only [List.getElem_cons_succ]); (try simp only [List.getElem_cons_zero])
      go_simp
      try with_reducible rfl
    (try simp only [Act.put]); (try simp only [List.getElem_toArray]); (try simp only [List.getElem_cons_succ]); (try simp only [List.getElem_cons_zero]); (try simp only [List.setIfInBounds_toArray]); (try simp only [List.set_cons_succ]); (try simp only [List.set_cons_zero])
    refine wpAnyH_ready (rs := [7]) (by kernel_rfl) (by simp) ?_
    refine AllReadyH.cons rfl (fun K hK => ?_) AllReadyH.nil
    go_simp
    have hs7 := kd.size
    go_fit (clP_c (p := fun _ => True) ⟨b6, 0, none⟩ 4 c6 (css9.flatten.take 12) _ (by rw [List.length_take]; omega) (lt4.keep kd (fun _ _ h => h)) (fun u hu => hon9 u (List.mem_of_mem_take hu)) (by omega))
    rintro e w8 ⟨a8, c8, rfl, own8, k8⟩
    replace kd := kd.trans k8
    go_wp2_with fail
    refine hK.out _ _ (((M7r.keep kd (fun h => h)).cell 0)) (fun hHeld => ?_)
    clear hK K
    (try simp only [Act.put]); (try simp only [List.getElem_toArray]); (try simp only [List.getElem_cons_succ]); (try simp only [List.getElem_cons_zero]); (try simp only [List.setIfInBounds_toArray]); (try simp only [List.set_cons_succ]); (try simp only [List.set_cons_zero])
    refine wpAnyH_take (i := 8) (v := ?_) rfl (by kernel_rfl) (by kernel_rfl) (by kernel_rfl) (fun _ _ _ h => h) (Or.inl ⟨by kernel_rfl, ?_⟩) hHeld ?_
    rotate_left
    · intro w' hSw
      (try dsimp only at hSw)
      (try simp only [List.getElem_toArray]); (try simp only [List.getElem_cons_succ]); (try simp only [List.getElem_cons_zero])
      go_simp
      try with_reducible rfl
    (try simp only [Act.put]); (try simp only [List.getElem_toArray]); (try simp only [List.getElem_cons_succ]); (try simp only [List.getElem_cons_zero]); (try simp only [List.setIfInBounds_toArray]); (try simp only [List.set_cons_succ]); (try simp only [List.set_cons_zero])
    refine wpAnyH_ready (rs := [9]) (by kernel_rfl) (by simp) ?_
    refine AllReadyH.cons rfl (fun K hK => ?_) AllReadyH.nil
    have rowP8 := rowP7.keep kd id
    have y0 := hS7 _ _ rowP8
    have yf := rowP8.frozen i
    go_simp
    clear y0 yf
    have kT8 : Keep (· = bP) w8 (w8.setCell ⟨bP, i, none⟩ (.slice a8 4 c8)) := (Keep.refl (· = bP) w8).setCell (p := ⟨bP, i, none⟩) (fun _ => rfl) _
    have rowP9 : RowIs (w8.setCell ⟨bP, i, none⟩ (.slice a8 4 c8)) bP 22 ((S.set i (.slice a8 4 c8)) ++ restP) := by
      have h := rowP8.set i (.slice a8 4 c8)
      rw [List.set_append_left _ _ (by rw [List.length_set]; exact hiS), List.set_set] at h
      exact h
    have k79 : Keep (· = bP) w7 (w8.setCell ⟨bP, i, none⟩ (.slice a8 4 c8)) := kd.nix.trans kT8
    have h8P : ∀ b, OwnB (.slice a8 4 c8) b → w7.heap.size ≤ b := fun b hb => by have := (own8.lt b hb).1; omega
    have hOP7 := M7.lt bP (M7.oP bP rfl).1
    have hnP7 : ∀ b, (B b ∨ (bp < b ∧ b < w3.heap.size)) → b ≠ bP := fun b hb e => (M7.oB b hb).2.2.1 (by rw [e]; rfl)
    have n6P : b6 ≠ bP := h6P b6 rfl
    have els8 := els7.keep rGPair_lawful k79 hnP7
    have row68 := row6.keep k79 n6P
    have hs78 := kd.size
    have hs89 := kT8.size
    have ht4 : (ln.take 4).length = 4 := by rw [List.length_take, hins7]; rfl
    have hd4 : (ln.drop 4).length = 5 := by rw [List.length_drop, hins7]
    have pg8 : PageIs (w8.setCell ⟨bP, i, none⟩ (.slice a8 4 c8)) (fun b => B b ∨ (bp < b ∧ b < w3.heap.size)) (.slice a8 4 c8) (ln.take 4) :=
      ⟨a8, c8, css9.take 4, by rw [ht4], by rw [ht4, ht12]; exact own_weak (owned_keep own8 kT8 (fun b hb e => by have := h8P b hb; omega)), els8.takeN 4⟩
    have own9r : World.ownsRow (w8.setCell ⟨bP, i, none⟩ (.slice a8 4 c8)) 0 22 1 (.slice (some ⟨bP, 0, none⟩) L.length cP) L.length (S.set i (.slice a8 4 c8)) := row_own rowP9 (Nat.zero_le _) (by rw [← hPl7]; simp only [List.length_append, List.length_set]) (by rw [List.length_set]; omega) hcPn hcP
    have own9 : World.ownsRow (w8.setCell ⟨bP, i, none⟩ (.slice a8 4 c8)) 0 22 1 (.slice (some ⟨bP, 0, none⟩) (L.set i ln).length cP) (L.set i ln).length ((S.set i (.slice (some ⟨b6, 0, none⟩) 9 c6)).set i (.slice a8 4 c8)) := by
      rw [hLs, List.set_set]
      exact own9r
    have M8 := M7.setPage (i := i) (by rw [hLs]; exact hi) k79 (fun b hb => .inl (by rw [hb]; rfl)) own9 pg8
      (fun b hb => .inr (h8P b hb)) (fun _ h => h) (fun b hb => .inl hb)
    rw [List.set_set, List.set_set] at M8
    refine hK.out _ _ (((M7r.keep k79 hgP).cell 0)) (fun hHeld => ?_)
    clear hK K
    (try simp only [Act.put]); (try simp only [List.getElem_toArray]); (try simp only [List.getElem_cons_succ]); (try simp only [List.getElem_cons_zero]); (try simp only [List.setIfInBounds_toArray]); (try simp only [List.set_cons_succ]); (try simp only [List.set_cons_zero])
    refine wpAnyH_done (by kernel_rfl) ?_ _
    clear hHeld
    have hon8 := M8.ones
    have M9r := M8.row
    rw [hLs] at M9r
    have lt9b := lt9.keep k79 (fun b hb e => n6P (hb.symm.trans e))
    go_upto_region 19 with fail
    generalize (w8.setCell ⟨bP, i, none⟩ (.slice a8 4 c8)) = w9 at *
    have kd : Keep Nix w9 w9.drew := (Keep.refl Nix w9).drew
    have hc12 : (c6 = 4) = False := eq_false (by omega)
    have hii9 : IntKind.i64.wrap ((i : Int) + 1) = (i : Int) + 1 := by rw [IntKind.wrap_i64]; omega
    have HNP : Hid (∀ b, (B b ∨ (bp < b ∧ b < w3.heap.size)) → b ≠ bP) := hnP7
    have HNG : Hid (∀ b, (B b ∨ (bp < b ∧ b < w3.heap.size)) → b ≠ g) := fun b hb => (M8.oB b hb).2.1
    have HP9 : Hid (bP < w9.heap.size) := by show _ < _; exact (M8.lt bP (M8.oP bP rfl).1)
    refine wp_region_held_drew (S := (fun _ => True)) (by kernel_rfl) (trivial) (fun hHeld => ?_)
    generalize w9.drew = wd9 at *
    refine wpAnyH_take (i := 0) (v := ?_) rfl (by kernel_rfl) (by kernel_rfl) (by kernel_rfl) (fun _ _ _ h => h) (Or.inl ⟨by kernel_rfl, ?_⟩) hHeld ?_
    rotate_left
    · intro w' hSw
      (try dsimp only at hSw)
      (try simp only [List.getElem_toArray]); (try simp only [List.getElem_cons_succ]); (try simp only [List.getElem_cons_zero])
      go_simp
      try with_reducible rfl
    (try simp only [Act.put]); (try simp only [List.getElem_toArray]); (try simp only [List.getElem_cons_succ]); (try simp only [List.getElem_cons_zero]); (try simp only [List.setIfInBounds_toArray]); (try simp only [List.set_cons_succ]); (try simp only [List.set_cons_zero])
    refine wpAnyH_take (i := 1) (v := ?_) rfl (by kernel_rfl) (by kernel_rfl) (by kernel_rfl) (fun _ _ _ h => h) (Or.inl ⟨by kernel_rfl, ?_⟩) hHeld ?_
    rotate_left
    · intro w' hSw
      (try dsimp only at hSw)
      (try simp only [List.getElem_toArray]); (try simp only [List.getElem_cons_succ]); (try simp only [List.getElem_cons_zero])
      go_simp
      try with_reducible rfl
    (try simp only [Act.put]); (try simp only [List.getElem_toArray]); (try simp only [List.getElem_cons_succ]); (try simp only [List.getElem_cons_zero]); (try simp only [List.setIfInBounds_toArray]); (try simp only [List.set_cons_succ]); (try simp only [List.set_cons_zero])
    refine wpAnyH_take (i := 2) (v := ?_) rfl (by kernel_rfl) (by kernel_rfl) (by kernel_rfl) (fun _ _ _ h => h) (Or.inl ⟨by kernel_rfl, ?_⟩) hHeld ?_
    rotate_left
    · intro w' hSw
      (try dsimp only at hSw)
      (try simp only [List.getElem_toArray]); (try simp only [List.getElem_cons_succ]); (try simp only [List.getElem_cons_zero])
      go_simp
      try with_reducible rfl
    (try simp only [Act.put]); (try simp only [List.getElem_toArray]); (try simp only [List.getElem_cons_succ]); (try simp only [List.getElem_cons_zero]); (try simp only [List.setIfInBounds_toArray]); (try simp only [List.set_cons_succ]); (try simp only [List.set_cons_zero])
    refine wpAnyH_take (i := 3) (v := ?_) rfl (by kernel_rfl) (by kernel_rfl) (by kernel_rfl) (fun _ _ _ h => h) (Or.inl ⟨by kernel_rfl, ?_⟩) hHeld ?_
    rotate_left
    · intro w' hSw
      (try dsimp only at hSw)
      (try simp only [List.getElem_toArray]); (try simp only [List.getElem_cons_succ]); (try simp only [List.getElem_cons_zero])
      go_simp
      try with_reducible rfl
    (try simp only [Act.put]); (try simp only [List.getElem_toArray]); (try simp only [List.getElem_cons_succ]); (try simp only [List.getElem_cons_zero]); (try simp only [List.setIfInBounds_toArray]); (try simp only [List.set_cons_succ]); (try simp only [List.set_cons_zero])
    refine wpAnyH_take (i := 5) (v := ?_) rfl (by kernel_rfl) (by kernel_rfl) (by kernel_rfl) (fun _ _ _ h => h) (Or.inl ⟨by kernel_rfl, ?_⟩) hHeld ?_
    rotate_left
    · intro w' hSw
      (try dsimp only at hSw)
      (try simp only [List.getElem_toArray]); (try simp only [List.getElem_cons_succ]); (try simp only [List.getElem_cons_zero])
      go_simp
      try with_reducible rfl
    (try simp only [Act.put]); (try simp only [List.getElem_toArray]); (try simp only [List.getElem_cons_succ]); (try simp only [List.getElem_cons_zero]); (try simp only [List.setIfInBounds_toArray]); (try simp only [List.set_cons_succ]); (try simp only [List.set_cons_zero])
    refine wpAnyH_take (i := 6) (v := ?_) rfl (by kernel_rfl) (by kernel_rfl) (by kernel_rfl) (fun _ _ _ h => h) (Or.inl ⟨by kernel_rfl, ?_⟩) hHeld ?_
    rotate_left
    · intro w' hSw
      (try dsimp only at hSw)
      (try simp only [List.getElem_toArray]); (try simp only [List.getElem_cons_succ]); (try simp only [List.getElem_cons_zero])
      go_simp
      try with_reducible rfl
    (try simp only [Act.put]); (try simp only [List.getElem_toArray]); (try simp only [List.getElem_cons_succ]); (try simp only [List.getElem_cons_zero]); (try simp only [List.setIfInBounds_toArray]); (try simp only [List.set_cons_succ]); (try simp only [List.set_cons_zero])
    refine wpAnyH_take (i := 7) (v := ?_) rfl (by kernel_rfl) (by kernel_rfl) (by kernel_rfl) (fun _ _ _ h => h) (Or.inl ⟨by kernel_rfl, ?_⟩) hHeld ?_
    rotate_left
    · intro w' hSw
      (try dsimp only at hSw)
      (try simp only [List.getElem_toArray]); (try simp only [List.getElem_cons_succ]); (try simp only [List.getElem_cons_zero])
      go_simp
      try with_reducible rfl
    (try simp only [Act.put]); (try simp only [List.getElem_toArray]); (try simp only [List.getElem_cons_succ]); (try simp only [List.getElem_cons_zero]); (try simp only [List.setIfInBounds_toArray]); (try simp only [List.set_cons_succ]); (try simp only [List.set_cons_zero])
    refine wpAnyH_take (i := 8) (v := ?_) rfl (by kernel_rfl) (by kernel_rfl) (by kernel_rfl) (fun _ _ _ h => h) (Or.inl ⟨by kernel_rfl, ?_⟩) hHeld ?_
    rotate_left
    · intro w' hSw
      (try dsimp only at hSw)
      (try simp only [List.getElem_toArray]); (try simp only [List.getElem_cons_succ]); (try simp only [List.getElem_cons_zero])
      go_simp
      try with_reducible rfl
    (try simp only [Act.put]); (try simp only [List.getElem_toArray]); (try simp only [List.getElem_cons_succ]); (try simp only [List.getElem_cons_zero]); (try simp only [List.setIfInBounds_toArray]); (try simp only [List.set_cons_succ]); (try simp only [List.set_cons_zero])
    refine wpAnyH_ready (rs := [4, 9]) (by kernel_rfl) (by simp) ?_
    refine AllReadyH.cons rfl (fun K hK => ?_) (AllReadyH.cons rfl (fun K hK => ?_) AllReadyH.nil)
    · have z4 := (M9r.keep kd (fun h => h)).cell 0
      (try simp only [List.getElem?_cons_zero] at z4)
      go_simp
      clear z4
      refine hK.out _ _ (trivial) (fun hHeld => ?_)
      clear hK K
      (try simp only [Act.put]); (try simp only [List.getElem_toArray]); (try simp only [List.getElem_cons_succ]); (try simp only [List.getElem_cons_zero]); (try simp only [List.setIfInBounds_toArray]); (try simp only [List.set_cons_succ]); (try simp only [List.set_cons_zero])
      refine wpAnyH_ready (rs := [9]) (by kernel_rfl) (by simp) ?_
      refine AllReadyH.cons rfl (fun K hK => ?_) AllReadyH.nil
      go_simp
      have hs9 := kd.size
      have HS9 := Lib.hid hs9
      go_fit (clP_c (p := (· = b6)) ⟨b6, 12, none⟩ 5 (c6 - 4) (css9.flatten.drop 12) _ (by rw [List.length_drop]; omega) (lt9b.keep kd (fun _ _ h => h)) (fun u hu => hon9 u (List.mem_of_mem_drop hu)) (by omega))
      rintro e w10 ⟨a10, c10, rfl, own10, k10⟩
      replace kd := kd.trans k10
      go_wp2_with fail
      refine hK.out _ _ (trivial) (fun hHeld => ?_)
      clear hK K
      (try simp only [Act.put]); (try simp only [List.getElem_toArray]); (try simp only [List.getElem_cons_succ]); (try simp only [List.getElem_cons_zero]); (try simp only [List.setIfInBounds_toArray]); (try simp only [List.set_cons_succ]); (try simp only [List.set_cons_zero])
      refine wpAnyH_ready (rs := [10]) (by kernel_rfl) (by simp) ?_
      refine AllReadyH.cons rfl (fun K hK => ?_) AllReadyH.nil
      go_simp
      obtain ⟨rowM, kA, hgm, -⟩ := kk_alloc kd #[.slice a10 5 c10] 22
      have HGM := Lib.hid hgm
      replace kd := kA
      replace own10 := owned_keep own10 ((Keep.refl Nix w10).alloc (.cells #[.slice a10 5 c10] 22)) (fun _ _ h => h)
      clear kA hgm
      refine hK.out _ _ (trivial) (fun hHeld => ?_)
      clear hK K
      (try simp only [Act.put]); (try simp only [List.getElem_toArray]); (try simp only [List.getElem_cons_succ]); (try simp only [List.getElem_cons_zero]); (try simp only [List.setIfInBounds_toArray]); (try simp only [List.set_cons_succ]); (try simp only [List.set_cons_zero])
      generalize w10.alloc (.cells #[.slice a10 5 c10] 22) = wA at *
      refine wpAnyH_ready (rs := [11]) (by kernel_rfl) (by simp) ?_
      refine AllReadyH.cons rfl (fun K hK => ?_) AllReadyH.nil
      go_simp
      go_fit (Insert_iB _ 0 L.length cP (i + 1) _ _ (some ⟨bP, 0, none⟩) (S.set i (.slice a8 4 c8)) [.slice a10 5 c10] (owned_keep own9r kd (fun _ _ h => h)) hL0 hon8 rowM rfl (fun u hu => List.all_eq_true.1 (show ([.slice a10 5 c10] : List Value).all Value.oneCell' = true from rfl) u hu) (fun h => by have e2 : bP = _ := Option.some.inj h; have := HGM.out; omega) (by omega) (by omega) (Nat.zero_le _) (by omega))
      rintro e w11 ⟨v11, rfl, own11, hfr11, k11⟩
      obtain ⟨aQ, cQ, rfl⟩ := owned_shape own11
      have k11' : Keep (· = bP) _ w11 := k11.mono (T := (· = bP)) (fun b hb => by have e2 : some bP = some b := hb; cases e2; rfl)
      go_wp2_with fail
      refine hK.out _ _ (trivial) (fun hHeld => ?_)
      clear hK K
      (try simp only [Act.put]); (try simp only [List.getElem_toArray]); (try simp only [List.getElem_cons_succ]); (try simp only [List.getElem_cons_zero]); (try simp only [List.setIfInBounds_toArray]); (try simp only [List.set_cons_succ]); (try simp only [List.set_cons_zero])
      refine wpAnyH_take (i := 12) (v := ?_) rfl (by kernel_rfl) (by kernel_rfl) (by kernel_rfl) (fun _ _ _ h => h) (Or.inl ⟨by kernel_rfl, ?_⟩) hHeld ?_
      rotate_left
      · intro w' hSw
        (try dsimp only at hSw)
        (try simp only [List.getElem_toArray]); (try simp only [List.getElem_cons_succ]); (try simp only [List.getElem_cons_zero])
        go_simp
        try with_reducible rfl
      (try simp only [Act.put]); (try simp only [List.getElem_toArray]); (try simp only [List.getElem_cons_succ]); (try simp only [List.getElem_cons_zero]); (try simp only [List.setIfInBounds_toArray]); (try simp only [List.set_cons_succ]); (try simp only [List.set_cons_zero])
      refine wpAnyH_take (i := 13) (v := ?_) rfl (by kernel_rfl) (by kernel_rfl) (by kernel_rfl) (fun _ _ _ h => h) (Or.inl ⟨by kernel_rfl, ?_⟩) hHeld ?_
      rotate_left
      · intro w' hSw
        (try dsimp only at hSw)
        (try simp only [List.getElem_toArray]); (try simp only [List.getElem_cons_succ]); (try simp only [List.getElem_cons_zero])
        go_simp
        try with_reducible rfl
      (try simp only [Act.put]); (try simp only [List.getElem_toArray]); (try simp only [List.getElem_cons_succ]); (try simp only [List.getElem_cons_zero]); (try simp only [List.setIfInBounds_toArray]); (try simp only [List.set_cons_succ]); (try simp only [List.set_cons_zero])
      refine wpAnyH_ready (rs := [14]) (by kernel_rfl) (by simp) ?_
      refine AllReadyH.cons rfl (fun K hK => ?_) AllReadyH.nil
      have rowG := (M9r.keep kd (fun h => h)).keep k11' hgP
      have z4 := rowG.cell 0
      (try simp only [List.getElem?_cons_zero] at z4)
      have zf := rowG.frozen 0
      go_simp
      clear z4 zf
      refine hK.out _ _ (trivial) (fun hHeld => ?_)
      clear hK K
      (try simp only [Act.put]); (try simp only [List.getElem_toArray]); (try simp only [List.getElem_cons_succ]); (try simp only [List.getElem_cons_zero]); (try simp only [List.setIfInBounds_toArray]); (try simp only [List.set_cons_succ]); (try simp only [List.set_cons_zero])
      refine wpAnyH_done (by kernel_rfl) ?_ _
      clear hHeld
      have kG : Keep (· = g) w11 (w11.setCell ⟨g, 0, none⟩ (.slice aQ (L.length + 1) cQ)) := (Keep.refl (· = g) w11).setCell (p := ⟨g, 0, none⟩) (fun _ => rfl) _
      have hs11 := k11.size
      have hsG := kG.size
      have hgw9 := M9r.lt
      have kFin : Keep (fun b => b = bP ∨ b = g) w9 (w11.setCell ⟨g, 0, none⟩ (.slice aQ (L.length + 1) cQ)) := ((kd.nix.trans k11').mono (fun _ h => .inl h)).trans (kG.mono (fun _ h => .inr h))
      have hvA : ∀ b, OwnB (.slice a10 5 c10) b → w9.heap.size ≤ b ∧ ¬ OwnB (.slice aQ (L.length + 1) cQ) b := fun b hb => by
        have h1 := own10.lt b hb
        have h9 := HS9.out
        refine ⟨by omega, fun h => ?_⟩
        rcases hfr11 b h with h2 | h2
        · have e2 : bP = b := Option.some.inj h2; have := HP9.out; omega
        · omega
      have pgN : PageIs (w11.setCell ⟨g, 0, none⟩ (.slice aQ (L.length + 1) cQ)) (fun b => B b ∨ (bp < b ∧ b < w3.heap.size)) (.slice a10 5 c10) (ln.drop 4) :=
        ⟨a10, c10, css9.drop 4, by rw [hd4], by
          rw [hd4, hd12]
          exact own_weak (owned_keep (owned_keep own10 k11' (fun b hb e => by have := (hvA b hb).1; have := HP9.out; omega)) kG (fun b hb e => by have := (hvA b hb).1; omega)),
         ((els8.keep rGPair_lawful (kd.nix.trans k11') (fun b hb => HNP.out b hb)).keep rGPair_lawful kG (fun b hb => HNG.out b hb)).dropN 4⟩
      have M10 := M8.insPage (j := i + 1) (by rw [hLs]; omega) kFin (fun b hb => hb.imp (fun h => by rw [h]; rfl) id) (aQ := aQ) (cQ := cQ) (by rw [hLs]; exact rowG.set 0 _)
        (by rw [hLs]
            have e : insAt (S.set i (.slice a8 4 c8)) (i + 1) (.slice a10 5 c10) = ((S.set i (.slice a8 4 c8))).take (i + 1) ++ [.slice a10 5 c10] ++ ((S.set i (.slice a8 4 c8))).drop (i + 1) := by unfold insAt; simp
            rw [e]
            exact owned_keep own11 kG (fun b hb e => by
              rcases hfr11 b hb with h2 | h2
              · have e2 : bP = b := Option.some.inj h2; exact hgP (by rw [e2, e])
              · have := kd.size; omega))
        (fun b hb => by
          rw [hLs] at hb
          rw [hLs]
          exact (hfr11 b hb).imp id (fun h => by have := kd.size; omega)) pgN (fun b hb => by rw [hLs]; exact hvA b hb)
      have hins : insF L i k false x = insAt (L.set i (ln.take 4)) (i + 1) (ln.drop 4) := by
        unfold insF insAt
        rw [List.getElem?_eq_getElem hi, List.drop_set_of_lt (by omega)]
        simp only [Bool.false_eq_true, if_false, HLN.out]
        rw [if_neg (by omega)]
      have hwW : w.heap.size ≤ w7.heap.size := kW.size
      have h79 : w7.heap.size ≤ w9.heap.size := k79.size
      have kAll : Keep O w (w11.setCell ⟨g, 0, none⟩ (.slice aQ (L.length + 1) cQ)) := ((kW.mono (fun b hb => hb.elim (fun h => by rw [h]; exact hOi) (fun h => by rw [h]; exact hOP))).trans (k79.mono (fun b hb => by rw [hb]; exact hOP))).trans (kFin.mono (fun b hb => hb.elim (fun h => by rw [h]; exact hOP) (fun h => by rw [h]; exact HM.out.og)))
      clear pgN own11 own10 rowM els8 els7 M8 M7 M7r M9r own9 own9r rowP9 rowP8 row68 row6 rowP7 own7 own8 hon8 hon9 rowG HNP HNG lt4 lt9 lt9b
      go_wp2_with fail
      go_ret
      exact ⟨by rw [hm0.out]; rfl, fun h => absurd hm0.out h, fun _ => ⟨i, k, false, _, _, _, _, _, fun _ => HFP.out, by rw [hins]; exact M10, fun b hb => by
        rcases hb with ((h | h) | h) | h
        · exact .inl h
        · exact .inr h.1
        · exact .inr (by have := h.1; omega)
        · exact .inr (by have := h.1; omega), kAll⟩⟩
    · go_simp
      have hs9 := kd.size
      have HS9 := Lib.hid hs9
      go_fit (clP_c (p := (· = b6)) ⟨b6, 12, none⟩ 5 (c6 - 4) (css9.flatten.drop 12) _ (by rw [List.length_drop]; omega) (lt9b.keep kd (fun _ _ h => h)) (fun u hu => hon9 u (List.mem_of_mem_drop hu)) (by omega))
      rintro e w10 ⟨a10, c10, rfl, own10, k10⟩
      replace kd := kd.trans k10
      go_wp2_with fail
      refine hK.out _ _ (trivial) (fun hHeld => ?_)
      clear hK K
      (try simp only [Act.put]); (try simp only [List.getElem_toArray]); (try simp only [List.getElem_cons_succ]); (try simp only [List.getElem_cons_zero]); (try simp only [List.setIfInBounds_toArray]); (try simp only [List.set_cons_succ]); (try simp only [List.set_cons_zero])
      refine wpAnyH_ready (rs := [4, 10]) (by kernel_rfl) (by simp) ?_
      refine AllReadyH.cons rfl (fun K hK => ?_) (AllReadyH.cons rfl (fun K hK => ?_) AllReadyH.nil)
      · have z4 := (M9r.keep kd (fun h => h)).cell 0
        (try simp only [List.getElem?_cons_zero] at z4)
        go_simp
        clear z4
        refine hK.out _ _ (trivial) (fun hHeld => ?_)
        clear hK K
        (try simp only [Act.put]); (try simp only [List.getElem_toArray]); (try simp only [List.getElem_cons_succ]); (try simp only [List.getElem_cons_zero]); (try simp only [List.setIfInBounds_toArray]); (try simp only [List.set_cons_succ]); (try simp only [List.set_cons_zero])
        refine wpAnyH_ready (rs := [10]) (by kernel_rfl) (by simp) ?_
        refine AllReadyH.cons rfl (fun K hK => ?_) AllReadyH.nil
        go_simp
        obtain ⟨rowM, kA, hgm, -⟩ := kk_alloc kd #[.slice a10 5 c10] 22
        have HGM := Lib.hid hgm
        replace kd := kA
        replace own10 := owned_keep own10 ((Keep.refl Nix w10).alloc (.cells #[.slice a10 5 c10] 22)) (fun _ _ h => h)
        clear kA hgm
        refine hK.out _ _ (trivial) (fun hHeld => ?_)
        clear hK K
        (try simp only [Act.put]); (try simp only [List.getElem_toArray]); (try simp only [List.getElem_cons_succ]); (try simp only [List.getElem_cons_zero]); (try simp only [List.setIfInBounds_toArray]); (try simp only [List.set_cons_succ]); (try simp only [List.set_cons_zero])
        generalize w10.alloc (.cells #[.slice a10 5 c10] 22) = wA at *
        refine wpAnyH_ready (rs := [11]) (by kernel_rfl) (by simp) ?_
        refine AllReadyH.cons rfl (fun K hK => ?_) AllReadyH.nil
        go_simp
        go_fit (Insert_iB _ 0 L.length cP (i + 1) _ _ (some ⟨bP, 0, none⟩) (S.set i (.slice a8 4 c8)) [.slice a10 5 c10] (owned_keep own9r kd (fun _ _ h => h)) hL0 hon8 rowM rfl (fun u hu => List.all_eq_true.1 (show ([.slice a10 5 c10] : List Value).all Value.oneCell' = true from rfl) u hu) (fun h => by have e2 : bP = _ := Option.some.inj h; have := HGM.out; omega) (by omega) (by omega) (Nat.zero_le _) (by omega))
        rintro e w11 ⟨v11, rfl, own11, hfr11, k11⟩
        obtain ⟨aQ, cQ, rfl⟩ := owned_shape own11
        have k11' : Keep (· = bP) _ w11 := k11.mono (T := (· = bP)) (fun b hb => by have e2 : some bP = some b := hb; cases e2; rfl)
        go_wp2_with fail
        refine hK.out _ _ (trivial) (fun hHeld => ?_)
        clear hK K
        (try simp only [Act.put]); (try simp only [List.getElem_toArray]); (try simp only [List.getElem_cons_succ]); (try simp only [List.getElem_cons_zero]); (try simp only [List.setIfInBounds_toArray]); (try simp only [List.set_cons_succ]); (try simp only [List.set_cons_zero])
        refine wpAnyH_take (i := 12) (v := ?_) rfl (by kernel_rfl) (by kernel_rfl) (by kernel_rfl) (fun _ _ _ h => h) (Or.inl ⟨by kernel_rfl, ?_⟩) hHeld ?_
        rotate_left
        · intro w' hSw
          (try dsimp only at hSw)
          (try simp only [List.getElem_toArray]); (try simp only [List.getElem_cons_succ]); (try simp only [List.getElem_cons_zero])
          go_simp
          try with_reducible rfl
        (try simp only [Act.put]); (try simp only [List.getElem_toArray]); (try simp only [List.getElem_cons_succ]); (try simp only [List.getElem_cons_zero]); (try simp only [List.setIfInBounds_toArray]); (try simp only [List.set_cons_succ]); (try simp only [List.set_cons_zero])
        refine wpAnyH_take (i := 13) (v := ?_) rfl (by kernel_rfl) (by kernel_rfl) (by kernel_rfl) (fun _ _ _ h => h) (Or.inl ⟨by kernel_rfl, ?_⟩) hHeld ?_
        rotate_left
        · intro w' hSw
          (try dsimp only at hSw)
          (try simp only [List.getElem_toArray]); (try simp only [List.getElem_cons_succ]); (try simp only [List.getElem_cons_zero])
          go_simp
          try with_reducible rfl
        (try simp only [Act.put]); (try simp only [List.getElem_toArray]); (try simp only [List.getElem_cons_succ]); (try simp only [List.getElem_cons_zero]); (try simp only [List.setIfInBounds_toArray]); (try simp only [List.set_cons_succ]); (try simp only [List.set_cons_zero])
        refine wpAnyH_ready (rs := [14]) (by kernel_rfl) (by simp) ?_
        refine AllReadyH.cons rfl (fun K hK => ?_) AllReadyH.nil
        have rowG := (M9r.keep kd (fun h => h)).keep k11' hgP
        have z4 := rowG.cell 0
        (try simp only [List.getElem?_cons_zero] at z4)
        have zf := rowG.frozen 0
        go_simp
        clear z4 zf
        refine hK.out _ _ (trivial) (fun hHeld => ?_)
        clear hK K
        (try simp only [Act.put]); (try simp only [List.getElem_toArray]); (try simp only [List.getElem_cons_succ]); (try simp only [List.getElem_cons_zero]); (try simp only [List.setIfInBounds_toArray]); (try simp only [List.set_cons_succ]); (try simp only [List.set_cons_zero])
        refine wpAnyH_done (by kernel_rfl) ?_ _
        clear hHeld
        have kG : Keep (· = g) w11 (w11.setCell ⟨g, 0, none⟩ (.slice aQ (L.length + 1) cQ)) := (Keep.refl (· = g) w11).setCell (p := ⟨g, 0, none⟩) (fun _ => rfl) _
        have hs11 := k11.size
        have hsG := kG.size
        have hgw9 := M9r.lt
        have kFin : Keep (fun b => b = bP ∨ b = g) w9 (w11.setCell ⟨g, 0, none⟩ (.slice aQ (L.length + 1) cQ)) := ((kd.nix.trans k11').mono (fun _ h => .inl h)).trans (kG.mono (fun _ h => .inr h))
        have hvA : ∀ b, OwnB (.slice a10 5 c10) b → w9.heap.size ≤ b ∧ ¬ OwnB (.slice aQ (L.length + 1) cQ) b := fun b hb => by
          have h1 := own10.lt b hb
          have h9 := HS9.out
          refine ⟨by omega, fun h => ?_⟩
          rcases hfr11 b h with h2 | h2
          · have e2 : bP = b := Option.some.inj h2; have := HP9.out; omega
          · omega
        have pgN : PageIs (w11.setCell ⟨g, 0, none⟩ (.slice aQ (L.length + 1) cQ)) (fun b => B b ∨ (bp < b ∧ b < w3.heap.size)) (.slice a10 5 c10) (ln.drop 4) :=
          ⟨a10, c10, css9.drop 4, by rw [hd4], by
            rw [hd4, hd12]
            exact own_weak (owned_keep (owned_keep own10 k11' (fun b hb e => by have := (hvA b hb).1; have := HP9.out; omega)) kG (fun b hb e => by have := (hvA b hb).1; omega)),
           ((els8.keep rGPair_lawful (kd.nix.trans k11') (fun b hb => HNP.out b hb)).keep rGPair_lawful kG (fun b hb => HNG.out b hb)).dropN 4⟩
        have M10 := M8.insPage (j := i + 1) (by rw [hLs]; omega) kFin (fun b hb => hb.imp (fun h => by rw [h]; rfl) id) (aQ := aQ) (cQ := cQ) (by rw [hLs]; exact rowG.set 0 _)
          (by rw [hLs]
              have e : insAt (S.set i (.slice a8 4 c8)) (i + 1) (.slice a10 5 c10) = ((S.set i (.slice a8 4 c8))).take (i + 1) ++ [.slice a10 5 c10] ++ ((S.set i (.slice a8 4 c8))).drop (i + 1) := by unfold insAt; simp
              rw [e]
              exact owned_keep own11 kG (fun b hb e => by
                rcases hfr11 b hb with h2 | h2
                · have e2 : bP = b := Option.some.inj h2; exact hgP (by rw [e2, e])
                · have := kd.size; omega))
          (fun b hb => by
            rw [hLs] at hb
            rw [hLs]
            exact (hfr11 b hb).imp id (fun h => by have := kd.size; omega)) pgN (fun b hb => by rw [hLs]; exact hvA b hb)
        have hins : insF L i k false x = insAt (L.set i (ln.take 4)) (i + 1) (ln.drop 4) := by
          unfold insF insAt
          rw [List.getElem?_eq_getElem hi, List.drop_set_of_lt (by omega)]
          simp only [Bool.false_eq_true, if_false, HLN.out]
          rw [if_neg (by omega)]
        have hwW : w.heap.size ≤ w7.heap.size := kW.size
        have h79 : w7.heap.size ≤ w9.heap.size := k79.size
        have kAll : Keep O w (w11.setCell ⟨g, 0, none⟩ (.slice aQ (L.length + 1) cQ)) := ((kW.mono (fun b hb => hb.elim (fun h => by rw [h]; exact hOi) (fun h => by rw [h]; exact hOP))).trans (k79.mono (fun b hb => by rw [hb]; exact hOP))).trans (kFin.mono (fun b hb => hb.elim (fun h => by rw [h]; exact hOP) (fun h => by rw [h]; exact HM.out.og)))
        clear pgN own11 own10 rowM els8 els7 M8 M7 M7r M9r own9 own9r rowP9 rowP8 row68 row6 rowP7 own7 own8 hon8 hon9 rowG HNP HNG lt4 lt9 lt9b
        go_wp2_with fail
        go_ret
        exact ⟨by rw [hm0.out]; rfl, fun h => absurd hm0.out h, fun _ => ⟨i, k, false, _, _, _, _, _, fun _ => HFP.out, by rw [hins]; exact M10, fun b hb => by
          rcases hb with ((h | h) | h) | h
          · exact .inl h
          · exact .inr h.1
          · exact .inr (by have := h.1; omega)
          · exact .inr (by have := h.1; omega), kAll⟩⟩
      · go_simp
        obtain ⟨rowM, kA, hgm, -⟩ := kk_alloc kd #[.slice a10 5 c10] 22
        have HGM := Lib.hid hgm
        replace kd := kA
        replace own10 := owned_keep own10 ((Keep.refl Nix w10).alloc (.cells #[.slice a10 5 c10] 22)) (fun _ _ h => h)
        clear kA hgm
        refine hK.out _ _ (trivial) (fun hHeld => ?_)
        clear hK K
        (try simp only [Act.put]); (try simp only [List.getElem_toArray]); (try simp only [List.getElem_cons_succ]); (try simp only [List.getElem_cons_zero]); (try simp only [List.setIfInBounds_toArray]); (try simp only [List.set_cons_succ]); (try simp only [List.set_cons_zero])
        generalize w10.alloc (.cells #[.slice a10 5 c10] 22) = wA at *
        refine wpAnyH_ready (rs := [4]) (by kernel_rfl) (by simp) ?_
        refine AllReadyH.cons rfl (fun K hK => ?_) AllReadyH.nil
        have z4 := (M9r.keep kd (fun h => h)).cell 0
        (try simp only [List.getElem?_cons_zero] at z4)
        go_simp
        clear z4
        refine hK.out _ _ (trivial) (fun hHeld => ?_)
        clear hK K
        (try simp only [Act.put]); (try simp only [List.getElem_toArray]); (try simp only [List.getElem_cons_succ]); (try simp only [List.getElem_cons_zero]); (try simp only [List.setIfInBounds_toArray]); (try simp only [List.set_cons_succ]); (try simp only [List.set_cons_zero])
        refine wpAnyH_ready (rs := [11]) (by kernel_rfl) (by simp) ?_
        refine AllReadyH.cons rfl (fun K hK => ?_) AllReadyH.nil
        go_simp
        go_fit (Insert_iB _ 0 L.length cP (i + 1) _ _ (some ⟨bP, 0, none⟩) (S.set i (.slice a8 4 c8)) [.slice a10 5 c10] (owned_keep own9r kd (fun _ _ h => h)) hL0 hon8 rowM rfl (fun u hu => List.all_eq_true.1 (show ([.slice a10 5 c10] : List Value).all Value.oneCell' = true from rfl) u hu) (fun h => by have e2 : bP = _ := Option.some.inj h; have := HGM.out; omega) (by omega) (by omega) (Nat.zero_le _) (by omega))
        rintro e w11 ⟨v11, rfl, own11, hfr11, k11⟩
        obtain ⟨aQ, cQ, rfl⟩ := owned_shape own11
        have k11' : Keep (· = bP) _ w11 := k11.mono (T := (· = bP)) (fun b hb => by have e2 : some bP = some b := hb; cases e2; rfl)
        go_wp2_with fail
        refine hK.out _ _ (trivial) (fun hHeld => ?_)
        clear hK K
        (try simp only [Act.put]); (try simp only [List.getElem_toArray]); (try simp only [List.getElem_cons_succ]); (try simp only [List.getElem_cons_zero]); (try simp only [List.setIfInBounds_toArray]); (try simp only [List.set_cons_succ]); (try simp only [List.set_cons_zero])
        refine wpAnyH_take (i := 12) (v := ?_) rfl (by kernel_rfl) (by kernel_rfl) (by kernel_rfl) (fun _ _ _ h => h) (Or.inl ⟨by kernel_rfl, ?_⟩) hHeld ?_
        rotate_left
        · intro w' hSw
          (try dsimp only at hSw)
          (try simp only [List.getElem_toArray]); (try simp only [List.getElem_cons_succ]); (try simp only [List.getElem_cons_zero])
          go_simp
          try with_reducible rfl
        (try simp only [Act.put]); (try simp only [List.getElem_toArray]); (try simp only [List.getElem_cons_succ]); (try simp only [List.getElem_cons_zero]); (try simp only [List.setIfInBounds_toArray]); (try simp only [List.set_cons_succ]); (try simp only [List.set_cons_zero])
        refine wpAnyH_take (i := 13) (v := ?_) rfl (by kernel_rfl) (by kernel_rfl) (by kernel_rfl) (fun _ _ _ h => h) (Or.inl ⟨by kernel_rfl, ?_⟩) hHeld ?_
        rotate_left
        · intro w' hSw
          (try dsimp only at hSw)
          (try simp only [List.getElem_toArray]); (try simp only [List.getElem_cons_succ]); (try simp only [List.getElem_cons_zero])
          go_simp
          try with_reducible rfl
        (try simp only [Act.put]); (try simp only [List.getElem_toArray]); (try simp only [List.getElem_cons_succ]); (try simp only [List.getElem_cons_zero]); (try simp only [List.setIfInBounds_toArray]); (try simp only [List.set_cons_succ]); (try simp only [List.set_cons_zero])
        refine wpAnyH_ready (rs := [14]) (by kernel_rfl) (by simp) ?_
        refine AllReadyH.cons rfl (fun K hK => ?_) AllReadyH.nil
        have rowG := (M9r.keep kd (fun h => h)).keep k11' hgP
        have z4 := rowG.cell 0
        (try simp only [List.getElem?_cons_zero] at z4)
        have zf := rowG.frozen 0
        go_simp
        clear z4 zf
        refine hK.out _ _ (trivial) (fun hHeld => ?_)
        clear hK K
        (try simp only [Act.put]); (try simp only [List.getElem_toArray]); (try simp only [List.getElem_cons_succ]); (try simp only [List.getElem_cons_zero]); (try simp only [List.setIfInBounds_toArray]); (try simp only [List.set_cons_succ]); (try simp only [List.set_cons_zero])
        refine wpAnyH_done (by kernel_rfl) ?_ _
        clear hHeld
        have kG : Keep (· = g) w11 (w11.setCell ⟨g, 0, none⟩ (.slice aQ (L.length + 1) cQ)) := (Keep.refl (· = g) w11).setCell (p := ⟨g, 0, none⟩) (fun _ => rfl) _
        have hs11 := k11.size
        have hsG := kG.size
        have hgw9 := M9r.lt
        have kFin : Keep (fun b => b = bP ∨ b = g) w9 (w11.setCell ⟨g, 0, none⟩ (.slice aQ (L.length + 1) cQ)) := ((kd.nix.trans k11').mono (fun _ h => .inl h)).trans (kG.mono (fun _ h => .inr h))
        have hvA : ∀ b, OwnB (.slice a10 5 c10) b → w9.heap.size ≤ b ∧ ¬ OwnB (.slice aQ (L.length + 1) cQ) b := fun b hb => by
          have h1 := own10.lt b hb
          have h9 := HS9.out
          refine ⟨by omega, fun h => ?_⟩
          rcases hfr11 b h with h2 | h2
          · have e2 : bP = b := Option.some.inj h2; have := HP9.out; omega
          · omega
        have pgN : PageIs (w11.setCell ⟨g, 0, none⟩ (.slice aQ (L.length + 1) cQ)) (fun b => B b ∨ (bp < b ∧ b < w3.heap.size)) (.slice a10 5 c10) (ln.drop 4) :=
          ⟨a10, c10, css9.drop 4, by rw [hd4], by
            rw [hd4, hd12]
            exact own_weak (owned_keep (owned_keep own10 k11' (fun b hb e => by have := (hvA b hb).1; have := HP9.out; omega)) kG (fun b hb e => by have := (hvA b hb).1; omega)),
           ((els8.keep rGPair_lawful (kd.nix.trans k11') (fun b hb => HNP.out b hb)).keep rGPair_lawful kG (fun b hb => HNG.out b hb)).dropN 4⟩
        have M10 := M8.insPage (j := i + 1) (by rw [hLs]; omega) kFin (fun b hb => hb.imp (fun h => by rw [h]; rfl) id) (aQ := aQ) (cQ := cQ) (by rw [hLs]; exact rowG.set 0 _)
          (by rw [hLs]
              have e : insAt (S.set i (.slice a8 4 c8)) (i + 1) (.slice a10 5 c10) = ((S.set i (.slice a8 4 c8))).take (i + 1) ++ [.slice a10 5 c10] ++ ((S.set i (.slice a8 4 c8))).drop (i + 1) := by unfold insAt; simp
              rw [e]
              exact owned_keep own11 kG (fun b hb e => by
                rcases hfr11 b hb with h2 | h2
                · have e2 : bP = b := Option.some.inj h2; exact hgP (by rw [e2, e])
                · have := kd.size; omega))
          (fun b hb => by
            rw [hLs] at hb
            rw [hLs]
            exact (hfr11 b hb).imp id (fun h => by have := kd.size; omega)) pgN (fun b hb => by rw [hLs]; exact hvA b hb)
        have hins : insF L i k false x = insAt (L.set i (ln.take 4)) (i + 1) (ln.drop 4) := by
          unfold insF insAt
          rw [List.getElem?_eq_getElem hi, List.drop_set_of_lt (by omega)]
          simp only [Bool.false_eq_true, if_false, HLN.out]
          rw [if_neg (by omega)]
        have hwW : w.heap.size ≤ w7.heap.size := kW.size
        have h79 : w7.heap.size ≤ w9.heap.size := k79.size
        have kAll : Keep O w (w11.setCell ⟨g, 0, none⟩ (.slice aQ (L.length + 1) cQ)) := ((kW.mono (fun b hb => hb.elim (fun h => by rw [h]; exact hOi) (fun h => by rw [h]; exact hOP))).trans (k79.mono (fun b hb => by rw [hb]; exact hOP))).trans (kFin.mono (fun b hb => hb.elim (fun h => by rw [h]; exact hOP) (fun h => by rw [h]; exact HM.out.og)))
        clear pgN own11 own10 rowM els8 els7 M8 M7 M7r M9r own9 own9r rowP9 rowP8 row68 row6 rowP7 own7 own8 hon8 hon9 rowG HNP HNG lt4 lt9 lt9b
        go_wp2_with fail
        go_ret
        exact ⟨by rw [hm0.out]; rfl, fun h => absurd hm0.out h, fun _ => ⟨i, k, false, _, _, _, _, _, fun _ => HFP.out, by rw [hins]; exact M10, fun b hb => by
          rcases hb with ((h | h) | h) | h
          · exact .inl h
          · exact .inr h.1
          · exact .inr (by have := h.1; omega)
          · exact .inr (by have := h.1; omega), kAll⟩⟩
end Go.Proofs.Ythkocgpbpgfocaa
