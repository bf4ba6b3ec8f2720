/- LOCK: in (lock's own) and Within (the laws'): a key in a span. Printed by mac.py. -/
import Derived.Test.YtfagejfcibgigaaQOrd
import Derived.Test.YtfagejfcibgigaaQOpens
import Derived.Test.YtfagejfcibgigaaQHelp
import Derived.Laws.Cover1
import Derived.Deep.RegionHeld3
import Derived.Test.YtfagejfcibgigaaQWhole
namespace Go.Proofs.Ytfagejfcibgigaa
open Go.RowKit

def withinF (s : GSpan) (key : List UInt8) : Bool := !ltB key s.fFrom && (s.fTo.isEmpty || ltB key s.fTo)
set_option maxRecDepth 100000 in
theorem in_c {p q : Nat → Prop} (s : GSpan) (css : List Value) (a : Option Addr) (cap : Nat) (l : List UInt8) (w : World) (hs : rGSpan w p css s) (hl : Lies w q a (l.map bv)) :
    Calls Try.prog 51 #[.agg css.toArray, .slice a l.length cap] w fun e w' => e = .returned (.bool (withinF s l)) ∧ Keep Nix w w' := by
  obtain ⟨sF, dF, sT, dT, rfl, h1, h2, -⟩ := rGSpan_open hs
  have kk : Keep Nix w (w.alloc (.cells #[.slice sF s.fFrom.length dF, .slice sT s.fTo.length dT] 46)) := (Keep.refl Nix w).alloc _
  have row0 : RowIs (w.alloc (.cells #[.slice sF s.fFrom.length dF, .slice sT s.fTo.length dT] 46)) w.heap.size 46 [.slice sF s.fFrom.length dF, .slice sT s.fTo.length dT] := RowIs.alloc w _ _
  have c1 := cmpB_c a sF l.length cap s.fFrom.length dF l s.fFrom _ rfl rfl (hl.keep kk (fun _ _ h => h)) (h1.1.keep kk (fun _ _ h => h))
  have c2 := cmpB_c a sT l.length cap s.fTo.length dT l s.fTo _ rfl rfl (hl.keep kk (fun _ _ h => h)) (h2.1.keep kk (fun _ _ h => h))
  have e1 : Hid (ltB l s.fFrom = decide (Lib.compareBytes l s.fFrom < 0)) := (cmp_lt _ _).symm
  have e2 : Hid (ltB l s.fTo = decide (Lib.compareBytes l s.fTo < 0)) := (cmp_lt _ _).symm
  generalize Lib.compareBytes l s.fFrom = m1 at *
  generalize Lib.compareBytes l s.fTo = m2 at *
  obtain ⟨y, HY⟩ : ∃ y, Hid (withinF s l = y) := ⟨_, rfl⟩
  rw [HY.out]
  have x0 := row0.cell 0
  (try simp only [List.getElem?_cons_zero] at x0)
  have x1 := row0.cell 1
  (try simp only [List.getElem?_cons_succ] at x1); (try simp only [List.getElem?_cons_zero] at x1)
  clear hs hl h1 h2 row0
  rcases Int.lt_or_le m1 0 with t | t
  · have e : Hid (y = false) := by show _ = _; rw [← HY.out, withinF, e1.out]; simp [t]
    have t2 : ¬ 0 ≤ m1 := by omega
    go_enter Try.func51, Try.ntmps51
    go_wp2_with fail
    go_fit c1
    rintro e w' ⟨rfl, rfl⟩
    go_wp2_with fail
    go_ret
    exact ⟨ret_bool e.out.symm, kk⟩
  · by_cases ht : s.fTo = []
    · have hn : ((s.fTo.length : Int) == 0) = true := by rw [ht]; rfl
      have e : Hid (y = true) := by show _ = _; rw [← HY.out, withinF, e1.out, ht]; simp [t]
      clear ht
      go_enter Try.func51, Try.ntmps51
      go_wp2_with fail
      go_fit c1
      rintro e w' ⟨rfl, rfl⟩
      go_wp2_with fail
      go_ret
      exact ⟨ret_bool e.out.symm, kk⟩
    · have hn : ((s.fTo.length : Int) == 0) = false := by
        have : s.fTo.length ≠ 0 := fun e => ht (List.eq_nil_of_length_eq_zero e)
        simp only [beq_eq_false_iff_ne]; omega
      have e : Hid (y = decide (m2 < 0)) := by
        show _ = _
        rw [← HY.out, withinF, e1.out, e2.out]
        have : s.fTo.isEmpty = false := by cases h : s.fTo with
          | nil => exact absurd h ht
          | cons _ _ => rfl
        rw [this]; simp [t]
      clear ht
      go_enter Try.func51, Try.ntmps51
      go_wp2_with fail
      go_fit c1
      rintro e w' ⟨rfl, rfl⟩
      go_wp2_with fail
      go_fit c2
      rintro e w' ⟨rfl, rfl⟩
      go_wp2_with fail
      go_ret
      exact ⟨ret_bool e.out.symm, kk⟩
theorem len0 {α : Type} {l : List α} (h : l = []) : ((l.length : Int) == 0) = true := by rw [h]; rfl
theorem len1 {α : Type} {l : List α} (h : l ≠ []) : ((l.length : Int) == 0) = false := by
  have : l.length ≠ 0 := fun e => h (List.eq_nil_of_length_eq_zero e)
  simp only [beq_eq_false_iff_ne]; omega
set_option maxRecDepth 100000 in
theorem within_c {p q : Nat → Prop} (s : GSpan) (css : List Value) (a : Option Addr) (cap : Nat) (l : List UInt8) (w : World) (hs : rGSpan w p css s) (hl : Lies w q a (l.map bv)) :
    Calls Try.prog 18 #[.agg css.toArray, .slice a l.length cap] w fun e w' => e = .returned (.bool (withinF s l)) ∧ Keep Nix w w' := by
  obtain ⟨sF, dF, sT, dT, rfl, h1, h2, -⟩ := rGSpan_open hs
  have kk : Keep Nix w (w.alloc (.cells #[.slice sF s.fFrom.length dF, .slice sT s.fTo.length dT] 46)) := (Keep.refl Nix w).alloc _
  have row0 : RowIs (w.alloc (.cells #[.slice sF s.fFrom.length dF, .slice sT s.fTo.length dT] 46)) w.heap.size 46 [.slice sF s.fFrom.length dF, .slice sT s.fTo.length dT] := RowIs.alloc w _ _
  have c0 := conv_bytes (P := Try.prog) Try.underlying42 Try.underlying5 Try.underlying9 (cap := cap) rfl (hl.keep kk (fun _ _ h => h))
  have c1 := conv_bytes (P := Try.prog) Try.underlying42 Try.underlying5 Try.underlying9 (cap := dF) rfl (h1.1.keep kk (fun _ _ h => h))
  have c2 := conv_bytes (P := Try.prog) Try.underlying42 Try.underlying5 Try.underlying9 (cap := dT) rfl (h2.1.keep kk (fun _ _ h => h))
  obtain ⟨y, HY⟩ : ∃ y, Hid (withinF s l = y) := ⟨_, rfl⟩
  rw [HY.out]
  obtain ⟨v1, e1⟩ : ∃ v, ltB l s.fFrom = v := ⟨_, rfl⟩
  obtain ⟨v2, e2⟩ : ∃ v, ltB l s.fTo = v := ⟨_, rfl⟩
  have H1 := Lib.hid e1
  have H2 := Lib.hid e2
  have b1 : Op.bytesLess (strB l).toList (strB s.fFrom).toList = v1 := by rw [strB_toList, strB_toList]; exact e1
  have b2 : Op.bytesLess (strB l).toList (strB s.fTo).toList = v2 := by rw [strB_toList, strB_toList]; exact e2
  have x0 := row0.cell 0
  (try simp only [List.getElem?_cons_zero] at x0)
  have x1 := row0.cell 1
  (try simp only [List.getElem?_cons_succ] at x1); (try simp only [List.getElem?_cons_zero] at x1)
  clear hs hl h1 h2 row0 e1 e2
  cases v1 with
  | true =>
    have e : Hid (y = false) := by show _ = _; rw [← HY.out, withinF, H1.out]; rfl
    go_enter Try.func18, Try.ntmps18
    go_wp2_with fail
    go_ret
    exact ⟨ret_bool e.out.symm, kk⟩
  | false =>
    by_cases ht : s.fTo = []
    · have hn := len0 ht
      have e : Hid (y = true) := by show _ = _; rw [← HY.out, withinF, H1.out, ht]; rfl
      clear ht
      go_enter Try.func18, Try.ntmps18
      go_wp2_with fail
      go_ret
      exact ⟨ret_bool e.out.symm, kk⟩
    · have hn := len1 ht
      have e : Hid (y = v2) := by
        show _ = _
        rw [← HY.out, withinF, H1.out, H2.out, show s.fTo.isEmpty = false from by simpa using ht]; rfl
      clear ht
      go_enter Try.func18, Try.ntmps18
      go_wp2_with fail
      go_ret
      exact ⟨ret_bool e.out.symm, kk⟩
end Go.Proofs.Ytfagejfcibgigaa
namespace Go.Proofs.Ytfagejfcibgigaa
open Go.RowKit

def findB {α : Type} (P : α → Bool) (l : List α) : Int := match l.findIdx? P with
  | some i => (i : Int)
  | none => -1
theorem findB_at {α : Type} {P : α → Bool} {l : List α} (k : Nat) (h : k < l.length) (hn : ∀ j, j < k → ∀ x, l[j]? = some x → P x = false) (hp : P l[k] = true) : findB P l = (k : Int) := by
  have : l.findIdx? P = some k := by
    rw [List.findIdx?_eq_some_iff_getElem]
    exact ⟨h, hp, fun j hj => by simp [hn j hj _ (List.getElem?_eq_getElem (by omega))]⟩
  unfold findB; rw [this]
theorem findB_none {α : Type} {P : α → Bool} {l : List α} (hn : ∀ j, j < l.length → ∀ x, l[j]? = some x → P x = false) : findB P l = -1 := by
  have : l.findIdx? P = none := by
    rw [List.findIdx?_eq_none_iff]
    intro x hx
    obtain ⟨j, hj, rfl⟩ := List.mem_iff_getElem.1 hx
    exact hn j hj _ (List.getElem?_eq_getElem hj)
  unfold findB; rw [this]
def NoneYet {α : Type} (P : α → Bool) (l : List α) (k : Nat) : Prop := ∀ j, j < k → ∀ x, l[j]? = some x → P x = false
theorem NoneYet.succ {α : Type} {P : α → Bool} {l : List α} {k : Nat} (h : NoneYet P l k) (hk : k < l.length) (hp : P l[k] = false) : NoneYet P l (k + 1) := fun j hj x hx => by
  by_cases e : j = k
  · subst e; rw [List.getElem?_eq_getElem hk] at hx; cases hx; exact hp
  · exact h j (by omega) x hx
theorem findB_any {α : Type} (P : α → Bool) (l : List α) : decide ((0 : Int) ≤ findB P l) = l.any P := by
  unfold findB
  cases h : l.findIdx? P with
  | none =>
    have : l.any P = false := by rw [List.any_eq_false]; intro x hx; have := List.findIdx?_eq_none_iff.1 h x hx; simpa using this
    rw [this]; decide
  | some k =>
    have : l.any P = true := by
      obtain ⟨hk, hp, -⟩ := List.findIdx?_eq_some_iff_getElem.1 h
      exact List.any_eq_true.2 ⟨_, List.getElem_mem hk, hp⟩
    rw [this]; simp
set_option maxHeartbeats 1000000 in
theorem ifBytes_c {p : Nat → Prop} (a : Option Addr) (n cap : Nat) (l : List (List UInt8)) (fv : FuncId) (u : Value) (P : List UInt8 → Bool) (w : World) (hl : rList rBytes w p [.slice a n cap] l)
    (hE : ∀ args w, (callFunc fv args).run Try.prog w = .ok (.enter fv args) w) (hF : (∀ (w' : World) (x : List UInt8) (ax : Option Addr) (cx : Nat), Keep Nix w w' → x ∈ l → Lies w' p ax (x.map bv) → Calls Try.prog fv #[.slice ax x.length cx, u] w' fun e w'' => e = .returned (.bool (P x)) ∧ Keep Nix w' w'')) :
    Calls Try.prog 73 #[.slice a n cap, .func (.func fv) #[] #[u]] w fun e w' => e = .returned (.int .i64 (findB P l)) ∧ Keep Nix w w' := by
  obtain ⟨rfl, -, hf⟩ := rList_len hl
  have hfar : l.length ≤ 9223372036854775807 := by have := far_len; unfold maxLen at this; omega
  have HF := Lib.hid hF
  clear hf hF
  go_enter Try.func73, Try.ntmps73
  go_wp2_with fail
  go_loopw [8] (fun i wr => ∃ k : Nat, k ≤ l.length ∧ i = .int .i64 k ∧ Hid (NoneYet P l k) ∧ Keep Nix w wr) (fun i _ => l.length - (intOf i).toNat)
  case atStart => exact ⟨0, by omega, rfl, fun j hj => by omega, Keep.refl _ _⟩
  case round =>
    obtain ⟨k, hk, rfl, hg, kk⟩ := hrel
    by_cases hlt : k < l.length
    · have hi0 : (0 : Int) ≤ (k : Int) := by omega
      have hi1 : (k : Int) < (l.length : Int) := by omega
      have HM : Hid (l[k] ∈ l) := List.getElem_mem hlt
      have HA := Lib.hid (findB_at (P := P) k hlt hg.out)
      have HS := Lib.hid (hg.out.succ (P := P) hlt)
      obtain ⟨b, o, c, cs, e1, -, hb, r, hc⟩ := rList_at rBytes_lawful (by decide) ((rList_lawful rBytes_lawful).nix hl kk) k hlt
      simp only [List.cons.injEq, Value.slice.injEq, and_true] at e1
      obtain ⟨rfl, -, -⟩ := e1
      have c0 := hc 0
      clear hl hc
      generalize l[k] = x at HM HA HS r
      obtain ⟨ax, cx, rfl, hx, -⟩ := r
      have ld := c0 _ rfl
      (try simp only [Nat.mul_one, Nat.add_zero] at ld)
      have hcall := HF.out wr x ax cx kk HM.out hx
      clear hx c0
      rcases hP : P x with _ | _
      · rw [hP] at hcall
        have HP := Lib.hid hP
        have HC := Lib.hid hcall
        clear hP hcall
        go_wp2_with fail
        go_fit HC.out
        clear HC
        rintro e w2 ⟨rfl, k2⟩
        replace kk := kk.trans k2
        clear k2
        go_wp2_with fail
        go_roundw
        case rel => exact ⟨k + 1, by omega, by go_num, HS.out HP.out, kk⟩
        case measure => simp [intOf]; omega
      · rw [hP] at hcall
        have HP := Lib.hid hP
        have HC := Lib.hid hcall
        clear hP hcall
        go_wp2_with fail
        go_fit HC.out
        clear HC
        rintro e w2 ⟨rfl, k2⟩
        replace kk := kk.trans k2
        clear k2
        go_wp2_with fail
        go_ret
        exact ⟨ret_int (HA.out HP.out).symm, kk⟩
    · obtain rfl : k = l.length := by omega
      have HN := Lib.hid (findB_none (P := P) hg.out)
      go_wp2_with fail
      go_ret
      exact ⟨ret_int HN.out.symm, kk⟩
set_option maxHeartbeats 1000000 in
theorem cfBytes_c {p : Nat → Prop} (a : Option Addr) (n cap : Nat) (l : List (List UInt8)) (fv : FuncId) (u : Value) (P : List UInt8 → Bool) (w : World) (hl : rList rBytes w p [.slice a n cap] l)
    (hE : ∀ args w, (callFunc fv args).run Try.prog w = .ok (.enter fv args) w) (hF : (∀ (w' : World) (x : List UInt8) (ax : Option Addr) (cx : Nat), Keep Nix w w' → x ∈ l → Lies w' p ax (x.map bv) → Calls Try.prog fv #[.slice ax x.length cx, u] w' fun e w'' => e = .returned (.bool (P x)) ∧ Keep Nix w' w'')) :
    Calls Try.prog 49 #[.slice a n cap, .func (.func fv) #[] #[u]] w fun e w' => e = .returned (.bool (l.any P)) ∧ Keep Nix w w' := by
  have hif := ifBytes_c a n cap l fv u P w hl hE hF
  have HA := Lib.hid (findB_any P l)
  generalize findB P l = v at *
  generalize l.any P = y at *
  clear hl hE hF
  go_enter Try.func49, Try.ntmps49
  go_wp2_with fail
  go_fit hif
  rintro e w2 ⟨rfl, k2⟩
  go_wp2_with fail
  go_ret
  exact ⟨ret_bool HA.out, k2⟩
section
attribute [local go_sem ↓] ldz_Span
set_option maxHeartbeats 1000000 in
theorem ifSpan_c {p : Nat → Prop} (a : Option Addr) (n cap : Nat) (l : List GSpan) (fv : FuncId) (u : Value) (P : GSpan → Bool) (w : World) (hl : rList rGSpan w p [.slice a n cap] l)
    (hE : ∀ args w, (callFunc fv args).run Try.prog w = .ok (.enter fv args) w) (hF : (∀ (w' : World) (x : GSpan) (cs : List Value), Keep Nix w w' → x ∈ l → rGSpan w' p cs x → Calls Try.prog fv #[.agg cs.toArray, u] w' fun e w'' => e = .returned (.bool (P x)) ∧ Keep Nix w' w'')) :
    Calls Try.prog 75 #[.slice a n cap, .func (.func fv) #[] #[u]] w fun e w' => e = .returned (.int .i64 (findB P l)) ∧ Keep Nix w w' := by
  obtain ⟨rfl, -, hf⟩ := rList_len hl
  have hfar : l.length ≤ 9223372036854775807 := by have := far_len; unfold maxLen at this; omega
  have HF := Lib.hid hF
  clear hf hF
  go_enter Try.func75, Try.ntmps75
  go_wp2_with fail
  go_loopw [8] (fun i wr => ∃ k : Nat, k ≤ l.length ∧ i = .int .i64 k ∧ Hid (NoneYet P l k) ∧ Keep Nix w wr) (fun i _ => l.length - (intOf i).toNat)
  case atStart => exact ⟨0, by omega, rfl, fun j hj => by omega, Keep.refl _ _⟩
  case round =>
    obtain ⟨k, hk, rfl, hg, kk⟩ := hrel
    by_cases hlt : k < l.length
    · have hi0 : (0 : Int) ≤ (k : Int) := by omega
      have hi1 : (k : Int) < (l.length : Int) := by omega
      have HM : Hid (l[k] ∈ l) := List.getElem_mem hlt
      have HA := Lib.hid (findB_at (P := P) k hlt hg.out)
      have HS := Lib.hid (hg.out.succ (P := P) hlt)
      obtain ⟨b, o, c, cs, e1, -, hb, r, hc⟩ := rList_at rGSpan_lawful (by decide) ((rList_lawful rGSpan_lawful).nix hl kk) k hlt
      simp only [List.cons.injEq, Value.slice.injEq, and_true] at e1
      obtain ⟨rfl, -, -⟩ := e1
      have ld := Whole.at (P := Try.prog) S_Span (rGSpan_lawful.len r) hc
      unfold Whole at ld
      clear hl hc
      generalize l[k] = x at HM HA HS r
      have hcall := HF.out wr x cs kk HM.out r
      clear r
      rcases hP : P x with _ | _
      · rw [hP] at hcall
        have HP := Lib.hid hP
        have HC := Lib.hid hcall
        clear hP hcall
        go_wp2_with fail
        go_fit HC.out
        clear HC
        rintro e w2 ⟨rfl, k2⟩
        replace kk := kk.trans k2
        clear k2
        go_wp2_with fail
        go_roundw
        case rel => exact ⟨k + 1, by omega, by go_num, HS.out HP.out, kk⟩
        case measure => simp [intOf]; omega
      · rw [hP] at hcall
        have HP := Lib.hid hP
        have HC := Lib.hid hcall
        clear hP hcall
        go_wp2_with fail
        go_fit HC.out
        clear HC
        rintro e w2 ⟨rfl, k2⟩
        replace kk := kk.trans k2
        clear k2
        go_wp2_with fail
        go_ret
        exact ⟨ret_int (HA.out HP.out).symm, kk⟩
    · obtain rfl : k = l.length := by omega
      have HN := Lib.hid (findB_none (P := P) hg.out)
      go_wp2_with fail
      go_ret
      exact ⟨ret_int HN.out.symm, kk⟩
end
set_option maxHeartbeats 1000000 in
theorem cfSpan_c {p : Nat → Prop} (a : Option Addr) (n cap : Nat) (l : List GSpan) (fv : FuncId) (u : Value) (P : GSpan → Bool) (w : World) (hl : rList rGSpan w p [.slice a n cap] l)
    (hE : ∀ args w, (callFunc fv args).run Try.prog w = .ok (.enter fv args) w) (hF : (∀ (w' : World) (x : GSpan) (cs : List Value), Keep Nix w w' → x ∈ l → rGSpan w' p cs x → Calls Try.prog fv #[.agg cs.toArray, u] w' fun e w'' => e = .returned (.bool (P x)) ∧ Keep Nix w' w'')) :
    Calls Try.prog 52 #[.slice a n cap, .func (.func fv) #[] #[u]] w fun e w' => e = .returned (.bool (l.any P)) ∧ Keep Nix w w' := by
  have hif := ifSpan_c a n cap l fv u P w hl hE hF
  have HA := Lib.hid (findB_any P l)
  generalize findB P l = v at *
  generalize l.any P = y at *
  clear hl hE hF
  go_enter Try.func52, Try.ntmps52
  go_wp2_with fail
  go_fit hif
  rintro e w2 ⟨rfl, k2⟩
  go_wp2_with fail
  go_ret
  exact ⟨ret_bool HA.out, k2⟩
section
attribute [local go_sem ↓] ldz_Write
set_option maxHeartbeats 1000000 in
theorem ifWrite_c {p : Nat → Prop} (a : Option Addr) (n cap : Nat) (l : List GWrite) (fv : FuncId) (u : Value) (P : GWrite → Bool) (w : World) (hl : rList rGWrite w p [.slice a n cap] l)
    (hE : ∀ args w, (callFunc fv args).run Try.prog w = .ok (.enter fv args) w) (hF : (∀ (w' : World) (x : GWrite) (cs : List Value), Keep Nix w w' → x ∈ l → rGWrite w' p cs x → Calls Try.prog fv #[.agg cs.toArray, u] w' fun e w'' => e = .returned (.bool (P x)) ∧ Keep Nix w' w'')) :
    Calls Try.prog 66 #[.slice a n cap, .func (.func fv) #[] #[u]] w fun e w' => e = .returned (.int .i64 (findB P l)) ∧ Keep Nix w w' := by
  obtain ⟨rfl, -, hf⟩ := rList_len hl
  have hfar : l.length ≤ 9223372036854775807 := by have := far_len; unfold maxLen at this; omega
  have HF := Lib.hid hF
  clear hf hF
  go_enter Try.func66, Try.ntmps66
  go_wp2_with fail
  go_loopw [8] (fun i wr => ∃ k : Nat, k ≤ l.length ∧ i = .int .i64 k ∧ Hid (NoneYet P l k) ∧ Keep Nix w wr) (fun i _ => l.length - (intOf i).toNat)
  case atStart => exact ⟨0, by omega, rfl, fun j hj => by omega, Keep.refl _ _⟩
  case round =>
    obtain ⟨k, hk, rfl, hg, kk⟩ := hrel
    by_cases hlt : k < l.length
    · have hi0 : (0 : Int) ≤ (k : Int) := by omega
      have hi1 : (k : Int) < (l.length : Int) := by omega
      have HM : Hid (l[k] ∈ l) := List.getElem_mem hlt
      have HA := Lib.hid (findB_at (P := P) k hlt hg.out)
      have HS := Lib.hid (hg.out.succ (P := P) hlt)
      obtain ⟨b, o, c, cs, e1, -, hb, r, hc⟩ := rList_at rGWrite_lawful (by decide) ((rList_lawful rGWrite_lawful).nix hl kk) k hlt
      simp only [List.cons.injEq, Value.slice.injEq, and_true] at e1
      obtain ⟨rfl, -, -⟩ := e1
      have ld := Whole.at (P := Try.prog) S_Write (rGWrite_lawful.len r) hc
      unfold Whole at ld
      clear hl hc
      generalize l[k] = x at HM HA HS r
      have hcall := HF.out wr x cs kk HM.out r
      clear r
      rcases hP : P x with _ | _
      · rw [hP] at hcall
        have HP := Lib.hid hP
        have HC := Lib.hid hcall
        clear hP hcall
        go_wp2_with fail
        go_fit HC.out
        clear HC
        rintro e w2 ⟨rfl, k2⟩
        replace kk := kk.trans k2
        clear k2
        go_wp2_with fail
        go_roundw
        case rel => exact ⟨k + 1, by omega, by go_num, HS.out HP.out, kk⟩
        case measure => simp [intOf]; omega
      · rw [hP] at hcall
        have HP := Lib.hid hP
        have HC := Lib.hid hcall
        clear hP hcall
        go_wp2_with fail
        go_fit HC.out
        clear HC
        rintro e w2 ⟨rfl, k2⟩
        replace kk := kk.trans k2
        clear k2
        go_wp2_with fail
        go_ret
        exact ⟨ret_int (HA.out HP.out).symm, kk⟩
    · obtain rfl : k = l.length := by omega
      have HN := Lib.hid (findB_none (P := P) hg.out)
      go_wp2_with fail
      go_ret
      exact ⟨ret_int HN.out.symm, kk⟩
end
set_option maxHeartbeats 1000000 in
theorem cfWrite_c {p : Nat → Prop} (a : Option Addr) (n cap : Nat) (l : List GWrite) (fv : FuncId) (u : Value) (P : GWrite → Bool) (w : World) (hl : rList rGWrite w p [.slice a n cap] l)
    (hE : ∀ args w, (callFunc fv args).run Try.prog w = .ok (.enter fv args) w) (hF : (∀ (w' : World) (x : GWrite) (cs : List Value), Keep Nix w w' → x ∈ l → rGWrite w' p cs x → Calls Try.prog fv #[.agg cs.toArray, u] w' fun e w'' => e = .returned (.bool (P x)) ∧ Keep Nix w' w'')) :
    Calls Try.prog 37 #[.slice a n cap, .func (.func fv) #[] #[u]] w fun e w' => e = .returned (.bool (l.any P)) ∧ Keep Nix w w' := by
  have hif := ifWrite_c a n cap l fv u P w hl hE hF
  have HA := Lib.hid (findB_any P l)
  generalize findB P l = v at *
  generalize l.any P = y at *
  clear hl hE hF
  go_enter Try.func37, Try.ntmps37
  go_wp2_with fail
  go_fit hif
  rintro e w2 ⟨rfl, k2⟩
  go_wp2_with fail
  go_ret
  exact ⟨ret_bool HA.out, k2⟩
end Go.Proofs.Ytfagejfcibgigaa
namespace Go.Proofs.Ytfagejfcibgigaa
open Go.RowKit

def wrB (h : GHeld) (key : List UInt8) : Bool := h.fWrites.any (fun x => decide (x.fKey = key))
def rdB (h : GHeld) (key : List UInt8) : Bool := h.fKeys.any (fun k => decide (k = key)) || h.fSpans.any (fun s => withinF s key)
def toB (h : GHeld) (s : GSpan) : Bool := h.fWrites.any (fun x => withinF s x.fKey)
theorem equal_c {p q : Nat → Prop} (a b : Option Addr) (n ca m cb : Nat) (la lb : List UInt8) (w : World) (hn : la.length = n) (hm : lb.length = m) (ha : Lies w p a (la.map bv)) (hb : Lies w q b (lb.map bv)) :
    Calls Try.prog 68 #[.slice a n ca, .slice b m cb] w fun e w' => e = .returned (.bool (decide (la = lb))) ∧ w = w' := by
  have h1 := conv_bytes (P := Try.prog) Try.underlying42 Try.underlying5 Try.underlying9 (cap := ca) hn ha
  have h2 := conv_bytes (P := Try.prog) Try.underlying42 Try.underlying5 Try.underlying9 (cap := cb) hm hb
  clear ha hb hn hm
  go_enter Try.func68, Try.ntmps68
  go_wp2
  go_ret
  exact ⟨ret_bool (strB_eq _ _), rfl⟩
theorem writes1_c {p q : Nat → Prop} (x : GWrite) (cs : List Value) (b : Nat) (a : Option Addr) (cap : Nat) (l : List UInt8) (w : World) (hx : rGWrite w p cs x) (hb : b < w.heap.size) (hc : w.cell? ⟨b, 0, none⟩ = some (.slice a l.length cap)) (hl : Lies w q a (l.map bv)) :
    Calls Try.prog 70 #[.agg cs.toArray, .pointer (some ⟨b, 0, none⟩)] w fun e w' => e = .returned (.bool (decide (x.fKey = l))) ∧ Keep Nix w w' := by
  obtain ⟨aK, cK, aV, cV, rfl, hk, -⟩ := rGWrite_open hx
  have kk : Keep Nix w (w.alloc (.cells #[.slice aK x.fKey.length cK, .slice aV x.fValue.length cV, .bool x.fDrop] 48)) := (Keep.refl Nix w).alloc _
  have row0 : RowIs (w.alloc (.cells #[.slice aK x.fKey.length cK, .slice aV x.fValue.length cV, .bool x.fDrop] 48)) w.heap.size 48 [.slice aK x.fKey.length cK, .slice aV x.fValue.length cV, .bool x.fDrop] := RowIs.alloc w _ _
  have c0 : ((w.alloc (.cells #[.slice aK x.fKey.length cK, .slice aV x.fValue.length cV, .bool x.fDrop] 48))).cell? ⟨b, 0, none⟩ = some (.slice a l.length cap) := (kk.cell (p := ⟨b, 0, none⟩) hb id).trans hc
  have hE := equal_c aK a x.fKey.length cK l.length cap x.fKey l _ rfl rfl (hk.1.keep kk (fun _ _ h => h)) (hl.keep kk (fun _ _ h => h))
  have x0 := row0.cell 0
  (try simp only [List.getElem?_cons_zero] at x0)
  clear hx hc hl hk row0
  go_enter Try.func70, Try.ntmps70
  go_wp2_with fail
  go_fit hE
  rintro e w2 ⟨rfl, rfl⟩
  go_wp2_with fail
  go_ret
  exact ⟨rfl, kk⟩
theorem reads1_c {p q : Nat → Prop} (x : List UInt8) (ax : Option Addr) (cx : Nat) (b : Nat) (a : Option Addr) (cap : Nat) (l : List UInt8) (w : World) (hx : Lies w p ax (x.map bv)) (_hb : b < w.heap.size) (hc : w.cell? ⟨b, 0, none⟩ = some (.slice a l.length cap)) (hl : Lies w q a (l.map bv)) :
    Calls Try.prog 67 #[.slice ax x.length cx, .pointer (some ⟨b, 0, none⟩)] w fun e w' => e = .returned (.bool (decide (x = l))) ∧ Keep Nix w w' := by
  have hE := equal_c ax a x.length cx l.length cap x l w rfl rfl hx hl
  clear hx hl
  go_enter Try.func67, Try.ntmps67
  go_wp2_with fail
  go_fit hE
  rintro e w2 ⟨rfl, rfl⟩
  go_wp2_with fail
  go_ret
  exact ⟨rfl, Keep.refl _ _⟩
theorem reads2_c {p q : Nat → Prop} (s : GSpan) (cs : List Value) (b : Nat) (a : Option Addr) (cap : Nat) (l : List UInt8) (w : World) (hx : rGSpan w p cs s) (hb : b < w.heap.size) (hc : w.cell? ⟨b, 0, none⟩ = some (.slice a l.length cap)) (hl : Lies w q a (l.map bv)) :
    Calls Try.prog 69 #[.agg cs.toArray, .pointer (some ⟨b, 0, none⟩)] w fun e w' => e = .returned (.bool (withinF s l)) ∧ Keep Nix w w' := by
  have hx2 := hx
  obtain ⟨sF, dF, sT, dT, rfl, -⟩ := rGSpan_open hx
  have kk : Keep Nix w (w.alloc (.cells #[.slice sF s.fFrom.length dF, .slice sT s.fTo.length dT] 46)) := (Keep.refl Nix w).alloc _
  have row0 : RowIs (w.alloc (.cells #[.slice sF s.fFrom.length dF, .slice sT s.fTo.length dT] 46)) w.heap.size 46 [.slice sF s.fFrom.length dF, .slice sT s.fTo.length dT] := RowIs.alloc w _ _
  have c0 : ((w.alloc (.cells #[.slice sF s.fFrom.length dF, .slice sT s.fTo.length dT] 46))).cell? ⟨b, 0, none⟩ = some (.slice a l.length cap) := (kk.cell (p := ⟨b, 0, none⟩) hb id).trans hc
  have hE := in_c s [.slice sF s.fFrom.length dF, .slice sT s.fTo.length dT] a cap l _ (rGSpan_lawful.nix hx2 kk) (hl.keep kk (fun _ _ h => h))
  have x0 := row0.cell 0
  (try simp only [List.getElem?_cons_zero] at x0)
  have x1 := row0.cell 1
  (try simp only [List.getElem?_cons_succ] at x1); (try simp only [List.getElem?_cons_zero] at x1)
  clear hx hx2 hc hl row0
  go_enter Try.func69, Try.ntmps69
  go_wp2_with fail
  go_fit hE
  rintro e w2 ⟨rfl, k2⟩
  go_wp2_with fail
  go_ret
  exact ⟨rfl, kk.trans k2⟩
set_option maxRecDepth 100000 in
theorem writes_c {p q : Nat → Prop} (h : GHeld) (csh : List Value) (a : Option Addr) (cap : Nat) (l : List UInt8) (w : World) (hh : rGHeld w p csh h) (hl : Lies w q a (l.map bv)) :
    Calls Try.prog 40 #[.agg csh.toArray, .slice a l.length cap] w fun e w' => e = .returned (.bool (wrB h l)) ∧ Keep Nix w w' := by
  obtain ⟨aK, cK, aS, cS, aW, cW, rfl, hT, hK, hS, hW, -⟩ := rGHeld_open hh
  have kk : Keep Nix w ((w.alloc (.cells #[.int .u64 h.fTxn, .slice aK h.fKeys.length cK, .slice aS h.fSpans.length cS, .slice aW h.fWrites.length cW] 28)).alloc (.cells #[.slice a l.length cap] 42)) := ((Keep.refl Nix w).alloc _).alloc _
  have row0 : RowIs ((w.alloc (.cells #[.int .u64 h.fTxn, .slice aK h.fKeys.length cK, .slice aS h.fSpans.length cS, .slice aW h.fWrites.length cW] 28)).alloc (.cells #[.slice a l.length cap] 42)) w.heap.size 28 [.int .u64 h.fTxn, .slice aK h.fKeys.length cK, .slice aS h.fSpans.length cS, .slice aW h.fWrites.length cW] := (RowIs.alloc w _ _).keep ((Keep.refl Nix _).alloc _) id
  have row1 : RowIs ((w.alloc (.cells #[.int .u64 h.fTxn, .slice aK h.fKeys.length cK, .slice aS h.fSpans.length cS, .slice aW h.fWrites.length cW] 28)).alloc (.cells #[.slice a l.length cap] 42)) (w.heap.size + 1) 42 [.slice a l.length cap] := by
    have h := RowIs.alloc (w.alloc (.cells #[.int .u64 h.fTxn, .slice aK h.fKeys.length cK, .slice aS h.fSpans.length cS, .slice aW h.fWrites.length cW] 28)) #[.slice a l.length cap] 42
    rw [World.size_alloc] at h
    exact h
  have hl1 := hl.keep kk (fun _ _ h => h)
  have hcall := cfWrite_c aW h.fWrites.length cW h.fWrites 70 (.pointer (some ⟨w.heap.size + 1, 0, none⟩)) (fun x => decide (x.fKey = l)) ((w.alloc (.cells #[.int .u64 h.fTxn, .slice aK h.fKeys.length cK, .slice aS h.fSpans.length cS, .slice aW h.fWrites.length cW] 28)).alloc (.cells #[.slice a l.length cap] 42)) ((rList_lawful rGWrite_lawful).nix hW kk) (fun args w => by rfl) (fun w' x cs k hx rx => writes1_c x cs _ a cap l w' rx (row1.keep k id).lt ((row1.keep k id).cell 0) (hl1.keep k (fun _ _ h => h)))
  have HC := Lib.hid hcall
  have x3 := row0.cell 3
  (try simp only [List.getElem?_cons_succ] at x3); (try simp only [List.getElem?_cons_zero] at x3)
  clear hcall hT hK hS hW hh hl hl1 row0 row1
  go_enter Try.func40, Try.ntmps40
  go_wp2_with fail
  go_fit HC.out
  rintro e w1 ⟨rfl, k1⟩
  go_wp2_with fail
  go_ret
  exact ⟨rfl, kk.trans k1⟩
set_option maxRecDepth 100000 in
theorem reads_c {p q : Nat → Prop} (h : GHeld) (csh : List Value) (a : Option Addr) (cap : Nat) (l : List UInt8) (w : World) (hh : rGHeld w p csh h) (hl : Lies w q a (l.map bv)) :
    Calls Try.prog 39 #[.agg csh.toArray, .slice a l.length cap] w fun e w' => e = .returned (.bool (rdB h l)) ∧ Keep Nix w w' := by
  obtain ⟨aK, cK, aS, cS, aW, cW, rfl, hT, hK, hS, hW, -⟩ := rGHeld_open hh
  have kk : Keep Nix w ((w.alloc (.cells #[.int .u64 h.fTxn, .slice aK h.fKeys.length cK, .slice aS h.fSpans.length cS, .slice aW h.fWrites.length cW] 28)).alloc (.cells #[.slice a l.length cap] 42)) := ((Keep.refl Nix w).alloc _).alloc _
  have row0 : RowIs ((w.alloc (.cells #[.int .u64 h.fTxn, .slice aK h.fKeys.length cK, .slice aS h.fSpans.length cS, .slice aW h.fWrites.length cW] 28)).alloc (.cells #[.slice a l.length cap] 42)) w.heap.size 28 [.int .u64 h.fTxn, .slice aK h.fKeys.length cK, .slice aS h.fSpans.length cS, .slice aW h.fWrites.length cW] := (RowIs.alloc w _ _).keep ((Keep.refl Nix _).alloc _) id
  have row1 : RowIs ((w.alloc (.cells #[.int .u64 h.fTxn, .slice aK h.fKeys.length cK, .slice aS h.fSpans.length cS, .slice aW h.fWrites.length cW] 28)).alloc (.cells #[.slice a l.length cap] 42)) (w.heap.size + 1) 42 [.slice a l.length cap] := by
    have h := RowIs.alloc (w.alloc (.cells #[.int .u64 h.fTxn, .slice aK h.fKeys.length cK, .slice aS h.fSpans.length cS, .slice aW h.fWrites.length cW] 28)) #[.slice a l.length cap] 42
    rw [World.size_alloc] at h
    exact h
  have hl1 := hl.keep kk (fun _ _ h => h)
  have hcall := cfBytes_c aK h.fKeys.length cK h.fKeys 67 (.pointer (some ⟨w.heap.size + 1, 0, none⟩)) (fun x => decide (x = l)) ((w.alloc (.cells #[.int .u64 h.fTxn, .slice aK h.fKeys.length cK, .slice aS h.fSpans.length cS, .slice aW h.fWrites.length cW] 28)).alloc (.cells #[.slice a l.length cap] 42)) ((rList_lawful rBytes_lawful).nix hK kk) (fun args w => by rfl) (fun w' x ax cx k hx rx => reads1_c x ax cx _ a cap l w' rx (row1.keep k id).lt ((row1.keep k id).cell 0) (hl1.keep k (fun _ _ h => h)))
  have HC2 : Hid (∀ w2, Keep Nix ((w.alloc (.cells #[.int .u64 h.fTxn, .slice aK h.fKeys.length cK, .slice aS h.fSpans.length cS, .slice aW h.fWrites.length cW] 28)).alloc (.cells #[.slice a l.length cap] 42)) w2 → Calls Try.prog 52 #[.slice aS h.fSpans.length cS, .func (.func 69) #[] #[.pointer (some ⟨w.heap.size + 1, 0, none⟩)]] w2 fun e w' => e = .returned (.bool (h.fSpans.any (fun s => withinF s l))) ∧ Keep Nix w2 w') := fun w2 k2 =>
    cfSpan_c aS h.fSpans.length cS h.fSpans 69 (.pointer (some ⟨w.heap.size + 1, 0, none⟩)) (fun s => withinF s l) w2 ((rList_lawful rGSpan_lawful).nix hS (kk.trans k2)) (fun args w => by rfl) (fun w' x cs k hx rx => reads2_c x cs _ a cap l w' rx (row1.keep (k2.trans k) id).lt ((row1.keep (k2.trans k) id).cell 0) (hl1.keep (k2.trans k) (fun _ _ h => h)))
  have HC := Lib.hid hcall
  have x1 := row0.cell 1
  (try simp only [List.getElem?_cons_succ] at x1); (try simp only [List.getElem?_cons_zero] at x1)
  have HR : Hid (rdB h l = (h.fKeys.any (fun k => decide (k = l)) || h.fSpans.any (fun s => withinF s l))) := rfl
  have HX2 : Hid (∀ w2, Keep Nix ((w.alloc (.cells #[.int .u64 h.fTxn, .slice aK h.fKeys.length cK, .slice aS h.fSpans.length cS, .slice aW h.fWrites.length cW] 28)).alloc (.cells #[.slice a l.length cap] 42)) w2 → w2.cell? ⟨w.heap.size, 2, none⟩ = some (.slice aS h.fSpans.length cS)) := fun w2 k2 => by
    have h := (row0.keep k2 id).cell 2
    simpa using h
  obtain ⟨y, HY⟩ : ∃ y, Hid (rdB h l = y) := ⟨_, rfl⟩
  rw [HY.out]
  clear hcall hT hK hS hW hh hl hl1 row0 row1
  generalize h.fKeys.any (fun k => decide (k = l)) = v1 at *
  generalize h.fSpans.any (fun s => withinF s l) = v2 at *
  cases v1 with
  | true =>
    have e : y = true := by rw [← HY.out, HR.out]; rfl
    go_enter Try.func39, Try.ntmps39
    go_wp2_with fail
    go_fit HC.out
    rintro e w1 ⟨rfl, k1⟩
    go_wp2_with fail
    go_ret
    exact ⟨ret_bool e.symm, kk.trans k1⟩
  | false =>
    have e : Hid (y = v2) := by show _ = _; rw [← HY.out, HR.out]; rfl
    go_enter Try.func39, Try.ntmps39
    go_wp2_with fail
    go_fit HC.out
    rintro e w1 ⟨rfl, k1⟩
    have hx2 := HX2.out w1 k1
    go_wp2_with fail
    go_fit (HC2.out w1 k1)
    rintro e w2 ⟨rfl, k2⟩
    go_wp2_with fail
    go_ret
    exact ⟨ret_bool e.out.symm, (kk.trans k1).trans k2⟩
end Go.Proofs.Ytfagejfcibgigaa
namespace Go.Proofs.Ytfagejfcibgigaa
open Go.RowKit

def disB (a b : GHeld) : Bool := a.fWrites.any (fun x => rdB b x.fKey || wrB b x.fKey)
def fromF (a b : GSpan) : List UInt8 := if ltB a.fFrom b.fFrom then b.fFrom else a.fFrom
def meetB (a b : GSpan) : Bool := withinF a (fromF a b) && withinF b (fromF a b)
set_option maxRecDepth 100000 in
theorem may11_c {p q : Nat → Prop} (x : GWrite) (cs : List Value) (b : Nat) (h : GHeld) (csh : List Value) (w : World) (hx : rGWrite w p cs x) (hh : rGHeld w q csh h) (row : RowIs w b 28 csh) :
    Calls Try.prog 38 #[.agg cs.toArray, .pointer (some ⟨b, 0, none⟩)] w fun e w' => e = .returned (.bool (rdB h x.fKey || wrB h x.fKey)) ∧ Keep Nix w w' := by
  obtain ⟨eK, fK, eV, fV, rfl, hk, -⟩ := rGWrite_open hx
  have hh2 := hh
  obtain ⟨aK, cK, aS, cS, aW, cW, rfl, -⟩ := rGHeld_open hh
  have kk : Keep Nix w (w.alloc (.cells #[.slice eK x.fKey.length fK, .slice eV x.fValue.length fV, .bool x.fDrop] 48)) := (Keep.refl Nix w).alloc _
  have row0 : RowIs (w.alloc (.cells #[.slice eK x.fKey.length fK, .slice eV x.fValue.length fV, .bool x.fDrop] 48)) w.heap.size 48 [.slice eK x.fKey.length fK, .slice eV x.fValue.length fV, .bool x.fDrop] := RowIs.alloc w _ _
  have rowH := row.keep kk id
  have hR := reads_c h [.int .u64 h.fTxn, .slice aK h.fKeys.length cK, .slice aS h.fSpans.length cS, .slice aW h.fWrites.length cW] eK fK x.fKey (w.alloc (.cells #[.slice eK x.fKey.length fK, .slice eV x.fValue.length fV, .bool x.fDrop] 48)) (rGHeld_lawful.nix hh2 kk) (hk.1.keep kk (fun _ _ h => h))
  have HW : Hid (∀ w2, Keep Nix (w.alloc (.cells #[.slice eK x.fKey.length fK, .slice eV x.fValue.length fV, .bool x.fDrop] 48)) w2 → Calls Try.prog 40 #[.agg #[.int .u64 h.fTxn, .slice aK h.fKeys.length cK, .slice aS h.fSpans.length cS, .slice aW h.fWrites.length cW], .slice eK x.fKey.length fK] w2 fun e w' => e = .returned (.bool (wrB h x.fKey)) ∧ Keep Nix w2 w') := fun w2 k2 =>
    writes_c h [.int .u64 h.fTxn, .slice aK h.fKeys.length cK, .slice aS h.fSpans.length cS, .slice aW h.fWrites.length cW] eK fK x.fKey w2 (rGHeld_lawful.nix hh2 (kk.trans k2)) (hk.1.keep (kk.trans k2) (fun _ _ h => h))
  have HRO : Hid (∀ w2, Keep Nix (w.alloc (.cells #[.slice eK x.fKey.length fK, .slice eV x.fValue.length fV, .bool x.fDrop] 48)) w2 → RowIs w2 w.heap.size 48 [.slice eK x.fKey.length fK, .slice eV x.fValue.length fV, .bool x.fDrop] ∧ RowIs w2 b 28 [.int .u64 h.fTxn, .slice aK h.fKeys.length cK, .slice aS h.fSpans.length cS, .slice aW h.fWrites.length cW]) := fun w2 k2 => ⟨row0.keep k2 id, rowH.keep k2 id⟩
  have x0 := row0.cell 0
  have y0 := rowH.cell 0
  (try simp only [List.getElem?_cons_zero] at x0 y0)
  have y1 := rowH.cell 1
  (try simp only [List.getElem?_cons_succ] at y1); (try simp only [List.getElem?_cons_zero] at y1)
  have y2 := rowH.cell 2
  (try simp only [List.getElem?_cons_succ] at y2); (try simp only [List.getElem?_cons_zero] at y2)
  have y3 := rowH.cell 3
  (try simp only [List.getElem?_cons_succ] at y3); (try simp only [List.getElem?_cons_zero] at y3)
  clear hx hh hh2 row row0 rowH hk
  generalize wrB h x.fKey = v2 at *
  generalize hv1 : rdB h x.fKey = v1 at *
  cases v1 with
  | true =>
    go_enter Try.func38, Try.ntmps38
    go_wp2_with fail
    go_fit hR
    rintro e w1 ⟨rfl, k1⟩
    go_wp2_with fail
    go_ret
    exact ⟨rfl, kk.trans k1⟩
  | false =>
    clear hv1
    go_enter Try.func38, Try.ntmps38
    go_wp2_with fail
    go_fit hR
    rintro e w1 ⟨rfl, k1⟩
    obtain ⟨row0, rowH⟩ := HRO.out w1 k1
    clear x0 y0 y1 y2 y3 hR
    have x0 := row0.cell 0
    have y0 := rowH.cell 0
    (try simp only [List.getElem?_cons_zero] at x0 y0)
    have y1 := rowH.cell 1
    (try simp only [List.getElem?_cons_succ] at y1); (try simp only [List.getElem?_cons_zero] at y1)
    have y2 := rowH.cell 2
    (try simp only [List.getElem?_cons_succ] at y2); (try simp only [List.getElem?_cons_zero] at y2)
    have y3 := rowH.cell 3
    (try simp only [List.getElem?_cons_succ] at y3); (try simp only [List.getElem?_cons_zero] at y3)
    clear row0 rowH
    go_wp2_with fail
    go_fit (HW.out w1 k1)
    rintro e w2 ⟨rfl, k2⟩
    go_wp2_with fail
    go_ret
    exact ⟨rfl, (kk.trans k1).trans k2⟩
set_option maxRecDepth 100000 in
theorem may1_c {p q : Nat → Prop} (h g : GHeld) (csh csg : List Value) (w : World) (hh : rGHeld w p csh h) (hg : rGHeld w q csg g) :
    Calls Try.prog 36 #[.agg csh.toArray, .agg csg.toArray] w fun e w' => e = .returned (.bool (disB h g)) ∧ Keep Nix w w' := by
  have hg2 := hg
  obtain ⟨aK, cK, aS, cS, aW, cW, rfl, -, -, -, hW, -⟩ := rGHeld_open hh
  obtain ⟨bK, dK, bS, dS, bW, dW, rfl, -⟩ := rGHeld_open hg
  have kk : Keep Nix w ((w.alloc (.cells #[.int .u64 h.fTxn, .slice aK h.fKeys.length cK, .slice aS h.fSpans.length cS, .slice aW h.fWrites.length cW] 28)).alloc (.cells #[.int .u64 g.fTxn, .slice bK g.fKeys.length dK, .slice bS g.fSpans.length dS, .slice bW g.fWrites.length dW] 28)) := ((Keep.refl Nix w).alloc _).alloc _
  have row0 : RowIs ((w.alloc (.cells #[.int .u64 h.fTxn, .slice aK h.fKeys.length cK, .slice aS h.fSpans.length cS, .slice aW h.fWrites.length cW] 28)).alloc (.cells #[.int .u64 g.fTxn, .slice bK g.fKeys.length dK, .slice bS g.fSpans.length dS, .slice bW g.fWrites.length dW] 28)) w.heap.size 28 [.int .u64 h.fTxn, .slice aK h.fKeys.length cK, .slice aS h.fSpans.length cS, .slice aW h.fWrites.length cW] := (RowIs.alloc w _ _).keep ((Keep.refl Nix _).alloc _) id
  have row1 : RowIs ((w.alloc (.cells #[.int .u64 h.fTxn, .slice aK h.fKeys.length cK, .slice aS h.fSpans.length cS, .slice aW h.fWrites.length cW] 28)).alloc (.cells #[.int .u64 g.fTxn, .slice bK g.fKeys.length dK, .slice bS g.fSpans.length dS, .slice bW g.fWrites.length dW] 28)) (w.heap.size + 1) 28 [.int .u64 g.fTxn, .slice bK g.fKeys.length dK, .slice bS g.fSpans.length dS, .slice bW g.fWrites.length dW] := by
    have h := RowIs.alloc (w.alloc (.cells #[.int .u64 h.fTxn, .slice aK h.fKeys.length cK, .slice aS h.fSpans.length cS, .slice aW h.fWrites.length cW] 28)) #[.int .u64 g.fTxn, .slice bK g.fKeys.length dK, .slice bS g.fSpans.length dS, .slice bW g.fWrites.length dW] 28
    rw [World.size_alloc] at h
    exact h
  have hcall := cfWrite_c aW h.fWrites.length cW h.fWrites 38 (.pointer (some ⟨w.heap.size + 1, 0, none⟩)) (fun x => rdB g x.fKey || wrB g x.fKey) ((w.alloc (.cells #[.int .u64 h.fTxn, .slice aK h.fKeys.length cK, .slice aS h.fSpans.length cS, .slice aW h.fWrites.length cW] 28)).alloc (.cells #[.int .u64 g.fTxn, .slice bK g.fKeys.length dK, .slice bS g.fSpans.length dS, .slice bW g.fWrites.length dW] 28)) ((rList_lawful rGWrite_lawful).nix hW kk) (fun args w => by rfl) (fun w' x cs k hx rx => may11_c x cs _ g _ w' rx (rGHeld_lawful.nix hg2 (kk.trans k)) (row1.keep k id))
  have HC := Lib.hid hcall
  have x3 := row0.cell 3
  (try simp only [List.getElem?_cons_succ] at x3); (try simp only [List.getElem?_cons_zero] at x3)
  clear hcall hh hg hg2 hW row0 row1
  go_enter Try.func36, Try.ntmps36
  go_wp2_with fail
  go_fit HC.out
  rintro e w1 ⟨rfl, k1⟩
  go_wp2_with fail
  go_ret
  exact ⟨rfl, kk.trans k1⟩
set_option maxRecDepth 100000 in
theorem touched1_c {p q : Nat → Prop} (x : GWrite) (cs : List Value) (b : Nat) (s : GSpan) (css : List Value) (w : World) (hx : rGWrite w p cs x) (hs : rGSpan w q css s) (row : RowIs w b 46 css) :
    Calls Try.prog 72 #[.agg cs.toArray, .pointer (some ⟨b, 0, none⟩)] w fun e w' => e = .returned (.bool (withinF s x.fKey)) ∧ Keep Nix w w' := by
  obtain ⟨eK, fK, eV, fV, rfl, hk, -⟩ := rGWrite_open hx
  have hs2 := hs
  obtain ⟨sF, dF, sT, dT, rfl, -⟩ := rGSpan_open hs
  have kk : Keep Nix w (w.alloc (.cells #[.slice eK x.fKey.length fK, .slice eV x.fValue.length fV, .bool x.fDrop] 48)) := (Keep.refl Nix w).alloc _
  have row0 : RowIs (w.alloc (.cells #[.slice eK x.fKey.length fK, .slice eV x.fValue.length fV, .bool x.fDrop] 48)) w.heap.size 48 [.slice eK x.fKey.length fK, .slice eV x.fValue.length fV, .bool x.fDrop] := RowIs.alloc w _ _
  have rowS := row.keep kk id
  have hI := in_c s [.slice sF s.fFrom.length dF, .slice sT s.fTo.length dT] eK fK x.fKey (w.alloc (.cells #[.slice eK x.fKey.length fK, .slice eV x.fValue.length fV, .bool x.fDrop] 48)) (rGSpan_lawful.nix hs2 kk) (hk.1.keep kk (fun _ _ h => h))
  have x0 := row0.cell 0
  have y0 := rowS.cell 0
  (try simp only [List.getElem?_cons_zero] at x0 y0)
  have y1 := rowS.cell 1
  (try simp only [List.getElem?_cons_succ] at y1); (try simp only [List.getElem?_cons_zero] at y1)
  clear hx hs hs2 row row0 rowS hk
  go_enter Try.func72, Try.ntmps72
  go_wp2_with fail
  go_fit hI
  rintro e w1 ⟨rfl, k1⟩
  go_wp2_with fail
  go_ret
  exact ⟨rfl, kk.trans k1⟩
set_option maxRecDepth 100000 in
theorem touched_c {p q : Nat → Prop} (h : GHeld) (s : GSpan) (csh css : List Value) (w : World) (hh : rGHeld w p csh h) (hs : rGSpan w q css s) :
    Calls Try.prog 48 #[.agg csh.toArray, .agg css.toArray] w fun e w' => e = .returned (.bool (toB h s)) ∧ Keep Nix w w' := by
  have hs2 := hs
  obtain ⟨aK, cK, aS, cS, aW, cW, rfl, -, -, -, hW, -⟩ := rGHeld_open hh
  obtain ⟨sF, dF, sT, dT, rfl, -⟩ := rGSpan_open hs
  have kk : Keep Nix w ((w.alloc (.cells #[.int .u64 h.fTxn, .slice aK h.fKeys.length cK, .slice aS h.fSpans.length cS, .slice aW h.fWrites.length cW] 28)).alloc (.cells #[.slice sF s.fFrom.length dF, .slice sT s.fTo.length dT] 46)) := ((Keep.refl Nix w).alloc _).alloc _
  have row0 : RowIs ((w.alloc (.cells #[.int .u64 h.fTxn, .slice aK h.fKeys.length cK, .slice aS h.fSpans.length cS, .slice aW h.fWrites.length cW] 28)).alloc (.cells #[.slice sF s.fFrom.length dF, .slice sT s.fTo.length dT] 46)) w.heap.size 28 [.int .u64 h.fTxn, .slice aK h.fKeys.length cK, .slice aS h.fSpans.length cS, .slice aW h.fWrites.length cW] := (RowIs.alloc w _ _).keep ((Keep.refl Nix _).alloc _) id
  have row1 : RowIs ((w.alloc (.cells #[.int .u64 h.fTxn, .slice aK h.fKeys.length cK, .slice aS h.fSpans.length cS, .slice aW h.fWrites.length cW] 28)).alloc (.cells #[.slice sF s.fFrom.length dF, .slice sT s.fTo.length dT] 46)) (w.heap.size + 1) 46 [.slice sF s.fFrom.length dF, .slice sT s.fTo.length dT] := by
    have h := RowIs.alloc (w.alloc (.cells #[.int .u64 h.fTxn, .slice aK h.fKeys.length cK, .slice aS h.fSpans.length cS, .slice aW h.fWrites.length cW] 28)) #[.slice sF s.fFrom.length dF, .slice sT s.fTo.length dT] 46
    rw [World.size_alloc] at h
    exact h
  have hcall := cfWrite_c aW h.fWrites.length cW h.fWrites 72 (.pointer (some ⟨w.heap.size + 1, 0, none⟩)) (fun x => withinF s x.fKey) ((w.alloc (.cells #[.int .u64 h.fTxn, .slice aK h.fKeys.length cK, .slice aS h.fSpans.length cS, .slice aW h.fWrites.length cW] 28)).alloc (.cells #[.slice sF s.fFrom.length dF, .slice sT s.fTo.length dT] 46)) ((rList_lawful rGWrite_lawful).nix hW kk) (fun args w => by rfl) (fun w' x cs k hx rx => touched1_c x cs _ s _ w' rx (rGSpan_lawful.nix hs2 (kk.trans k)) (row1.keep k id))
  have HC := Lib.hid hcall
  have x3 := row0.cell 3
  (try simp only [List.getElem?_cons_succ] at x3); (try simp only [List.getElem?_cons_zero] at x3)
  clear hcall hh hs hs2 hW row0 row1
  go_enter Try.func48, Try.ntmps48
  go_wp2_with fail
  go_fit HC.out
  rintro e w1 ⟨rfl, k1⟩
  go_wp2_with fail
  go_ret
  exact ⟨rfl, kk.trans k1⟩
end Go.Proofs.Ytfagejfcibgigaa
