/- LOCK: slices.ContainsFunc over a closure that holds a pointer. Printed by genLk2.py and mac.py. -/
import Derived.Test.YtfagejfcibgigaaLk1
import Derived.Test.YtfagejfcibgigaaWhole
namespace Go.Proofs.Ytfagejfcibgigaa
open Go.RowKit

def findB {α : Type} (P : α → Bool) (l : List α) : Int := match l.findIdx? P with
  | some i => (i : Int)
  | none => -1
theorem findB_at {α : Type} {P : α → Bool} {l : List α} (k : Nat) (h : k < l.length) (hn : ∀ j, j < k → ∀ x, l[j]? = some x → P x = false) (hp : P l[k] = true) : findB P l = (k : Int) := by
  have : l.findIdx? P = some k := by
    rw [List.findIdx?_eq_some_iff_getElem]
    exact ⟨h, hp, fun j hj => by simp [hn j hj _ (List.getElem?_eq_getElem (by omega))]⟩
  unfold findB; rw [this]
theorem findB_none {α : Type} {P : α → Bool} {l : List α} (hn : ∀ j, j < l.length → ∀ x, l[j]? = some x → P x = false) : findB P l = -1 := by
  have : l.findIdx? P = none := by
    rw [List.findIdx?_eq_none_iff]
    intro x hx
    obtain ⟨j, hj, rfl⟩ := List.mem_iff_getElem.1 hx
    exact hn j hj _ (List.getElem?_eq_getElem hj)
  unfold findB; rw [this]
def NoneYet {α : Type} (P : α → Bool) (l : List α) (k : Nat) : Prop := ∀ j, j < k → ∀ x, l[j]? = some x → P x = false
theorem NoneYet.succ {α : Type} {P : α → Bool} {l : List α} {k : Nat} (h : NoneYet P l k) (hk : k < l.length) (hp : P l[k] = false) : NoneYet P l (k + 1) := fun j hj x hx => by
  by_cases e : j = k
  · subst e; rw [List.getElem?_eq_getElem hk] at hx; cases hx; exact hp
  · exact h j (by omega) x hx
theorem findB_any {α : Type} (P : α → Bool) (l : List α) : decide ((0 : Int) ≤ findB P l) = l.any P := by
  unfold findB
  cases h : l.findIdx? P with
  | none =>
    have : l.any P = false := by rw [List.any_eq_false]; intro x hx; have := List.findIdx?_eq_none_iff.1 h x hx; simpa using this
    rw [this]; decide
  | some k =>
    have : l.any P = true := by
      obtain ⟨hk, hp, -⟩ := List.findIdx?_eq_some_iff_getElem.1 h
      exact List.any_eq_true.2 ⟨_, List.getElem_mem hk, hp⟩
    rw [this]; simp
set_option maxHeartbeats 1000000 in
theorem ifBytes_c {p : Nat → Prop} (a : Option Addr) (n cap : Nat) (l : List (List UInt8)) (fv : FuncId) (u : Value) (P : List UInt8 → Bool) (w : World) (hl : rList rBytes w p [.slice a n cap] l)
    (hE : ∀ args w, (callFunc fv args).run Try.prog w = .ok (.enter fv args) w) (hF : (∀ (w' : World) (x : List UInt8) (ax : Option Addr) (cx : Nat), Keep Nix w w' → x ∈ l → Lies w' p ax (x.map bv) → Calls Try.prog fv #[.slice ax x.length cx, u] w' fun e w'' => e = .returned (.bool (P x)) ∧ Keep Nix w' w'')) :
    Calls Try.prog 73 #[.slice a n cap, .func (.func fv) #[] #[u]] w fun e w' => e = .returned (.int .i64 (findB P l)) ∧ Keep Nix w w' := by
  obtain ⟨rfl, -, hf⟩ := rList_len hl
  have hfar : l.length ≤ 9223372036854775807 := by have := far_len; unfold maxLen at this; omega
  have HF := Lib.hid hF
  clear hf hF
  go_enter Try.func73, Try.ntmps73
  go_wp2_with fail
  go_loopw [8] (fun i wr => ∃ k : Nat, k ≤ l.length ∧ i = .int .i64 k ∧ Hid (NoneYet P l k) ∧ Keep Nix w wr) (fun i _ => l.length - (intOf i).toNat)
  case atStart => exact ⟨0, by omega, rfl, fun j hj => by omega, Keep.refl _ _⟩
  case round =>
    obtain ⟨k, hk, rfl, hg, kk⟩ := hrel
    by_cases hlt : k < l.length
    · have hi0 : (0 : Int) ≤ (k : Int) := by omega
      have hi1 : (k : Int) < (l.length : Int) := by omega
      have HM : Hid (l[k] ∈ l) := List.getElem_mem hlt
      have HA := Lib.hid (findB_at (P := P) k hlt hg.out)
      have HS := Lib.hid (hg.out.succ (P := P) hlt)
      obtain ⟨b, o, c, cs, e1, -, hb, r, hc⟩ := rList_at rBytes_lawful (by decide) ((rList_lawful rBytes_lawful).nix hl kk) k hlt
      simp only [List.cons.injEq, Value.slice.injEq, and_true] at e1
      obtain ⟨rfl, -, -⟩ := e1
      have c0 := hc 0
      clear hl hc
      generalize l[k] = x at HM HA HS r
      obtain ⟨ax, cx, rfl, hx, -⟩ := r
      have ld := c0 _ rfl
      (try simp only [Nat.mul_one, Nat.add_zero] at ld)
      have hcall := HF.out wr x ax cx kk HM.out hx
      clear hx c0
      rcases hP : P x with _ | _
      · rw [hP] at hcall
        have HP := Lib.hid hP
        have HC := Lib.hid hcall
        clear hP hcall
        go_wp2_with fail
        go_fit HC.out
        clear HC
        rintro e w2 ⟨rfl, k2⟩
        replace kk := kk.trans k2
        clear k2
        go_wp2_with fail
        go_roundw
        case rel => exact ⟨k + 1, by omega, by go_num, HS.out HP.out, kk⟩
        case measure => simp [intOf]; omega
      · rw [hP] at hcall
        have HP := Lib.hid hP
        have HC := Lib.hid hcall
        clear hP hcall
        go_wp2_with fail
        go_fit HC.out
        clear HC
        rintro e w2 ⟨rfl, k2⟩
        replace kk := kk.trans k2
        clear k2
        go_wp2_with fail
        go_ret
        exact ⟨ret_int (HA.out HP.out).symm, kk⟩
    · obtain rfl : k = l.length := by omega
      have HN := Lib.hid (findB_none (P := P) hg.out)
      go_wp2_with fail
      go_ret
      exact ⟨ret_int HN.out.symm, kk⟩
set_option maxHeartbeats 1000000 in
theorem cfBytes_c {p : Nat → Prop} (a : Option Addr) (n cap : Nat) (l : List (List UInt8)) (fv : FuncId) (u : Value) (P : List UInt8 → Bool) (w : World) (hl : rList rBytes w p [.slice a n cap] l)
    (hE : ∀ args w, (callFunc fv args).run Try.prog w = .ok (.enter fv args) w) (hF : (∀ (w' : World) (x : List UInt8) (ax : Option Addr) (cx : Nat), Keep Nix w w' → x ∈ l → Lies w' p ax (x.map bv) → Calls Try.prog fv #[.slice ax x.length cx, u] w' fun e w'' => e = .returned (.bool (P x)) ∧ Keep Nix w' w'')) :
    Calls Try.prog 49 #[.slice a n cap, .func (.func fv) #[] #[u]] w fun e w' => e = .returned (.bool (l.any P)) ∧ Keep Nix w w' := by
  have hif := ifBytes_c a n cap l fv u P w hl hE hF
  have HA := Lib.hid (findB_any P l)
  generalize findB P l = v at *
  generalize l.any P = y at *
  clear hl hE hF
  go_enter Try.func49, Try.ntmps49
  go_wp2_with fail
  go_fit hif
  rintro e w2 ⟨rfl, k2⟩
  go_wp2_with fail
  go_ret
  exact ⟨ret_bool HA.out, k2⟩
section
attribute [local go_sem ↓] ldz_Span
set_option maxHeartbeats 1000000 in
theorem ifSpan_c {p : Nat → Prop} (a : Option Addr) (n cap : Nat) (l : List GSpan) (fv : FuncId) (u : Value) (P : GSpan → Bool) (w : World) (hl : rList rGSpan w p [.slice a n cap] l)
    (hE : ∀ args w, (callFunc fv args).run Try.prog w = .ok (.enter fv args) w) (hF : (∀ (w' : World) (x : GSpan) (cs : List Value), Keep Nix w w' → x ∈ l → rGSpan w' p cs x → Calls Try.prog fv #[.agg cs.toArray, u] w' fun e w'' => e = .returned (.bool (P x)) ∧ Keep Nix w' w'')) :
    Calls Try.prog 75 #[.slice a n cap, .func (.func fv) #[] #[u]] w fun e w' => e = .returned (.int .i64 (findB P l)) ∧ Keep Nix w w' := by
  obtain ⟨rfl, -, hf⟩ := rList_len hl
  have hfar : l.length ≤ 9223372036854775807 := by have := far_len; unfold maxLen at this; omega
  have HF := Lib.hid hF
  clear hf hF
  go_enter Try.func75, Try.ntmps75
  go_wp2_with fail
  go_loopw [8] (fun i wr => ∃ k : Nat, k ≤ l.length ∧ i = .int .i64 k ∧ Hid (NoneYet P l k) ∧ Keep Nix w wr) (fun i _ => l.length - (intOf i).toNat)
  case atStart => exact ⟨0, by omega, rfl, fun j hj => by omega, Keep.refl _ _⟩
  case round =>
    obtain ⟨k, hk, rfl, hg, kk⟩ := hrel
    by_cases hlt : k < l.length
    · have hi0 : (0 : Int) ≤ (k : Int) := by omega
      have hi1 : (k : Int) < (l.length : Int) := by omega
      have HM : Hid (l[k] ∈ l) := List.getElem_mem hlt
      have HA := Lib.hid (findB_at (P := P) k hlt hg.out)
      have HS := Lib.hid (hg.out.succ (P := P) hlt)
      obtain ⟨b, o, c, cs, e1, -, hb, r, hc⟩ := rList_at rGSpan_lawful (by decide) ((rList_lawful rGSpan_lawful).nix hl kk) k hlt
      simp only [List.cons.injEq, Value.slice.injEq, and_true] at e1
      obtain ⟨rfl, -, -⟩ := e1
      have ld := Whole.at (P := Try.prog) S_Span (rGSpan_lawful.len r) hc
      unfold Whole at ld
      clear hl hc
      generalize l[k] = x at HM HA HS r
      have hcall := HF.out wr x cs kk HM.out r
      clear r
      rcases hP : P x with _ | _
      · rw [hP] at hcall
        have HP := Lib.hid hP
        have HC := Lib.hid hcall
        clear hP hcall
        go_wp2_with fail
        go_fit HC.out
        clear HC
        rintro e w2 ⟨rfl, k2⟩
        replace kk := kk.trans k2
        clear k2
        go_wp2_with fail
        go_roundw
        case rel => exact ⟨k + 1, by omega, by go_num, HS.out HP.out, kk⟩
        case measure => simp [intOf]; omega
      · rw [hP] at hcall
        have HP := Lib.hid hP
        have HC := Lib.hid hcall
        clear hP hcall
        go_wp2_with fail
        go_fit HC.out
        clear HC
        rintro e w2 ⟨rfl, k2⟩
        replace kk := kk.trans k2
        clear k2
        go_wp2_with fail
        go_ret
        exact ⟨ret_int (HA.out HP.out).symm, kk⟩
    · obtain rfl : k = l.length := by omega
      have HN := Lib.hid (findB_none (P := P) hg.out)
      go_wp2_with fail
      go_ret
      exact ⟨ret_int HN.out.symm, kk⟩
end
set_option maxHeartbeats 1000000 in
theorem cfSpan_c {p : Nat → Prop} (a : Option Addr) (n cap : Nat) (l : List GSpan) (fv : FuncId) (u : Value) (P : GSpan → Bool) (w : World) (hl : rList rGSpan w p [.slice a n cap] l)
    (hE : ∀ args w, (callFunc fv args).run Try.prog w = .ok (.enter fv args) w) (hF : (∀ (w' : World) (x : GSpan) (cs : List Value), Keep Nix w w' → x ∈ l → rGSpan w' p cs x → Calls Try.prog fv #[.agg cs.toArray, u] w' fun e w'' => e = .returned (.bool (P x)) ∧ Keep Nix w' w'')) :
    Calls Try.prog 52 #[.slice a n cap, .func (.func fv) #[] #[u]] w fun e w' => e = .returned (.bool (l.any P)) ∧ Keep Nix w w' := by
  have hif := ifSpan_c a n cap l fv u P w hl hE hF
  have HA := Lib.hid (findB_any P l)
  generalize findB P l = v at *
  generalize l.any P = y at *
  clear hl hE hF
  go_enter Try.func52, Try.ntmps52
  go_wp2_with fail
  go_fit hif
  rintro e w2 ⟨rfl, k2⟩
  go_wp2_with fail
  go_ret
  exact ⟨ret_bool HA.out, k2⟩
section
attribute [local go_sem ↓] ldz_Write
set_option maxHeartbeats 1000000 in
theorem ifWrite_c {p : Nat → Prop} (a : Option Addr) (n cap : Nat) (l : List GWrite) (fv : FuncId) (u : Value) (P : GWrite → Bool) (w : World) (hl : rList rGWrite w p [.slice a n cap] l)
    (hE : ∀ args w, (callFunc fv args).run Try.prog w = .ok (.enter fv args) w) (hF : (∀ (w' : World) (x : GWrite) (cs : List Value), Keep Nix w w' → x ∈ l → rGWrite w' p cs x → Calls Try.prog fv #[.agg cs.toArray, u] w' fun e w'' => e = .returned (.bool (P x)) ∧ Keep Nix w' w'')) :
    Calls Try.prog 66 #[.slice a n cap, .func (.func fv) #[] #[u]] w fun e w' => e = .returned (.int .i64 (findB P l)) ∧ Keep Nix w w' := by
  obtain ⟨rfl, -, hf⟩ := rList_len hl
  have hfar : l.length ≤ 9223372036854775807 := by have := far_len; unfold maxLen at this; omega
  have HF := Lib.hid hF
  clear hf hF
  go_enter Try.func66, Try.ntmps66
  go_wp2_with fail
  go_loopw [8] (fun i wr => ∃ k : Nat, k ≤ l.length ∧ i = .int .i64 k ∧ Hid (NoneYet P l k) ∧ Keep Nix w wr) (fun i _ => l.length - (intOf i).toNat)
  case atStart => exact ⟨0, by omega, rfl, fun j hj => by omega, Keep.refl _ _⟩
  case round =>
    obtain ⟨k, hk, rfl, hg, kk⟩ := hrel
    by_cases hlt : k < l.length
    · have hi0 : (0 : Int) ≤ (k : Int) := by omega
      have hi1 : (k : Int) < (l.length : Int) := by omega
      have HM : Hid (l[k] ∈ l) := List.getElem_mem hlt
      have HA := Lib.hid (findB_at (P := P) k hlt hg.out)
      have HS := Lib.hid (hg.out.succ (P := P) hlt)
      obtain ⟨b, o, c, cs, e1, -, hb, r, hc⟩ := rList_at rGWrite_lawful (by decide) ((rList_lawful rGWrite_lawful).nix hl kk) k hlt
      simp only [List.cons.injEq, Value.slice.injEq, and_true] at e1
      obtain ⟨rfl, -, -⟩ := e1
      have ld := Whole.at (P := Try.prog) S_Write (rGWrite_lawful.len r) hc
      unfold Whole at ld
      clear hl hc
      generalize l[k] = x at HM HA HS r
      have hcall := HF.out wr x cs kk HM.out r
      clear r
      rcases hP : P x with _ | _
      · rw [hP] at hcall
        have HP := Lib.hid hP
        have HC := Lib.hid hcall
        clear hP hcall
        go_wp2_with fail
        go_fit HC.out
        clear HC
        rintro e w2 ⟨rfl, k2⟩
        replace kk := kk.trans k2
        clear k2
        go_wp2_with fail
        go_roundw
        case rel => exact ⟨k + 1, by omega, by go_num, HS.out HP.out, kk⟩
        case measure => simp [intOf]; omega
      · rw [hP] at hcall
        have HP := Lib.hid hP
        have HC := Lib.hid hcall
        clear hP hcall
        go_wp2_with fail
        go_fit HC.out
        clear HC
        rintro e w2 ⟨rfl, k2⟩
        replace kk := kk.trans k2
        clear k2
        go_wp2_with fail
        go_ret
        exact ⟨ret_int (HA.out HP.out).symm, kk⟩
    · obtain rfl : k = l.length := by omega
      have HN := Lib.hid (findB_none (P := P) hg.out)
      go_wp2_with fail
      go_ret
      exact ⟨ret_int HN.out.symm, kk⟩
end
set_option maxHeartbeats 1000000 in
theorem cfWrite_c {p : Nat → Prop} (a : Option Addr) (n cap : Nat) (l : List GWrite) (fv : FuncId) (u : Value) (P : GWrite → Bool) (w : World) (hl : rList rGWrite w p [.slice a n cap] l)
    (hE : ∀ args w, (callFunc fv args).run Try.prog w = .ok (.enter fv args) w) (hF : (∀ (w' : World) (x : GWrite) (cs : List Value), Keep Nix w w' → x ∈ l → rGWrite w' p cs x → Calls Try.prog fv #[.agg cs.toArray, u] w' fun e w'' => e = .returned (.bool (P x)) ∧ Keep Nix w' w'')) :
    Calls Try.prog 37 #[.slice a n cap, .func (.func fv) #[] #[u]] w fun e w' => e = .returned (.bool (l.any P)) ∧ Keep Nix w w' := by
  have hif := ifWrite_c a n cap l fv u P w hl hE hF
  have HA := Lib.hid (findB_any P l)
  generalize findB P l = v at *
  generalize l.any P = y at *
  clear hl hE hF
  go_enter Try.func37, Try.ntmps37
  go_wp2_with fail
  go_fit hif
  rintro e w2 ⟨rfl, k2⟩
  go_wp2_with fail
  go_ret
  exact ⟨ret_bool HA.out, k2⟩
end Go.Proofs.Ytfagejfcibgigaa
