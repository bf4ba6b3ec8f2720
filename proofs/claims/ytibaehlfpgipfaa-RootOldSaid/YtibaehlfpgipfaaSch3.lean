/- SCHEMA: what is found first (slices.IndexFunc). Printed by gen17.py. -/
import Derived.Test.YtibaehlfpgipfaaSch2
namespace Go.Proofs.Ytibaehlfpgipfaa
open Go.RowKit

/-- Where the first one is. -/
def findB {α : Type} (P : α → Bool) (l : List α) : Int := match l.findIdx? P with
  | some i => (i : Int)
  | none => -1
theorem findB_at {α : Type} {P : α → Bool} {l : List α} (k : Nat) (h : k < l.length) (hn : ∀ j, j < k → ∀ x, l[j]? = some x → P x = false) (hp : P l[k] = true) : findB P l = (k : Int) := by
  have : l.findIdx? P = some k := by
    rw [List.findIdx?_eq_some_iff_getElem]
    exact ⟨h, hp, fun j hj => by simp [hn j hj _ (List.getElem?_eq_getElem (by omega))]⟩
  unfold findB; rw [this]
theorem findB_none {α : Type} {P : α → Bool} {l : List α} (hn : ∀ j, j < l.length → ∀ x, l[j]? = some x → P x = false) : findB P l = -1 := by
  have : l.findIdx? P = none := by
    rw [List.findIdx?_eq_none_iff]
    intro x hx
    obtain ⟨j, hj, rfl⟩ := List.mem_iff_getElem.1 hx
    exact hn j hj _ (List.getElem?_eq_getElem hj)
  unfold findB; rw [this]
theorem findB_cases {α : Type} (P : α → Bool) (l : List α) : (findB P l = -1 ∧ ∀ x ∈ l, P x = false) ∨ ∃ (k : Nat) (h : k < l.length), findB P l = (k : Int) ∧ P l[k] = true ∧ ∀ j (hj : j < k), P (l[j]'(by omega)) = false := by
  cases hf : l.findIdx? P with
  | none => exact .inl ⟨by unfold findB; rw [hf], fun x hx => by
      have := List.findIdx?_eq_none_iff.1 hf x hx; simpa using this⟩
  | some k =>
    obtain ⟨h, h1, h2⟩ := List.findIdx?_eq_some_iff_getElem.1 hf
    exact .inr ⟨k, h, by unfold findB; rw [hf], h1, fun j hj => by have := h2 j hj; simpa using this⟩
def NoneYet {α : Type} (P : α → Bool) (l : List α) (k : Nat) : Prop := ∀ j, j < k → ∀ x, l[j]? = some x → P x = false
theorem NoneYet.succ {α : Type} {P : α → Bool} {l : List α} {k : Nat} (h : NoneYet P l k) (hk : k < l.length) (hp : P l[k] = false) : NoneYet P l (k + 1) := fun j hj x hx => by
  by_cases e : j = k
  · subst e; rw [List.getElem?_eq_getElem hk] at hx; cases hx; exact hp
  · exact h j (by omega) x hx
section
attribute [local go_sem ↓] ldz_Column
set_option maxHeartbeats 1000000 in
theorem ifColumn_c {p : Nat → Prop} (a : Option Addr) (n cap : Nat) (l : List GColumn) (fv : FuncId) (u : Value) (P : GColumn → Bool) (w : World) (hl : rList rGColumn w p [.slice a n cap] l)
    (hE : ∀ args w, (callFunc fv args).run Try.prog w = .ok (.enter fv args) w) (hF : (∀ (w' : World) (x : GColumn) (cs : List Value), Keep Nix w w' → x ∈ l → rGColumn w' p cs x → Calls Try.prog fv #[.agg cs.toArray, u] w' fun e w'' => e = .returned (.bool (P x)) ∧ Keep Nix w' w'')) :
    Calls Try.prog 51 #[.slice a n cap, .func (.func fv) #[] #[u]] w fun e w' => e = .returned (.int .i64 (findB P l)) ∧ Keep Nix w w' := by
  obtain ⟨rfl, -, hf⟩ := rList_len hl
  have hfar : l.length ≤ 9223372036854775807 := by have := far_len; unfold maxLen at this; omega
  have HF := Lib.hid hF
  clear hf hF
  go_enter Try.func51, Try.ntmps51
  go_wp2_with fail
  go_loopw [8] (fun i wr => ∃ k : Nat, k ≤ l.length ∧ i = .int .i64 k ∧ Hid (NoneYet P l k) ∧ Keep Nix w wr) (fun i _ => l.length - (intOf i).toNat)
  case atStart => exact ⟨0, by omega, rfl, fun j hj => by omega, Keep.refl _ _⟩
  case round =>
    obtain ⟨k, hk, rfl, hg, kk⟩ := hrel
    by_cases hlt : k < l.length
    · have hi0 : (0 : Int) ≤ (k : Int) := by omega
      have hi1 : (k : Int) < (l.length : Int) := by omega
      have HM : Hid (l[k] ∈ l) := List.getElem_mem hlt
      have HA := Lib.hid (findB_at (P := P) k hlt hg.out)
      have HS := Lib.hid (hg.out.succ (P := P) hlt)
      obtain ⟨b, o, c, cs, e1, -, hb, r, hc⟩ := rList_at rGColumn_lawful (by decide) ((rList_lawful rGColumn_lawful).nix hl kk) k hlt
      simp only [List.cons.injEq, Value.slice.injEq, and_true] at e1
      obtain ⟨rfl, -, -⟩ := e1
      have ld := Whole.at (P := Try.prog) S_Column (rGColumn_lawful.len r) hc
      unfold Whole at ld
      clear hl hc
      generalize l[k] = x at HM HA HS r
      have hcall := HF.out wr x cs kk HM.out r
      clear r
      rcases hP : P x with _ | _
      · rw [hP] at hcall
        have HP := Lib.hid hP
        have HC := Lib.hid hcall
        clear hP hcall
        go_wp2_with fail
        go_fit HC.out
        clear HC
        rintro e w2 ⟨rfl, k2⟩
        replace kk := kk.trans k2
        clear k2
        go_wp2_with fail
        go_roundw
        case rel => exact ⟨k + 1, by omega, by go_num, HS.out HP.out, kk⟩
        case measure => simp [intOf]; omega
      · rw [hP] at hcall
        have HP := Lib.hid hP
        have HC := Lib.hid hcall
        clear hP hcall
        go_wp2_with fail
        go_fit HC.out
        clear HC
        rintro e w2 ⟨rfl, k2⟩
        replace kk := kk.trans k2
        clear k2
        go_wp2_with fail
        go_ret
        exact ⟨ret_int (HA.out HP.out).symm, kk⟩
    · obtain rfl : k = l.length := by omega
      have HN := Lib.hid (findB_none (P := P) hg.out)
      go_wp2_with fail
      go_ret
      exact ⟨ret_int HN.out.symm, kk⟩
end
section
attribute [local go_sem ↓] ldz_Table
set_option maxHeartbeats 1000000 in
theorem ifTable_c {p : Nat → Prop} (a : Option Addr) (n cap : Nat) (l : List GTable) (fv : FuncId) (u : Value) (P : GTable → Bool) (w : World) (hl : rList rGTable w p [.slice a n cap] l)
    (hE : ∀ args w, (callFunc fv args).run Try.prog w = .ok (.enter fv args) w) (hF : (∀ (w' : World) (x : GTable) (cs : List Value), Keep Nix w w' → x ∈ l → rGTable w' p cs x → Calls Try.prog fv #[.agg cs.toArray, u] w' fun e w'' => e = .returned (.bool (P x)) ∧ Keep Nix w' w'')) :
    Calls Try.prog 46 #[.slice a n cap, .func (.func fv) #[] #[u]] w fun e w' => e = .returned (.int .i64 (findB P l)) ∧ Keep Nix w w' := by
  obtain ⟨rfl, -, hf⟩ := rList_len hl
  have hfar : l.length ≤ 9223372036854775807 := by have := far_len; unfold maxLen at this; omega
  have HF := Lib.hid hF
  clear hf hF
  go_enter Try.func46, Try.ntmps46
  go_wp2_with fail
  go_loopw [8] (fun i wr => ∃ k : Nat, k ≤ l.length ∧ i = .int .i64 k ∧ Hid (NoneYet P l k) ∧ Keep Nix w wr) (fun i _ => l.length - (intOf i).toNat)
  case atStart => exact ⟨0, by omega, rfl, fun j hj => by omega, Keep.refl _ _⟩
  case round =>
    obtain ⟨k, hk, rfl, hg, kk⟩ := hrel
    by_cases hlt : k < l.length
    · have hi0 : (0 : Int) ≤ (k : Int) := by omega
      have hi1 : (k : Int) < (l.length : Int) := by omega
      have HM : Hid (l[k] ∈ l) := List.getElem_mem hlt
      have HA := Lib.hid (findB_at (P := P) k hlt hg.out)
      have HS := Lib.hid (hg.out.succ (P := P) hlt)
      obtain ⟨b, o, c, cs, e1, -, hb, r, hc⟩ := rList_at rGTable_lawful (by decide) ((rList_lawful rGTable_lawful).nix hl kk) k hlt
      simp only [List.cons.injEq, Value.slice.injEq, and_true] at e1
      obtain ⟨rfl, -, -⟩ := e1
      have ld := Whole.at (P := Try.prog) S_Table (rGTable_lawful.len r) hc
      unfold Whole at ld
      clear hl hc
      generalize l[k] = x at HM HA HS r
      have hcall := HF.out wr x cs kk HM.out r
      clear r
      rcases hP : P x with _ | _
      · rw [hP] at hcall
        have HP := Lib.hid hP
        have HC := Lib.hid hcall
        clear hP hcall
        go_wp2_with fail
        go_fit HC.out
        clear HC
        rintro e w2 ⟨rfl, k2⟩
        replace kk := kk.trans k2
        clear k2
        go_wp2_with fail
        go_roundw
        case rel => exact ⟨k + 1, by omega, by go_num, HS.out HP.out, kk⟩
        case measure => simp [intOf]; omega
      · rw [hP] at hcall
        have HP := Lib.hid hP
        have HC := Lib.hid hcall
        clear hP hcall
        go_wp2_with fail
        go_fit HC.out
        clear HC
        rintro e w2 ⟨rfl, k2⟩
        replace kk := kk.trans k2
        clear k2
        go_wp2_with fail
        go_ret
        exact ⟨ret_int (HA.out HP.out).symm, kk⟩
    · obtain rfl : k = l.length := by omega
      have HN := Lib.hid (findB_none (P := P) hg.out)
      go_wp2_with fail
      go_ret
      exact ⟨ret_int HN.out.symm, kk⟩
end
section
attribute [local go_sem ↓] ldz_Index
set_option maxHeartbeats 1000000 in
theorem ifIndex_c {p : Nat → Prop} (a : Option Addr) (n cap : Nat) (l : List GIndex) (fv : FuncId) (u : Value) (P : GIndex → Bool) (w : World) (hl : rList rGIndex w p [.slice a n cap] l)
    (hE : ∀ args w, (callFunc fv args).run Try.prog w = .ok (.enter fv args) w) (hF : (∀ (w' : World) (x : GIndex) (cs : List Value), Keep Nix w w' → x ∈ l → rGIndex w' p cs x → Calls Try.prog fv #[.agg cs.toArray, u] w' fun e w'' => e = .returned (.bool (P x)) ∧ Keep Nix w' w'')) :
    Calls Try.prog 37 #[.slice a n cap, .func (.func fv) #[] #[u]] w fun e w' => e = .returned (.int .i64 (findB P l)) ∧ Keep Nix w w' := by
  obtain ⟨rfl, -, hf⟩ := rList_len hl
  have hfar : l.length ≤ 9223372036854775807 := by have := far_len; unfold maxLen at this; omega
  have HF := Lib.hid hF
  clear hf hF
  go_enter Try.func37, Try.ntmps37
  go_wp2_with fail
  go_loopw [8] (fun i wr => ∃ k : Nat, k ≤ l.length ∧ i = .int .i64 k ∧ Hid (NoneYet P l k) ∧ Keep Nix w wr) (fun i _ => l.length - (intOf i).toNat)
  case atStart => exact ⟨0, by omega, rfl, fun j hj => by omega, Keep.refl _ _⟩
  case round =>
    obtain ⟨k, hk, rfl, hg, kk⟩ := hrel
    by_cases hlt : k < l.length
    · have hi0 : (0 : Int) ≤ (k : Int) := by omega
      have hi1 : (k : Int) < (l.length : Int) := by omega
      have HM : Hid (l[k] ∈ l) := List.getElem_mem hlt
      have HA := Lib.hid (findB_at (P := P) k hlt hg.out)
      have HS := Lib.hid (hg.out.succ (P := P) hlt)
      obtain ⟨b, o, c, cs, e1, -, hb, r, hc⟩ := rList_at rGIndex_lawful (by decide) ((rList_lawful rGIndex_lawful).nix hl kk) k hlt
      simp only [List.cons.injEq, Value.slice.injEq, and_true] at e1
      obtain ⟨rfl, -, -⟩ := e1
      have ld := Whole.at (P := Try.prog) S_Index (rGIndex_lawful.len r) hc
      unfold Whole at ld
      clear hl hc
      generalize l[k] = x at HM HA HS r
      have hcall := HF.out wr x cs kk HM.out r
      clear r
      rcases hP : P x with _ | _
      · rw [hP] at hcall
        have HP := Lib.hid hP
        have HC := Lib.hid hcall
        clear hP hcall
        go_wp2_with fail
        go_fit HC.out
        clear HC
        rintro e w2 ⟨rfl, k2⟩
        replace kk := kk.trans k2
        clear k2
        go_wp2_with fail
        go_roundw
        case rel => exact ⟨k + 1, by omega, by go_num, HS.out HP.out, kk⟩
        case measure => simp [intOf]; omega
      · rw [hP] at hcall
        have HP := Lib.hid hP
        have HC := Lib.hid hcall
        clear hP hcall
        go_wp2_with fail
        go_fit HC.out
        clear HC
        rintro e w2 ⟨rfl, k2⟩
        replace kk := kk.trans k2
        clear k2
        go_wp2_with fail
        go_ret
        exact ⟨ret_int (HA.out HP.out).symm, kk⟩
    · obtain rfl : k = l.length := by omega
      have HN := Lib.hid (findB_none (P := P) hg.out)
      go_wp2_with fail
      go_ret
      exact ⟨ret_int HN.out.symm, kk⟩
end
section

set_option maxHeartbeats 1000000 in
theorem ifint_c {p : Nat → Prop} (a : Option Addr) (n cap : Nat) (l : List Int) (fv : FuncId) (u : Value) (P : Int → Bool) (w : World) (hl : rList (rInt .i64) w p [.slice a n cap] l)
    (hE : ∀ args w, (callFunc fv args).run Try.prog w = .ok (.enter fv args) w) (hF : (∀ (w' : World) (x : Int), Keep Nix w w' → x ∈ l → Calls Try.prog fv #[.int .i64 x, u] w' fun e w'' => e = .returned (.bool (P x)) ∧ Keep Nix w' w'')) :
    Calls Try.prog 62 #[.slice a n cap, .func (.func fv) #[] #[u]] w fun e w' => e = .returned (.int .i64 (findB P l)) ∧ Keep Nix w w' := by
  obtain ⟨rfl, -, hf⟩ := rList_len hl
  have hfar : l.length ≤ 9223372036854775807 := by have := far_len; unfold maxLen at this; omega
  have HF := Lib.hid hF
  clear hf hF
  go_enter Try.func62, Try.ntmps62
  go_wp2_with fail
  go_loopw [8] (fun i wr => ∃ k : Nat, k ≤ l.length ∧ i = .int .i64 k ∧ Hid (NoneYet P l k) ∧ Keep Nix w wr) (fun i _ => l.length - (intOf i).toNat)
  case atStart => exact ⟨0, by omega, rfl, fun j hj => by omega, Keep.refl _ _⟩
  case round =>
    obtain ⟨k, hk, rfl, hg, kk⟩ := hrel
    by_cases hlt : k < l.length
    · have hi0 : (0 : Int) ≤ (k : Int) := by omega
      have hi1 : (k : Int) < (l.length : Int) := by omega
      have HM : Hid (l[k] ∈ l) := List.getElem_mem hlt
      have HA := Lib.hid (findB_at (P := P) k hlt hg.out)
      have HS := Lib.hid (hg.out.succ (P := P) hlt)
      obtain ⟨b, o, rfl, hb, y, -⟩ := rInt_at ((rList_lawful (rInt_lawful _)).nix hl kk) k hlt
      clear hl
      generalize l[k] = x at HM HA HS y
      have hcall := HF.out wr x kk HM.out
      rcases hP : P x with _ | _
      · rw [hP] at hcall
        have HP := Lib.hid hP
        have HC := Lib.hid hcall
        clear hP hcall
        go_wp2_with fail
        go_fit HC.out
        clear HC
        rintro e w2 ⟨rfl, k2⟩
        replace kk := kk.trans k2
        clear k2
        go_wp2_with fail
        go_roundw
        case rel => exact ⟨k + 1, by omega, by go_num, HS.out HP.out, kk⟩
        case measure => simp [intOf]; omega
      · rw [hP] at hcall
        have HP := Lib.hid hP
        have HC := Lib.hid hcall
        clear hP hcall
        go_wp2_with fail
        go_fit HC.out
        clear HC
        rintro e w2 ⟨rfl, k2⟩
        replace kk := kk.trans k2
        clear k2
        go_wp2_with fail
        go_ret
        exact ⟨ret_int (HA.out HP.out).symm, kk⟩
    · obtain rfl : k = l.length := by omega
      have HN := Lib.hid (findB_none (P := P) hg.out)
      go_wp2_with fail
      go_ret
      exact ⟨ret_int HN.out.symm, kk⟩
end
theorem cfint_c {p : Nat → Prop} (a : Option Addr) (n cap : Nat) (l : List Int) (fv : FuncId) (u : Value) (P : Int → Bool) (w : World) (hl : rList (rInt .i64) w p [.slice a n cap] l)
    (hE : ∀ args w, (callFunc fv args).run Try.prog w = .ok (.enter fv args) w) (hF : ∀ (w' : World) (x : Int), Keep Nix w w' → x ∈ l → Calls Try.prog fv #[.int .i64 x, u] w' fun e w'' => e = .returned (.bool (P x)) ∧ Keep Nix w' w'') :
    Calls Try.prog 52 #[.slice a n cap, .func (.func fv) #[] #[u]] w fun e w' => e = .returned (.bool (l.any P)) ∧ Keep Nix w w' := by
  have hany : decide (0 ≤ findB P l) = l.any P := by
    rcases findB_cases P l with ⟨h1, h2⟩ | ⟨k, h, h1, h2, -⟩
    · rw [h1]
      have : l.any P = false := by rw [List.any_eq_false]; exact fun x hx => by simp [h2 x hx]
      rw [this]; rfl
    · rw [h1]
      have : l.any P = true := by rw [List.any_eq_true]; exact ⟨_, List.getElem_mem h, h2⟩
      rw [this]; exact decide_eq_true (by omega)
  have HANY := Lib.hid hany
  clear hany
  go_enter Try.func52, Try.ntmps52
  go_wp2_with fail
  go_fit (ifint_c a n cap l fv u P w hl hE hF)
  rintro e w2 ⟨rfl, k2⟩
  go_wp2_with fail
  go_ret
  exact ⟨ret_bool HANY.out, k2⟩
end Go.Proofs.Ytibaehlfpgipfaa
