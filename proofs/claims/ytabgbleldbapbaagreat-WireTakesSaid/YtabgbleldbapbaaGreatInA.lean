/- THE REFERENCE's READER: lists and structs. Printed by gen9.py. -/
import Derived.Test.YtabgbleldbapbaaGreatIn
import Derived.Test.YtabgbleldbapbaaGreatItems
namespace Go.Proofs.YtabgbleldbapbaaGreat
open Go.RowKit

set_option maxRecDepth 100000 in
set_option maxHeartbeats 4000000 in
theorem ilint_c (x : Nat) (p : Nat → Prop) (s : RdS) (w : World) (h : IsIn w x p s) (hpl : ∀ b, p b → b < w.heap.size) :
    Calls Tryz.prog 119 #[.pointer (some ⟨x, 0, none⟩)] w (GotV (rList (rInt .i64)) x p w (pList pInt s)) := by
  have hlt := h.lt
  have hle := numS_le 5000 s
  go_enter Tryz.func119, Tryz.ntmps119
  go_wp2_with fail
  go_fit (imany_g x p s w h)
  rintro e w1 ⟨rfl, h1, k1⟩
  have HP : Hid (pList pInt s = pMany pInt (numS 5000 s).1 (numS 5000 s).2) := rfl
  clear h
  generalize numS 5000 s = N at h1 HP hle ⊢
  have hsz0 := k1.size
  go_wp2_with fail
  go_loopw [3, 5] (fun l i wr => ∃ (xs : List Int) (css : List (List Value)) (s' : RdS) (a : Option Addr) (cap : Nat), l = .slice a xs.length cap ∧ i = .int .i64 xs.length ∧ xs.length ≤ N.1 ∧ Hid (pMany pInt N.1 N.2 = (xs ++ (pMany pInt (N.1 - xs.length) s').1, (pMany pInt (N.1 - xs.length) s').2)) ∧
      wr.ownsRow w.heap.size 3 1 (.slice a xs.length cap) xs.length css.flatten ∧ Els (rInt .i64) wr (fun b => NewIn w wr b ∧ ¬ OwnB (.slice a xs.length cap) b) css xs ∧ IsIn wr x p s' ∧ Keep (· = x) w wr) (fun _ i _ => N.1 - (intOf i).toNat)
  case atStart => exact ⟨[], [], N.2, none, 0, rfl, rfl, Nat.zero_le _, rfl, World.ownsRow_nil _ _ _ _, Els.nil _ _ _, h1, k1⟩
  case round =>
    clear h1 k1 hsz0
    obtain ⟨xs, css, s', a, cap, rfl, rfl, hk, hp, own, els, hr, kk⟩ := hrel
    have hwr := kk.size
    have hfar : xs.length ≤ far := by unfold far; omega
    by_cases hlt2 : xs.length < N.1
    · have hdec : decide (xs.length < N.1) = true := decide_eq_true hlt2
      go_wp2_with fail
      go_fit (fault_c x p s' wr hr)
      rintro e w2 ⟨rfl, rfl⟩
      rcases test_eq s'.e 0 with ⟨ht, he⟩ | ⟨ht, he⟩
      · have t' : (s'.e != 0) = false := by simp [he.out]
        go_wp2_with fail
        go_fit (iint_g x p s' wr hr)
        rintro e w3 ⟨rfl, hr3, k3⟩
        have hc : (rInt .i64) w3 (NewIn wr w3) [.int .i64 (pInt s').1] (pInt s').1 := ⟨rfl, zag_wf (numS_lt maxU s')⟩
        have own3 := owned_keep own k3 (fun b hb e => by have := (own.lt b hb).1; omega)
        have kk3 := kk.trans k3
        have hsz3 := k3.size
        have hol : ∀ b, OwnB (.slice a xs.length cap) b → b < wr.heap.size := fun b hb => (own.lt b hb).2
        have hHP : Hid (pMany pInt (N.1 - xs.length) s' = ((pInt s').1 :: (pMany pInt (N.1 - (xs.length + 1)) (pInt s').2).1, (pMany pInt (N.1 - (xs.length + 1)) (pInt s').2).2)) := by
          show _ = _
          rw [show N.1 - xs.length = (N.1 - (xs.length + 1)) + 1 by omega, pMany, if_pos he.out]
        clear own hr hdec
        go_wp2_with (at_builtin; refine wpl_append1_at T_lint rfl (.tmp 18) (.tmp 21) rfl w.heap.size rfl own3 rfl ?c0 ?c1 ?c2 ?c3 ?c4 ?_)
        case c0 => rfl
        case c1 => first | rfl | (intro u hu; simp at hu; subst hu; rfl)
        case c2 => unfold maxLen; omega
        case c3 => omega
        case c4 => omega
        intro a' cap' w4 own4 k4 hfresh
        have els4 := els.push (rInt_lawful _) hc k3 k4 hlt hwr hol hfresh
        have hr4 : IsIn w4 x p (pInt s').2 := hr3.keep k4 (fun hb => by have := (own3.lt _ hb).1; omega) (fun b hb hb2 => by have := (own3.lt _ hb2).1; have := hpl b hb; omega)
        have kk4 : Keep (· = x) w w4 := kk3.then k4 (fun i hi hb => by have := (own3.lt _ hb).1; omega)
        clear own3 els hr3 kk3 k3 k4 hfresh
        go_wp2
        go_roundw
        case rel => exact ⟨xs ++ [(pInt s').1], css ++ [[.int .i64 (pInt s').1]], (pInt s').2, a', cap', by simp, by rw [List.length_append]; go_num, by simp; omega, by show _ = _; rw [hp.out, hHP.out]; simp, by simpa using own4, by simpa using els4, hr4, kk4⟩
        case measure => simp [intOf]; omega
      · have t' : (s'.e != 0) = true := by simp [he]
        go_wp2_with fail
        go_ret
        have hHP : pMany pInt (N.1 - xs.length) s' = ([], s') := by
          rw [show N.1 - xs.length = (N.1 - (xs.length + 1)) + 1 by omega, pMany, if_neg he]
        refine ⟨_, rfl, ?_, ?_, kk⟩
        · rw [HP.out, hp.out, hHP]; exact Els.list (Nat.le_refl _) own els (rInt_lawful _) (by simp) hfar
        · rw [HP.out, hp.out, hHP]; exact hr
    · have hdec : decide (xs.length < N.1) = false := decide_eq_false hlt2
      have hz : N.1 - xs.length = 0 := by omega
      have HZ := Lib.hid hz
      clear hz
      go_wp2_with fail
      go_ret
      refine ⟨_, rfl, ?_, ?_, kk⟩
      · rw [HP.out, hp.out, HZ.out]; exact Els.list (Nat.le_refl _) own els (rInt_lawful _) (by simp [pMany]) hfar
      · rw [HP.out, hp.out, HZ.out]; exact hr
set_option maxRecDepth 100000 in
set_option maxHeartbeats 4000000 in
theorem ilnum_c (x : Nat) (p : Nat → Prop) (s : RdS) (w : World) (h : IsIn w x p s) (hpl : ∀ b, p b → b < w.heap.size) :
    Calls Tryz.prog 49 #[.pointer (some ⟨x, 0, none⟩)] w (GotV (rList (rInt .u64)) x p w (pList pNum s)) := by
  have hlt := h.lt
  have hle := numS_le 5000 s
  go_enter Tryz.func49, Tryz.ntmps49
  go_wp2_with fail
  go_fit (imany_g x p s w h)
  rintro e w1 ⟨rfl, h1, k1⟩
  have HP : Hid (pList pNum s = pMany pNum (numS 5000 s).1 (numS 5000 s).2) := rfl
  clear h
  generalize numS 5000 s = N at h1 HP hle ⊢
  have hsz0 := k1.size
  go_wp2_with fail
  go_loopw [3, 5] (fun l i wr => ∃ (xs : List Int) (css : List (List Value)) (s' : RdS) (a : Option Addr) (cap : Nat), l = .slice a xs.length cap ∧ i = .int .i64 xs.length ∧ xs.length ≤ N.1 ∧ Hid (pMany pNum N.1 N.2 = (xs ++ (pMany pNum (N.1 - xs.length) s').1, (pMany pNum (N.1 - xs.length) s').2)) ∧
      wr.ownsRow w.heap.size 25 1 (.slice a xs.length cap) xs.length css.flatten ∧ Els (rInt .u64) wr (fun b => NewIn w wr b ∧ ¬ OwnB (.slice a xs.length cap) b) css xs ∧ IsIn wr x p s' ∧ Keep (· = x) w wr) (fun _ i _ => N.1 - (intOf i).toNat)
  case atStart => exact ⟨[], [], N.2, none, 0, rfl, rfl, Nat.zero_le _, rfl, World.ownsRow_nil _ _ _ _, Els.nil _ _ _, h1, k1⟩
  case round =>
    clear h1 k1 hsz0
    obtain ⟨xs, css, s', a, cap, rfl, rfl, hk, hp, own, els, hr, kk⟩ := hrel
    have hwr := kk.size
    have hfar : xs.length ≤ far := by unfold far; omega
    by_cases hlt2 : xs.length < N.1
    · have hdec : decide (xs.length < N.1) = true := decide_eq_true hlt2
      go_wp2_with fail
      go_fit (fault_c x p s' wr hr)
      rintro e w2 ⟨rfl, rfl⟩
      rcases test_eq s'.e 0 with ⟨ht, he⟩ | ⟨ht, he⟩
      · have t' : (s'.e != 0) = false := by simp [he.out]
        go_wp2_with fail
        go_fit (inum_g x p s' wr hr)
        rintro e w3 ⟨rfl, hr3, k3⟩
        have hc : (rInt .u64) w3 (NewIn wr w3) [.int .u64 (pNum s').1] (pNum s').1 := ⟨rfl, num_wf (numS_lt maxU s')⟩
        have own3 := owned_keep own k3 (fun b hb e => by have := (own.lt b hb).1; omega)
        have kk3 := kk.trans k3
        have hsz3 := k3.size
        have hol : ∀ b, OwnB (.slice a xs.length cap) b → b < wr.heap.size := fun b hb => (own.lt b hb).2
        have hHP : Hid (pMany pNum (N.1 - xs.length) s' = ((pNum s').1 :: (pMany pNum (N.1 - (xs.length + 1)) (pNum s').2).1, (pMany pNum (N.1 - (xs.length + 1)) (pNum s').2).2)) := by
          show _ = _
          rw [show N.1 - xs.length = (N.1 - (xs.length + 1)) + 1 by omega, pMany, if_pos he.out]
        clear own hr hdec
        go_wp2_with (at_builtin; refine wpl_append1_at T_lnum rfl (.tmp 18) (.tmp 21) rfl w.heap.size rfl own3 rfl ?c0 ?c1 ?c2 ?c3 ?c4 ?_)
        case c0 => rfl
        case c1 => first | rfl | (intro u hu; simp at hu; subst hu; rfl)
        case c2 => unfold maxLen; omega
        case c3 => omega
        case c4 => omega
        intro a' cap' w4 own4 k4 hfresh
        have els4 := els.push (rInt_lawful _) hc k3 k4 hlt hwr hol hfresh
        have hr4 : IsIn w4 x p (pNum s').2 := hr3.keep k4 (fun hb => by have := (own3.lt _ hb).1; omega) (fun b hb hb2 => by have := (own3.lt _ hb2).1; have := hpl b hb; omega)
        have kk4 : Keep (· = x) w w4 := kk3.then k4 (fun i hi hb => by have := (own3.lt _ hb).1; omega)
        clear own3 els hr3 kk3 k3 k4 hfresh
        go_wp2
        go_roundw
        case rel => exact ⟨xs ++ [(pNum s').1], css ++ [[.int .u64 (pNum s').1]], (pNum s').2, a', cap', by simp, by rw [List.length_append]; go_num, by simp; omega, by show _ = _; rw [hp.out, hHP.out]; simp, by simpa using own4, by simpa using els4, hr4, kk4⟩
        case measure => simp [intOf]; omega
      · have t' : (s'.e != 0) = true := by simp [he]
        go_wp2_with fail
        go_ret
        have hHP : pMany pNum (N.1 - xs.length) s' = ([], s') := by
          rw [show N.1 - xs.length = (N.1 - (xs.length + 1)) + 1 by omega, pMany, if_neg he]
        refine ⟨_, rfl, ?_, ?_, kk⟩
        · rw [HP.out, hp.out, hHP]; exact Els.list (Nat.le_refl _) own els (rInt_lawful _) (by simp) hfar
        · rw [HP.out, hp.out, hHP]; exact hr
    · have hdec : decide (xs.length < N.1) = false := decide_eq_false hlt2
      have hz : N.1 - xs.length = 0 := by omega
      have HZ := Lib.hid hz
      clear hz
      go_wp2_with fail
      go_ret
      refine ⟨_, rfl, ?_, ?_, kk⟩
      · rw [HP.out, hp.out, HZ.out]; exact Els.list (Nat.le_refl _) own els (rInt_lawful _) (by simp [pMany]) hfar
      · rw [HP.out, hp.out, HZ.out]; exact hr
set_option maxRecDepth 100000 in
set_option maxHeartbeats 4000000 in
theorem ilbytes_c (x : Nat) (p : Nat → Prop) (s : RdS) (w : World) (h : IsIn w x p s) (hpl : ∀ b, p b → b < w.heap.size) :
    Calls Tryz.prog 179 #[.pointer (some ⟨x, 0, none⟩)] w (GotV (rList rBytes) x p w (pList pBytes s)) := by
  have hlt := h.lt
  have hle := numS_le 5000 s
  go_enter Tryz.func179, Tryz.ntmps179
  go_wp2_with fail
  go_fit (imany_g x p s w h)
  rintro e w1 ⟨rfl, h1, k1⟩
  have HP : Hid (pList pBytes s = pMany pBytes (numS 5000 s).1 (numS 5000 s).2) := rfl
  clear h
  generalize numS 5000 s = N at h1 HP hle ⊢
  have hsz0 := k1.size
  go_wp2_with fail
  go_loopw [3, 5] (fun l i wr => ∃ (xs : List (List UInt8)) (css : List (List Value)) (s' : RdS) (a : Option Addr) (cap : Nat), l = .slice a xs.length cap ∧ i = .int .i64 xs.length ∧ xs.length ≤ N.1 ∧ Hid (pMany pBytes N.1 N.2 = (xs ++ (pMany pBytes (N.1 - xs.length) s').1, (pMany pBytes (N.1 - xs.length) s').2)) ∧
      wr.ownsRow w.heap.size 22 1 (.slice a xs.length cap) xs.length css.flatten ∧ Els rBytes wr (fun b => NewIn w wr b ∧ ¬ OwnB (.slice a xs.length cap) b) css xs ∧ IsIn wr x p s' ∧ Keep (· = x) w wr) (fun _ i _ => N.1 - (intOf i).toNat)
  case atStart => exact ⟨[], [], N.2, none, 0, rfl, rfl, Nat.zero_le _, rfl, World.ownsRow_nil _ _ _ _, Els.nil _ _ _, h1, k1⟩
  case round =>
    clear h1 k1 hsz0
    obtain ⟨xs, css, s', a, cap, rfl, rfl, hk, hp, own, els, hr, kk⟩ := hrel
    have hwr := kk.size
    have hfar : xs.length ≤ far := by unfold far; omega
    by_cases hlt2 : xs.length < N.1
    · have hdec : decide (xs.length < N.1) = true := decide_eq_true hlt2
      go_wp2_with fail
      go_fit (fault_c x p s' wr hr)
      rintro e w2 ⟨rfl, rfl⟩
      rcases test_eq s'.e 0 with ⟨ht, he⟩ | ⟨ht, he⟩
      · have t' : (s'.e != 0) = false := by simp [he.out]
        go_wp2_with fail
        go_fit (ibytes_g x p s' wr hr)
        rintro e w3 ⟨v, rfl, hc, hr3, k3⟩
        obtain ⟨ab, cb, hv, hcl⟩ := hc
        simp only [List.cons.injEq, and_true] at hv
        subst hv
        have hc : rBytes w3 (NewIn wr w3) [.slice ab (pBytes s').1.length cb] (pBytes s').1 := ⟨ab, cb, rfl, hcl⟩
        have own3 := owned_keep own k3 (fun b hb e => by have := (own.lt b hb).1; omega)
        have kk3 := kk.trans k3
        have hsz3 := k3.size
        have hol : ∀ b, OwnB (.slice a xs.length cap) b → b < wr.heap.size := fun b hb => (own.lt b hb).2
        have hHP : Hid (pMany pBytes (N.1 - xs.length) s' = ((pBytes s').1 :: (pMany pBytes (N.1 - (xs.length + 1)) (pBytes s').2).1, (pMany pBytes (N.1 - (xs.length + 1)) (pBytes s').2).2)) := by
          show _ = _
          rw [show N.1 - xs.length = (N.1 - (xs.length + 1)) + 1 by omega, pMany, if_pos he.out]
        clear own hr hdec
        go_wp2_with (at_builtin; refine wpl_append1_at T_lbytes rfl (.tmp 18) (.tmp 21) rfl w.heap.size rfl own3 rfl ?c0 ?c1 ?c2 ?c3 ?c4 ?_)
        case c0 => rfl
        case c1 => first | rfl | (intro u hu; simp at hu; subst hu; rfl)
        case c2 => unfold maxLen; omega
        case c3 => omega
        case c4 => omega
        intro a' cap' w4 own4 k4 hfresh
        have els4 := els.push rBytes_lawful hc k3 k4 hlt hwr hol hfresh
        have hr4 : IsIn w4 x p (pBytes s').2 := hr3.keep k4 (fun hb => by have := (own3.lt _ hb).1; omega) (fun b hb hb2 => by have := (own3.lt _ hb2).1; have := hpl b hb; omega)
        have kk4 : Keep (· = x) w w4 := kk3.then k4 (fun i hi hb => by have := (own3.lt _ hb).1; omega)
        clear own3 els hr3 kk3 k3 k4 hfresh
        go_wp2
        go_roundw
        case rel => exact ⟨xs ++ [(pBytes s').1], css ++ [[.slice ab (pBytes s').1.length cb]], (pBytes s').2, a', cap', by simp, by rw [List.length_append]; go_num, by simp; omega, by show _ = _; rw [hp.out, hHP.out]; simp, by simpa using own4, by simpa using els4, hr4, kk4⟩
        case measure => simp [intOf]; omega
      · have t' : (s'.e != 0) = true := by simp [he]
        go_wp2_with fail
        go_ret
        have hHP : pMany pBytes (N.1 - xs.length) s' = ([], s') := by
          rw [show N.1 - xs.length = (N.1 - (xs.length + 1)) + 1 by omega, pMany, if_neg he]
        refine ⟨_, rfl, ?_, ?_, kk⟩
        · rw [HP.out, hp.out, hHP]; exact Els.list (Nat.le_refl _) own els rBytes_lawful (by simp) hfar
        · rw [HP.out, hp.out, hHP]; exact hr
    · have hdec : decide (xs.length < N.1) = false := decide_eq_false hlt2
      have hz : N.1 - xs.length = 0 := by omega
      have HZ := Lib.hid hz
      clear hz
      go_wp2_with fail
      go_ret
      refine ⟨_, rfl, ?_, ?_, kk⟩
      · rw [HP.out, hp.out, HZ.out]; exact Els.list (Nat.le_refl _) own els rBytes_lawful (by simp [pMany]) hfar
      · rw [HP.out, hp.out, HZ.out]; exact hr
end Go.Proofs.YtabgbleldbapbaaGreat
