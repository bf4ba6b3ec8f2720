/- LISTS OF A READER: package wire's items[T]. Printed by gen8.py. -/
import Derived.Test.YtibaehlfpgipfaaGreatQPars
namespace Go.Proofs.YtibaehlfpgipfaaGreat
open Go.RowKit

theorem T_lint : SliceT Tryz.prog 37 3 1 8 := SliceT.mk' Tryz.underlying37 (z := .int .i64 0) (by kernel_rfl) rfl (by decide)
set_option maxRecDepth 100000 in
set_option maxHeartbeats 4000000 in
theorem itint_c (rd : Nat) (p : Nat → Prop) (s : RdS) (w : World) (h : IsRd w 151 rd p s) (hpl : ∀ b, p b → b < w.heap.size) :
    Calls Tryz.prog 197 #[.agg #[.pointer (some ⟨rd, 0, none⟩)], .func (.func 130) #[.agg #[.pointer (some ⟨rd, 0, none⟩)]] #[]] w (GetsV (rList (rInt .i64)) 151 rd p w (pList pInt s)) := by
  have hlt := h.lt
  have h0 := h.nix ((Keep.refl Nix w).alloc (.cells #[.pointer (some ⟨rd, 0, none⟩)] 154))
  have row0 : RowIs (w.alloc (.cells #[.pointer (some ⟨rd, 0, none⟩)] 154)) w.heap.size 154 [.pointer (some ⟨rd, 0, none⟩)] := RowIs.alloc w _ _
  have hle := numS_le 5000 s
  clear h
  go_enter Tryz.func197, Tryz.ntmps197
  go_wp2_with fail
  go_fit (Small_rd rd p s _ h0 5000 (by unfold isI64; omega))
  rintro e w1 ⟨rfl, h1, k1⟩
  have row1 := row0.keep k1 (by omega)
  have kk1 : Keep (· = rd) w w1 := ((Keep.refl (· = rd) w).alloc (.cells #[.pointer (some ⟨rd, 0, none⟩)] 154)).trans (k1.mono fun _ h => h)
  have HP : Hid (pList pInt s = pMany pInt (numS (5000 : Int).toNat s).1 (numS (5000 : Int).toNat s).2) := rfl
  have hle' : (numS (5000 : Int).toNat s).1 ≤ 5000 := hle
  clear h0 row0 k1 hle
  generalize numS (5000 : Int).toNat s = N at h1 HP hle' ⊢
  go_wp2_with fail
  go_loopw [5, 6] (fun l n wr => ∃ (xs : List Int) (css : List (List Value)) (m : Nat) (s' : RdS) (a : Option Addr) (cap : Nat), l = .slice a xs.length cap ∧ n = .int .i64 m ∧ Hid (pMany pInt N.1 N.2 = (xs ++ (pMany pInt m s').1, (pMany pInt m s').2)) ∧
      wr.ownsRow (w.heap.size + 1) 3 1 (.slice a xs.length cap) xs.length css.flatten ∧ Els (rInt .i64) wr (fun b => NewIn w wr b ∧ ¬ OwnB (.slice a xs.length cap) b) css xs ∧ IsRd wr 151 rd p s' ∧ RowIs wr w.heap.size 154 [.pointer (some ⟨rd, 0, none⟩)] ∧ Keep (· = rd) w wr ∧ xs.length + m ≤ 5000) (fun _ n _ => (intOf n).toNat)
  case atStart => exact ⟨[], [], N.1, N.2, none, 0, rfl, rfl, rfl, World.ownsRow_nil _ _ _ _, Els.nil _ _ _, h1, row1, kk1, by simpa using hle'⟩
  case round =>
    clear h1 row1 kk1 hle'
    obtain ⟨xs, css, m, s', a, cap, rfl, rfl, hp, own, els, hr, row, kk, hm⟩ := hrel
    have x0 : wr.cell? ⟨w.heap.size, 0, none⟩ = some (.pointer (some ⟨rd, 0, none⟩)) := row.cell 0
    have hfar : xs.length ≤ far := by unfold far; omega
    by_cases hm0 : m = 0
    · subst hm0
      clear hm
      go_wp2_with fail
      go_ret
      refine ⟨_, rfl, ?_, ?_, kk⟩
      · rw [HP.out, hp.out]; exact Els.list (Nat.le_succ _) own els (rInt_lawful _) (by simp [pMany]) hfar
      · rw [HP.out, hp.out]; exact hr
    · obtain ⟨m, rfl⟩ : ∃ m', m = m' + 1 := ⟨m - 1, by omega⟩
      have hpos : (0 : Int) < ((m + 1 : Nat) : Int) := by omega
      clear hm0
      go_wp2_with fail
      go_fit (Err_rd rd p s' wr hr)
      rintro e w2 ⟨rfl, k2⟩
      have own2 := owned_keep own k2 (fun _ _ h => h)
      have els2 := (els.keep (rInt_lawful _) (k2.nix (S := (· = rd))) (fun b hb e => by have := hb.1.1; omega)).mono (q := fun b => NewIn w w2 b ∧ ¬ OwnB (.slice a xs.length cap) b) (rInt_lawful _) (fun b hb => ⟨⟨hb.1.1, Nat.lt_of_lt_of_le hb.1.2 k2.size⟩, hb.2⟩)
      have hr2 := hr.nix k2
      have row2 := row.keep k2 (fun h => h)
      have kk2 : Keep (· = rd) w w2 := kk.trans (k2.nix)
      have hwr := kk.size
      have hsz2 := k2.size
      clear own els hr row kk x0
      have x0 : w2.cell? ⟨w.heap.size, 0, none⟩ = some (.pointer (some ⟨rd, 0, none⟩)) := row2.cell 0
      rcases test_eq s'.e 0 with ⟨ht, he⟩ | ⟨ht, he⟩
      · go_wp2_with fail
        go_fit (rint_g rd p s' w2 hr2)
        rintro e w3 ⟨rfl, hr3, k3⟩
        have hc : (rInt .i64) w3 (NewIn w2 w3) [.int .i64 (pInt s').1] (pInt s').1 := ⟨rfl, zag_wf (numS_lt maxU s')⟩
        have own3 := owned_keep own2 k3 (fun b hb e => by have := (own2.lt b hb).1; omega)
        have row3 := row2.keep k3 (by omega)
        have kk3 := kk2.trans k3
        have hB := row3.lt
        have hsz3 := k3.size
        have hol : ∀ b, OwnB (.slice a xs.length cap) b → b < w2.heap.size := fun b hb => (own2.lt b hb).2
        have hlen := xs.length
        have hHP : Hid (pMany pInt (m + 1) s' = ((pInt s').1 :: (pMany pInt m (pInt s').2).1, (pMany pInt m (pInt s').2).2)) := by show _ = _; rw [pMany, if_pos he.out]
        clear own2 hr2 row2 kk2 x0 hlen
        go_wp2_with (at_builtin; refine wpl_append1_at T_lint rfl (.tmp 20) (.tmp 23) rfl (w.heap.size + 1) rfl own3 rfl ?c0 ?c1 ?c2 ?c3 ?c4 ?_)
        case c0 => rfl
        case c1 => first | rfl | (intro u hu; simp at hu; subst hu; rfl)
        case c2 => unfold maxLen; omega
        case c3 => omega
        case c4 => omega
        intro a' cap' w4 own4 k4 hfresh
        have els4 := els2.push (rInt_lawful _) hc k3 k4 hlt (by omega) hol hfresh
        have row4 : RowIs w4 w.heap.size 154 [.pointer (some ⟨rd, 0, none⟩)] := row3.keep k4 (fun hb => by have := hol _ hb; have := (own3.lt _ hb).1; omega)
        have hr4 : IsRd w4 151 rd p (pInt s').2 := hr3.keep k4 (fun hb => by have := (own3.lt _ hb).1; omega) (fun b hb hb2 => by have := (own3.lt _ hb2).1; have := hpl b hb; omega)
        have kk4 : Keep (· = rd) w w4 := kk3.then k4 (fun i hi hb => by have := (own3.lt _ hb).1; omega)
        clear own3 els2 row3 hr3 kk3 k3 k4 hfresh
        go_wp2
        go_roundw
        case rel => exact ⟨xs ++ [(pInt s').1], css ++ [[.int .i64 (pInt s').1]], m, (pInt s').2, a', cap', by simp, by go_num, by show _ = _; rw [hp.out, hHP.out]; simp, by simpa using own4, by simpa using els4, hr4, row4, kk4, by simp; omega⟩
        case measure => simp [intOf] <;> omega
      · go_wp2_with fail
        go_ret
        have hHP : pMany pInt (m + 1) s' = ([], s') := by rw [pMany, if_neg he]
        refine ⟨_, rfl, ?_, ?_, kk2⟩
        · rw [HP.out, hp.out, hHP]; exact Els.list (Nat.le_succ _) own2 els2 (rInt_lawful _) (by simp) hfar
        · rw [HP.out, hp.out, hHP]; exact hr2
theorem T_lnum : SliceT Tryz.prog 46 28 1 8 := SliceT.mk' Tryz.underlying46 (z := .int .u64 0) (by kernel_rfl) rfl (by decide)
set_option maxRecDepth 100000 in
set_option maxHeartbeats 4000000 in
theorem itnum_c (rd : Nat) (p : Nat → Prop) (s : RdS) (w : World) (h : IsRd w 151 rd p s) (hpl : ∀ b, p b → b < w.heap.size) :
    Calls Tryz.prog 135 #[.agg #[.pointer (some ⟨rd, 0, none⟩)], .func (.func 131) #[.agg #[.pointer (some ⟨rd, 0, none⟩)]] #[]] w (GetsV (rList (rInt .u64)) 151 rd p w (pList pNum s)) := by
  have hlt := h.lt
  have h0 := h.nix ((Keep.refl Nix w).alloc (.cells #[.pointer (some ⟨rd, 0, none⟩)] 154))
  have row0 : RowIs (w.alloc (.cells #[.pointer (some ⟨rd, 0, none⟩)] 154)) w.heap.size 154 [.pointer (some ⟨rd, 0, none⟩)] := RowIs.alloc w _ _
  have hle := numS_le 5000 s
  clear h
  go_enter Tryz.func135, Tryz.ntmps135
  go_wp2_with fail
  go_fit (Small_rd rd p s _ h0 5000 (by unfold isI64; omega))
  rintro e w1 ⟨rfl, h1, k1⟩
  have row1 := row0.keep k1 (by omega)
  have kk1 : Keep (· = rd) w w1 := ((Keep.refl (· = rd) w).alloc (.cells #[.pointer (some ⟨rd, 0, none⟩)] 154)).trans (k1.mono fun _ h => h)
  have HP : Hid (pList pNum s = pMany pNum (numS (5000 : Int).toNat s).1 (numS (5000 : Int).toNat s).2) := rfl
  have hle' : (numS (5000 : Int).toNat s).1 ≤ 5000 := hle
  clear h0 row0 k1 hle
  generalize numS (5000 : Int).toNat s = N at h1 HP hle' ⊢
  go_wp2_with fail
  go_loopw [5, 6] (fun l n wr => ∃ (xs : List Int) (css : List (List Value)) (m : Nat) (s' : RdS) (a : Option Addr) (cap : Nat), l = .slice a xs.length cap ∧ n = .int .i64 m ∧ Hid (pMany pNum N.1 N.2 = (xs ++ (pMany pNum m s').1, (pMany pNum m s').2)) ∧
      wr.ownsRow (w.heap.size + 1) 28 1 (.slice a xs.length cap) xs.length css.flatten ∧ Els (rInt .u64) wr (fun b => NewIn w wr b ∧ ¬ OwnB (.slice a xs.length cap) b) css xs ∧ IsRd wr 151 rd p s' ∧ RowIs wr w.heap.size 154 [.pointer (some ⟨rd, 0, none⟩)] ∧ Keep (· = rd) w wr ∧ xs.length + m ≤ 5000) (fun _ n _ => (intOf n).toNat)
  case atStart => exact ⟨[], [], N.1, N.2, none, 0, rfl, rfl, rfl, World.ownsRow_nil _ _ _ _, Els.nil _ _ _, h1, row1, kk1, by simpa using hle'⟩
  case round =>
    clear h1 row1 kk1 hle'
    obtain ⟨xs, css, m, s', a, cap, rfl, rfl, hp, own, els, hr, row, kk, hm⟩ := hrel
    have x0 : wr.cell? ⟨w.heap.size, 0, none⟩ = some (.pointer (some ⟨rd, 0, none⟩)) := row.cell 0
    have hfar : xs.length ≤ far := by unfold far; omega
    by_cases hm0 : m = 0
    · subst hm0
      clear hm
      go_wp2_with fail
      go_ret
      refine ⟨_, rfl, ?_, ?_, kk⟩
      · rw [HP.out, hp.out]; exact Els.list (Nat.le_succ _) own els (rInt_lawful _) (by simp [pMany]) hfar
      · rw [HP.out, hp.out]; exact hr
    · obtain ⟨m, rfl⟩ : ∃ m', m = m' + 1 := ⟨m - 1, by omega⟩
      have hpos : (0 : Int) < ((m + 1 : Nat) : Int) := by omega
      clear hm0
      go_wp2_with fail
      go_fit (Err_rd rd p s' wr hr)
      rintro e w2 ⟨rfl, k2⟩
      have own2 := owned_keep own k2 (fun _ _ h => h)
      have els2 := (els.keep (rInt_lawful _) (k2.nix (S := (· = rd))) (fun b hb e => by have := hb.1.1; omega)).mono (q := fun b => NewIn w w2 b ∧ ¬ OwnB (.slice a xs.length cap) b) (rInt_lawful _) (fun b hb => ⟨⟨hb.1.1, Nat.lt_of_lt_of_le hb.1.2 k2.size⟩, hb.2⟩)
      have hr2 := hr.nix k2
      have row2 := row.keep k2 (fun h => h)
      have kk2 : Keep (· = rd) w w2 := kk.trans (k2.nix)
      have hwr := kk.size
      have hsz2 := k2.size
      clear own els hr row kk x0
      have x0 : w2.cell? ⟨w.heap.size, 0, none⟩ = some (.pointer (some ⟨rd, 0, none⟩)) := row2.cell 0
      rcases test_eq s'.e 0 with ⟨ht, he⟩ | ⟨ht, he⟩
      · go_wp2_with fail
        go_fit (rnum_g rd p s' w2 hr2)
        rintro e w3 ⟨rfl, hr3, k3⟩
        have hc : (rInt .u64) w3 (NewIn w2 w3) [.int .u64 (pNum s').1] (pNum s').1 := ⟨rfl, num_wf (numS_lt maxU s')⟩
        have own3 := owned_keep own2 k3 (fun b hb e => by have := (own2.lt b hb).1; omega)
        have row3 := row2.keep k3 (by omega)
        have kk3 := kk2.trans k3
        have hB := row3.lt
        have hsz3 := k3.size
        have hol : ∀ b, OwnB (.slice a xs.length cap) b → b < w2.heap.size := fun b hb => (own2.lt b hb).2
        have hlen := xs.length
        have hHP : Hid (pMany pNum (m + 1) s' = ((pNum s').1 :: (pMany pNum m (pNum s').2).1, (pMany pNum m (pNum s').2).2)) := by show _ = _; rw [pMany, if_pos he.out]
        clear own2 hr2 row2 kk2 x0 hlen
        go_wp2_with (at_builtin; refine wpl_append1_at T_lnum rfl (.tmp 20) (.tmp 23) rfl (w.heap.size + 1) rfl own3 rfl ?c0 ?c1 ?c2 ?c3 ?c4 ?_)
        case c0 => rfl
        case c1 => first | rfl | (intro u hu; simp at hu; subst hu; rfl)
        case c2 => unfold maxLen; omega
        case c3 => omega
        case c4 => omega
        intro a' cap' w4 own4 k4 hfresh
        have els4 := els2.push (rInt_lawful _) hc k3 k4 hlt (by omega) hol hfresh
        have row4 : RowIs w4 w.heap.size 154 [.pointer (some ⟨rd, 0, none⟩)] := row3.keep k4 (fun hb => by have := hol _ hb; have := (own3.lt _ hb).1; omega)
        have hr4 : IsRd w4 151 rd p (pNum s').2 := hr3.keep k4 (fun hb => by have := (own3.lt _ hb).1; omega) (fun b hb hb2 => by have := (own3.lt _ hb2).1; have := hpl b hb; omega)
        have kk4 : Keep (· = rd) w w4 := kk3.then k4 (fun i hi hb => by have := (own3.lt _ hb).1; omega)
        clear own3 els2 row3 hr3 kk3 k3 k4 hfresh
        go_wp2
        go_roundw
        case rel => exact ⟨xs ++ [(pNum s').1], css ++ [[.int .u64 (pNum s').1]], m, (pNum s').2, a', cap', by simp, by go_num, by show _ = _; rw [hp.out, hHP.out]; simp, by simpa using own4, by simpa using els4, hr4, row4, kk4, by simp; omega⟩
        case measure => simp [intOf] <;> omega
      · go_wp2_with fail
        go_ret
        have hHP : pMany pNum (m + 1) s' = ([], s') := by rw [pMany, if_neg he]
        refine ⟨_, rfl, ?_, ?_, kk2⟩
        · rw [HP.out, hp.out, hHP]; exact Els.list (Nat.le_succ _) own2 els2 (rInt_lawful _) (by simp) hfar
        · rw [HP.out, hp.out, hHP]; exact hr2
end Go.Proofs.YtibaehlfpgipfaaGreat
