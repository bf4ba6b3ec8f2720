/- THE LAW PagesTwice, walked. Printed by mac.py. -/
import Derived.Test.YthkocgpbpgfocaaPgP
namespace Go.Proofs.Ythkocgpbpgfocaa
open Go.RowKit

theorem putS_put {l : List GPair} (hr : l.Pairwise ltP) {x y : GPair} (h : x.fKey = y.fKey) : putS (putS l x) y = putS l y :=
  rising_ext (rising_putS (rising_putS hr x) y) (rising_putS hr y) (fun z => by
    rw [mem_putS, mem_putS, mem_putS]
    constructor
    · rintro (h1 | ⟨rfl | h1, h2⟩)
      · exact .inl h1
      · exact absurd h h2
      · exact .inr ⟨h1.1, h2⟩
    · rintro (h1 | ⟨h1, h2⟩)
      · exact .inl h1
      · exact .inr ⟨.inr ⟨h1, by rw [h]; exact h2⟩, h2⟩)
theorem cut_put {l : List GPair} (hr : l.Pairwise ltP) (x : GPair) : cutK (putS l x) x.fKey = cutK l x.fKey :=
  rising_ext (cutK_rising (rising_putS hr x) _) (cutK_rising hr _) (fun z => by
    unfold cutK
    rw [List.mem_filter, List.mem_filter, mem_putS]
    simp only [decide_eq_true_eq, ne_eq]
    constructor
    · rintro ⟨rfl | ⟨h1, h2⟩, h3⟩
      · exact absurd rfl h3
      · exact ⟨h1, h3⟩
    · rintro ⟨h1, h2⟩
      exact ⟨.inr ⟨h1, h2⟩, h2⟩)
theorem may_q {p : GPair} {v : List UInt8} (h : mayF p = 0) (hv : v.length ≤ 1000) : mayF ⟨p.fKey, v, p.fVersion⟩ = 0 := by
  unfold mayF at h ⊢
  by_cases h1 : p.fKey = [] ∨ 600 < p.fKey.length
  · rw [if_pos h1] at h; cases h
  · rw [if_neg h1, if_neg (by show ¬ 1000 < v.length; omega)]
theorem mayPut_ok {l : List GPair} {x : GPair} (h : mayF x = 0) : mayPut l x = putS l x := by unfold mayPut; rw [if_pos h]
theorem cut_no (l : List GPair) (key : List UInt8) : hasK (cutK l key) key = false ∧ cutK (cutK l key) key = cutK l key := by
  have h : ∀ x ∈ cutK l key, x.fKey ≠ key := fun x hx => by
    have := (List.mem_filter.1 hx).2
    simpa using this
  exact ⟨hasK_none h, cutK_none h⟩
set_option maxRecDepth 100000 in
set_option maxHeartbeats 4000000 in
theorem twice_walk (Wo : World) (a0 aU : Option Addr) (cap cU : Nat) (l : List GPair) (p0 : GPair) (csp : List Value) (val : List UInt8) (hl : rList rGPair Wo (· < Wo.heap.size) [.slice a0 l.length cap] l) (hp : rGPair Wo (· < Wo.heap.size) csp p0) (hv : Lies Wo (· < Wo.heap.size) aU (val.map bv)) (hvc : val.length ≤ cU) (hvf : val.length ≤ far) :
    Calls Try.prog 4 #[.slice a0 l.length cap, .agg csp.toArray, .slice aU val.length cU] Wo fun e w' => e = .returned (.bool true) ∧ Keep Nix Wo w' := by
  have hp2 := hp
  obtain ⟨eK, fK, eV, fV, rfl, hpk, hpv, hpz, -⟩ := rGPair_open hp
  have k0 : Keep Nix Wo (Wo.alloc (.cells #[.slice eK p0.fKey.length fK, .slice eV p0.fValue.length fV, .int .i64 p0.fVersion] 29)) := (Keep.refl Nix Wo).alloc _
  have rowP := RowIs.alloc Wo #[.slice eK p0.fKey.length fK, .slice eV p0.fValue.length fV, .int .i64 p0.fVersion] 29
  have hW0 : Hid ((Wo.alloc (.cells #[.slice eK p0.fKey.length fK, .slice eV p0.fValue.length fV, .int .i64 p0.fVersion] 29)).heap.size = Wo.heap.size + 1) := by show _ = _; simp
  have HL0 := Lib.hid hl
  have HP0 := Lib.hid (And.intro hp2 (And.intro hpk (And.intro hpv hpz)))
  have HV0 : Hid (Lies Wo (· < Wo.heap.size) aU (val.map bv) ∧ val.length ≤ cU ∧ val.length ≤ far) := ⟨hv, hvc, hvf⟩
  clear hl hp hp2 hpk hpv hpz hv hvc hvf
  go_enter Try.func4, Try.ntmps4
  go_upto_region 1 with fail
  generalize Wo.alloc (.cells #[.slice eK p0.fKey.length fK, .slice eV p0.fValue.length fV, .int .i64 p0.fVersion] 29) = W at *
  have HL : Hid (rList rGPair W (· < W.heap.size) [.slice a0 l.length cap] l) := (rList_lawful rGPair_lawful).mono ((rList_lawful rGPair_lawful).nix HL0.out k0) (fun b hb => Nat.lt_of_lt_of_le hb k0.size)
  have HP : Hid (rGPair W (· < Wo.heap.size) [.slice eK p0.fKey.length fK, .slice eV p0.fValue.length fV, .int .i64 p0.fVersion] p0) := rGPair_lawful.nix HP0.out.1 k0
  clear HL0
  go_wp2_with fail
  go_fit (new_m W)
  rintro e w1 ⟨rfl, MM, k1⟩
  go_wp2_with fail
  go_fit (awake_c w1)
  rintro e w2 ⟨rfl, k2⟩
  replace MM := MM.nix k2
  have kk := k1.trans k2
  have hgm := MM.lt _ rfl
  clear k1 k2
  obtain ⟨gm, hgW⟩ : ∃ gm, W.heap.size = gm := ⟨_, rfl⟩
  rw [hgW] at MM ⊢
  have HGW := Lib.hid (Nat.le_of_eq hgW)
  clear hgW hgm
  have rowP2 := rowP.keep kk id
  have q0 := rowP2.cell 0
  (try simp only [List.getElem?_cons_zero] at q0)
  have q1 := rowP2.cell 1
  (try simp only [List.getElem?_cons_succ] at q1); (try simp only [List.getElem?_cons_zero] at q1)
  have q2 := rowP2.cell 2
  (try simp only [List.getElem?_cons_succ] at q2); (try simp only [List.getElem?_cons_zero] at q2)
  rcases Int.lt_or_le 60 (l.length : Int) with h60 | h60
  · clear MM q0 q1 q2
    go_wp2_with fail
    go_fit (awake_c w2)
    rintro e w4 ⟨rfl, k4⟩
    go_wp2_with fail
    go_ret
    exact ⟨rfl, k0.trans (kk.trans k4)⟩
  go_wp2_with fail
  go_fit (may_c p0 _ w2 (rGPair_lawful.nix HP.out kk))
  rintro e w3 ⟨rfl, k3⟩
  clear q0 q1 q2
  by_cases hm : mayF p0 = 0
  rotate_left
  · have hm2 : (mayF p0 != 0) = true := by simp only [bne_iff_ne]; exact hm
    clear hm MM
    generalize mayF p0 = mp at *
    go_wp2_with fail
    go_fit (awake_c w3)
    rintro e w4 ⟨rfl, k4⟩
    go_wp2_with fail
    go_ret
    exact ⟨rfl, k0.trans ((kk.trans k3).trans k4)⟩
  rw [hm]
  rcases Int.lt_or_le 1000 (val.length : Int) with hv1 | hv1
  · clear MM
    go_wp2_with fail
    go_fit (awake_c w3)
    rintro e w4 ⟨rfl, k4⟩
    go_wp2_with fail
    go_ret
    exact ⟨rfl, k0.trans ((kk.trans k3).trans k4)⟩
  have HMF := Lib.hid hm
  have HST := Lib.hid (Filled.start (MM.nix k3) HGW.out (kk.trans k3))
  clear MM kk k3 rowP2 hm
  go_wp2_with fail
  go_loopw [8, 9] (fun u v wr => ∃ (i : Nat) (O : Nat → Prop) (lm : List GPair) (aA : Option Addr) (cA : Nat), i ≤ l.length ∧ u = .slice aA lm.length cA ∧ v = .int .i64 i ∧ Filled W gm i wr O lm aA cA) (fun _ v _ => l.length - (intOf v).toNat)
  case atStart => exact ⟨0, _, _, _, _, by omega, rfl, rfl, HST.out⟩
  case round =>
    clear HST
    obtain ⟨i, O, lm, aA, cA, hi, rfl, rfl, F⟩ := hrel
    by_cases hlt : i < l.length
    · have hi0 : (0 : Int) ≤ (i : Int) := by omega
      have hi1 : (i : Int) < (l.length : Int) := by omega
      have hkk := F.kk
      obtain ⟨b, o, aK, cK, aV, cV, rfl, hbw, -, rx, x0, x1, x2⟩ := at_pair HL.out i hlt
      obtain ⟨x, hx⟩ : ∃ x, l[i] = x := ⟨_, rfl⟩
      rw [hx] at rx x0 x1 x2
      have HX0 := Lib.hid x0
      have HX1 := Lib.hid x1
      have HX2 := Lib.hid x2
      have HRX := Lib.hid rx
      replace x0 := (hkk.cell (p := ⟨b, o + i * 3, none⟩) hbw id).trans x0
      replace x1 := (hkk.cell (p := ⟨b, o + i * 3 + 1, none⟩) hbw id).trans x1
      replace x2 := (hkk.cell (p := ⟨b, o + i * 3 + 2, none⟩) hbw id).trans x2
      have hlm : lm.length ≤ 100 := by have := F.len; omega
      have hput := put_m O gm lm x _ wr F.map (by omega) (rGPair_lawful.nix rx hkk)
      have HFF := Lib.hid F
      clear hx rx hkk F
      go_wp2_with fail
      go_fit hput
      clear hput
      rintro e w2 ⟨rfl, O2, M2, hO2, k2⟩
      obtain ⟨S2, hfar2, kk2⟩ := HFF.out.more M2 hO2 k2
      have hlen2 := len_mayPut lm x
      have hFl := HFF.out.len
      have hri := HFF.out.map.rising
      replace x0 := (kk2.cell (p := ⟨b, o + i * 3, none⟩) hbw id).trans HX0.out
      replace x1 := (kk2.cell (p := ⟨b, o + i * 3 + 1, none⟩) hbw id).trans HX1.out
      replace x2 := (kk2.cell (p := ⟨b, o + i * 3 + 2, none⟩) hbw id).trans HX2.out
      have HRI := Lib.hid hri
      clear hO2 k2 hri
      by_cases hm : mayF x = 0
      · have hmp : mayPut lm x = putS lm x := by unfold mayPut; rw [if_pos hm]
        rw [hmp] at M2 hlen2
        rw [hm]
        have hps := putS_c lm x aA cA [.slice aK x.fKey.length cK, .slice aV x.fValue.length cV, .int .i64 x.fVersion] w2 S2 (rGPair_lawful.nix HRX.out kk2) HRI.out (by omega)
        have HM2 := Lib.hid M2
        have HF2 := Lib.hid hfar2
        clear M2 S2 hmp hm hfar2
        go_wp2_with fail
        go_fit hps
        clear hps
        rintro e w3 ⟨a3, c3, css, rfl, own, els, k3⟩
        have S3 := SideL.of (O := O2) own els (by unfold far; omega) (fun b hb h => by
          rcases hb with hb | hb
          · exact hb.2
          · intro h2; have := HF2.out b h2; have hb' : b < W.heap.size := hb; omega) (fun b hb => HM2.out.lt b hb) k3.size
        have HF3 : Hid (Filled W gm (i + 1) w3 O2 (putS lm x) a3 c3) := ⟨HM2.out.nix k3, S3, HF2.out, by omega, kk2.trans k3⟩
        clear own els S3 k3 x0 x1 x2 kk2 HFF
        go_wp2_with fail
        go_roundw
        case rel => exact ⟨i + 1, O2, _, a3, c3, by omega, rfl, by go_num, HF3.out⟩
        case measure => simp [intOf]; omega
      · have hmp : mayPut lm x = lm := by unfold mayPut; rw [if_neg hm]
        rw [hmp] at M2
        have hm2 : (mayF x == 0) = false := by simp only [beq_eq_false_iff_ne]; exact hm
        have HF3 : Hid (Filled W gm (i + 1) w2 O2 lm aA cA) := ⟨M2, S2, hfar2, by omega, kk2⟩
        generalize mayF x = mx at *
        clear M2 S2 hfar2 hmp hm x0 x1 x2 kk2 HFF
        go_wp2_with fail
        go_roundw
        case rel => exact ⟨i + 1, O2, _, aA, cA, by omega, rfl, by go_num, HF3.out⟩
        case measure => simp [intOf]; omega
    · obtain rfl : i = l.length := by omega
      have rowPr := rowP.keep F.kk id
      have q0 := rowPr.cell 0
      (try simp only [List.getElem?_cons_zero] at q0)
      have q1 := rowPr.cell 1
      (try simp only [List.getElem?_cons_succ] at q1); (try simp only [List.getElem?_cons_zero] at q1)
      have q2 := rowPr.cell 2
      (try simp only [List.getElem?_cons_succ] at q2); (try simp only [List.getElem?_cons_zero] at q2)
      have hlm : lm.length ≤ 60 := by have := F.len; omega
      have HF := Lib.hid F
      clear F hlt
      go_upto_region 11 with fail
      have kQ : Keep Nix wr (wr.alloc (.cells #[.slice eK p0.fKey.length fK, .slice aU val.length cU, .int .i64 p0.fVersion] 29)) := (Keep.refl Nix wr).alloc _
      have rowQ := RowIs.alloc wr #[.slice eK p0.fKey.length fK, .slice aU val.length cU, .int .i64 p0.fVersion] 29
      have rowPq := rowPr.keep kQ id
      have M0 := HF.out.map.nix kQ
      have S0 := HF.out.side.nix kQ
      have kk0 := HF.out.kk.trans kQ
      have hO0 := HF.out.map.lt
      have hOW := HF.out.far
      have hri := Lib.hid HF.out.map.rising
      have hW1 := hW0.out
      have hbox : Wo.heap.size < W.heap.size := by omega
      have hboxr : Wo.heap.size < wr.heap.size := Nat.lt_of_lt_of_le hbox HF.out.kk.size
      have hsQ := kQ.size
      obtain ⟨cq, hcq⟩ : ∃ cq, wr.heap.size = cq := ⟨_, rfl⟩
      clear q0 q1 q2 rowPr HF kQ hW1
      rw [hcq] at rowQ hO0 hboxr hsQ ⊢
      generalize wr.alloc (.cells #[.slice eK p0.fKey.length fK, .slice aU val.length cU, .int .i64 p0.fVersion] 29) = wq at *
      clear hcq wr
      have hGp := rGPair_lawful.nix HP.out kk0
      have hmq := may_q HMF.out (v := val) (by omega)
      have hvW := HV0.out
      have hpp := HP0.out.2
      have hGq : rGPair wq (· < Wo.heap.size) [.slice eK p0.fKey.length fK, .slice aU val.length cU, .int .i64 p0.fVersion] ⟨p0.fKey, val, p0.fVersion⟩ := rGPair_mk (x := ⟨p0.fKey, val, p0.fVersion⟩) wq _ ⟨hpp.1.1.keep (k0.trans kk0) (fun _ _ h => h), hpp.1.2⟩ ⟨hvW.1.keep (k0.trans kk0) (fun _ _ h => h), hvW.2⟩ hpp.2.2
      have hfk : Lies wq (· < Wo.heap.size) eK (p0.fKey.map bv) := hpp.1.1.keep (k0.trans kk0) (fun _ _ h => h)
      clear hvW hpp
      have x0 := rowPq.cell 0
      (try simp only [List.getElem?_cons_zero] at x0)
      have x1 := rowPq.cell 1
      (try simp only [List.getElem?_cons_succ] at x1); (try simp only [List.getElem?_cons_zero] at x1)
      have x2 := rowPq.cell 2
      (try simp only [List.getElem?_cons_succ] at x2); (try simp only [List.getElem?_cons_zero] at x2)
      have hl61 := len_putS lm p0
      have hput1 := put_m O gm lm p0 _ wq M0 (by omega) hGp
      clear M0
      go_wp2_with fail
      go_fit hput1
      clear hput1
      rintro e w3 ⟨rfl, O3, M3, hO3, k3⟩
      rw [mayPut_ok HMF.out] at M3
      rw [HMF.out]
      have hOlt : ∀ b, O b → Wo.heap.size < b := fun b hb => by have := hOW b hb; omega
      have hcqO : ¬ O cq := fun h => by have := hO0 _ h; omega
      have hbxO : ¬ O Wo.heap.size := fun h => by have := hOlt _ h; omega
      have hql := rowQ.lt
      have hpl := rowPq.lt
      have rowQ3 := rowQ.keep k3 hcqO
      have rowP3 := rowPq.keep k3 hbxO
      have S3 := S0.keep k3 hO3
      have hGq3 := rGPair_lawful.keep hGq k3 (fun b hb h => by have := hOlt b h; omega)
      have hfk3 := hfk.keep k3 (fun b hb h => by have := hOlt b h; omega)
      have hO3W : ∀ b, O3 b → W.heap.size ≤ b := fun b hb => by
        rcases hO3 b hb with h | h
        · exact hOW b h
        · have := kk0.size; omega
      have hcqO3 : ¬ O3 cq := fun h => by
        rcases hO3 _ h with h | h
        · exact hcqO h
        · omega
      have kk3 := kk0.then k3 (fun i hi h => by have := hOW i h; omega)
      clear x0 x1 x2 rowQ rowPq S0 hGq hfk hGp kk0 k3 hO3
      have y0 := rowQ3.cell 0
      (try simp only [List.getElem?_cons_zero] at y0)
      have y1 := rowQ3.cell 1
      (try simp only [List.getElem?_cons_succ] at y1); (try simp only [List.getElem?_cons_zero] at y1)
      have y2 := rowQ3.cell 2
      (try simp only [List.getElem?_cons_succ] at y2); (try simp only [List.getElem?_cons_zero] at y2)
      have hl62 := len_putS (putS lm p0) ⟨p0.fKey, val, p0.fVersion⟩
      have hput2 := put_m O3 gm (putS lm p0) ⟨p0.fKey, val, p0.fVersion⟩ _ w3 M3 (by omega) hGq3
      clear M3
      go_wp2_with fail
      go_fit hput2
      clear hput2
      rintro e w4 ⟨rfl, O4, M4, hO4, k4⟩
      rw [mayPut_ok hmq, putS_put hri.out (x := p0) (y := ⟨p0.fKey, val, p0.fVersion⟩) rfl] at M4
      rw [hmq]
      have hbxO3 : ¬ O3 Wo.heap.size := fun h => by have := hO3W _ h; omega
      have rowQ4 := rowQ3.keep k4 hcqO3
      have rowP4 := rowP3.keep k4 hbxO3
      have S4 := S3.keep k4 hO4
      have hGq4 := rGPair_lawful.keep hGq3 k4 (fun b hb h => by have := hO3W b h; omega)
      have hfk4 := hfk3.keep k4 (fun b hb h => by have := hO3W b h; omega)
      have hql3 := rowQ3.lt
      have hO4W : ∀ b, O4 b → W.heap.size ≤ b := fun b hb => by
        rcases hO4 b hb with h | h
        · exact hO3W b h
        · have := kk3.size; omega
      have hcqO4 : ¬ O4 cq := fun h => by
        rcases hO4 _ h with h | h
        · exact hcqO3 h
        · omega
      have kk4 := kk3.then k4 (fun i hi h => by have := hO3W i h; omega)
      clear y0 y1 y2 rowQ3 rowP3 S3 hGq3 hfk3 kk3 k4 hO4 hO3W
      have x0 := rowP4.cell 0
      (try simp only [List.getElem?_cons_zero] at x0)
      have hqm : (⟨p0.fKey, val, p0.fVersion⟩ : GPair) ∈ putS lm ⟨p0.fKey, val, p0.fVersion⟩ := mem_putS.2 (.inl rfl)
      have hH : hasK (putS lm ⟨p0.fKey, val, p0.fVersion⟩) p0.fKey = true := hasK_some (x := ⟨p0.fKey, val, p0.fVersion⟩) hqm
      have hFi : findF (putS lm ⟨p0.fKey, val, p0.fVersion⟩) p0.fKey = ⟨p0.fKey, val, p0.fVersion⟩ := findF_mem M4.rising hqm
      have hl63 := len_putS lm ⟨p0.fKey, val, p0.fVersion⟩
      have hget := get_m O4 gm (putS lm ⟨p0.fKey, val, p0.fVersion⟩) p0.fKey eK fK w4 M4 (by omega) hfk4
      go_wp2_with fail
      go_fit hget
      clear hget
      rintro e w5 ⟨cx, Rx, rfl, hx, k5⟩
      rw [hFi] at hx
      rw [hH]
      obtain ⟨b1, d1, b2, d2, rfl, -⟩ := rGPair_open hx
      have rowQ5 := rowQ4.keep k5 id
      have rowP5 := rowP4.keep k5 id
      have S5 := S4.nix k5
      have M5 := M4.nix k5
      have hGq5 := rGPair_lawful.nix hGq4 k5
      have hfk5 := hfk4.keep k5 (fun _ _ h => h)
      have kk5 := kk4.trans k5
      have kX : Keep Nix w5 (w5.alloc (.cells #[.slice b1 (⟨p0.fKey, val, p0.fVersion⟩ : GPair).fKey.length d1, .slice b2 (⟨p0.fKey, val, p0.fVersion⟩ : GPair).fValue.length d2, .int .i64 (⟨p0.fKey, val, p0.fVersion⟩ : GPair).fVersion] 29)) := (Keep.refl Nix w5).alloc _
      have rowX := RowIs.alloc w5 #[.slice b1 (⟨p0.fKey, val, p0.fVersion⟩ : GPair).fKey.length d1, .slice b2 (⟨p0.fKey, val, p0.fVersion⟩ : GPair).fValue.length d2, .int .i64 (⟨p0.fKey, val, p0.fVersion⟩ : GPair).fVersion] 29
      clear x0 rowQ4 rowP4 S4 M4 hGq4 hfk4 kk4 k5 hFi hH hqm
      go_upto_region 14 with fail
      have hO5 := M5.lt
      have rowQ6 := rowQ5.keep kX id
      have rowP6 := rowP5.keep kX id
      have S6 := S5.nix kX
      have M6 := M5.nix kX
      have hGq6 := rGPair_lawful.nix hGq5 kX
      have hX6 := rGPair_lawful.nix hx kX
      have hfk6 := hfk5.keep kX (fun _ _ h => h)
      have kk6 := kk5.trans kX
      have hcxO : ¬ O4 w5.heap.size := fun h => by have := hO5 _ h; omega
      clear rowQ5 rowP5 S5 M5 hGq5 hx hfk5 kk5 kX hO5
      generalize w5.alloc (.cells #[.slice b1 (⟨p0.fKey, val, p0.fVersion⟩ : GPair).fKey.length d1, .slice b2 (⟨p0.fKey, val, p0.fVersion⟩ : GPair).fValue.length d2, .int .i64 (⟨p0.fKey, val, p0.fVersion⟩ : GPair).fVersion] 29) = w6 at *
      generalize w5.heap.size = cx at *
      have x0 := rowX.cell 0
      (try simp only [List.getElem?_cons_zero] at x0)
      have x1 := rowX.cell 1
      (try simp only [List.getElem?_cons_succ] at x1); (try simp only [List.getElem?_cons_zero] at x1)
      have x2 := rowX.cell 2
      (try simp only [List.getElem?_cons_succ] at x2); (try simp only [List.getElem?_cons_zero] at x2)
      have y0 := rowQ6.cell 0
      (try simp only [List.getElem?_cons_zero] at y0)
      have y1 := rowQ6.cell 1
      (try simp only [List.getElem?_cons_succ] at y1); (try simp only [List.getElem?_cons_zero] at y1)
      have y2 := rowQ6.cell 2
      (try simp only [List.getElem?_cons_succ] at y2); (try simp only [List.getElem?_cons_zero] at y2)
      have z0 := rowP6.cell 0
      (try simp only [List.getElem?_cons_zero] at z0)
      have kd : Keep Nix w6 w6.drew := (Keep.refl Nix w6).drew
      have hbxO4 : ¬ O4 Wo.heap.size := fun h => by have := hO4W _ h; omega
      refine wp_region_held_drew (S := (fun w' => w'.cell? ⟨cx, 0, none⟩ = some (.slice b1 p0.fKey.length d1) ∧ w'.cell? ⟨cx, 1, none⟩ = some (.slice b2 val.length d2) ∧ w'.cell? ⟨cx, 2, none⟩ = some (.int .i64 p0.fVersion) ∧ w'.cell? ⟨cq, 0, none⟩ = some (.slice eK p0.fKey.length fK) ∧ w'.cell? ⟨cq, 1, none⟩ = some (.slice aU val.length cU) ∧ w'.cell? ⟨cq, 2, none⟩ = some (.int .i64 p0.fVersion) ∧ w'.cell? ⟨Wo.heap.size, 0, none⟩ = some (.slice eK p0.fKey.length fK))) (by kernel_rfl) (⟨x0, x1, x2, y0, y1, y2, z0⟩) (fun hHeld => ?_)
      clear x0 x1 x2 y0 y1 y2 z0
      have hlx := rowX.lt
      have hlq := rowQ6.lt
      have hlp := rowP6.lt
      replace S6 := S6.nix kd
      replace M6 := M6.nix kd
      replace hGq6 := rGPair_lawful.nix hGq6 kd
      replace hX6 := rGPair_lawful.nix hX6 kd
      replace hfk6 := hfk6.keep kd (fun _ _ h => h)
      replace kk6 := kk6.trans kd
      replace hlx := Nat.lt_of_lt_of_le hlx kd.size
      replace hlq := Nat.lt_of_lt_of_le hlq kd.size
      replace hlp := Nat.lt_of_lt_of_le hlp kd.size
      have rowPd := rowP6.keep kd id
      clear kd rowX rowQ6 rowP6
      generalize w6.drew = wd at *
      refine wpAnyH_take (i := 0) (v := ?_) rfl (by kernel_rfl) (by kernel_rfl) (by kernel_rfl) (fun _ _ _ h => h) (Or.inl ⟨by kernel_rfl, ?_⟩) hHeld ?_
      rotate_left
      · intro w' hSw
        (try dsimp only at hSw)
        (try simp only [List.getElem_toArray]); (try simp only [List.getElem_cons_succ]); (try simp only [List.getElem_cons_zero])
        go_simp
        try with_reducible rfl
      (try simp only [Act.put]); (try simp only [List.getElem_toArray]); (try simp only [List.getElem_cons_succ]); (try simp only [List.getElem_cons_zero]); (try simp only [List.setIfInBounds_toArray]); (try simp only [List.set_cons_succ]); (try simp only [List.set_cons_zero])
      refine wpAnyH_take (i := 1) (v := ?_) rfl (by kernel_rfl) (by kernel_rfl) (by kernel_rfl) (fun _ _ _ h => h) (Or.inl ⟨by kernel_rfl, ?_⟩) hHeld ?_
      rotate_left
      · intro w' hSw
        (try dsimp only at hSw)
        (try simp only [List.getElem_toArray]); (try simp only [List.getElem_cons_succ]); (try simp only [List.getElem_cons_zero])
        go_simp
        try with_reducible rfl
      (try simp only [Act.put]); (try simp only [List.getElem_toArray]); (try simp only [List.getElem_cons_succ]); (try simp only [List.getElem_cons_zero]); (try simp only [List.setIfInBounds_toArray]); (try simp only [List.set_cons_succ]); (try simp only [List.set_cons_zero])
      refine wpAnyH_take (i := 2) (v := ?_) rfl (by kernel_rfl) (by kernel_rfl) (by kernel_rfl) (fun _ _ _ h => h) (Or.inl ⟨by kernel_rfl, ?_⟩) hHeld ?_
      rotate_left
      · intro w' hSw
        (try dsimp only at hSw)
        (try simp only [List.getElem_toArray]); (try simp only [List.getElem_cons_succ]); (try simp only [List.getElem_cons_zero])
        go_simp
        try with_reducible rfl
      (try simp only [Act.put]); (try simp only [List.getElem_toArray]); (try simp only [List.getElem_cons_succ]); (try simp only [List.getElem_cons_zero]); (try simp only [List.setIfInBounds_toArray]); (try simp only [List.set_cons_succ]); (try simp only [List.set_cons_zero])
      refine wpAnyH_take (i := 3) (v := ?_) rfl (by kernel_rfl) (by kernel_rfl) (by kernel_rfl) (fun _ _ _ h => h) (Or.inl ⟨by kernel_rfl, ?_⟩) hHeld ?_
      rotate_left
      · intro w' hSw
        (try dsimp only at hSw)
        (try simp only [List.getElem_toArray]); (try simp only [List.getElem_cons_succ]); (try simp only [List.getElem_cons_zero])
        go_simp
        try with_reducible rfl
      (try simp only [Act.put]); (try simp only [List.getElem_toArray]); (try simp only [List.getElem_cons_succ]); (try simp only [List.getElem_cons_zero]); (try simp only [List.setIfInBounds_toArray]); (try simp only [List.set_cons_succ]); (try simp only [List.set_cons_zero])
      refine wpAnyH_take (i := 4) (v := ?_) rfl (by kernel_rfl) (by kernel_rfl) (by kernel_rfl) (fun _ _ _ h => h) (Or.inl ⟨by kernel_rfl, ?_⟩) hHeld ?_
      rotate_left
      · intro w' hSw
        (try dsimp only at hSw)
        (try simp only [List.getElem_toArray]); (try simp only [List.getElem_cons_succ]); (try simp only [List.getElem_cons_zero])
        go_simp
        try with_reducible rfl
      (try simp only [Act.put]); (try simp only [List.getElem_toArray]); (try simp only [List.getElem_cons_succ]); (try simp only [List.getElem_cons_zero]); (try simp only [List.setIfInBounds_toArray]); (try simp only [List.set_cons_succ]); (try simp only [List.set_cons_zero])
      refine wpAnyH_ready (rs := [5]) (by kernel_rfl) (by simp) ?_
      refine AllReadyH.cons rfl (fun K hK => ?_) AllReadyH.nil
      rw [if_pos (by kernel_rfl)]
      go_simp
      go_fit (sPair_c wd ⟨p0.fKey, val, p0.fVersion⟩ _ _ hX6 hGq6)
      rintro e w7 ⟨rfl, k7⟩
      go_wp2_with fail
      refine hK.out _ _ (⟨(k7.cell (p := ⟨cx, 0, none⟩) hlx id).trans hHeld.1, (k7.cell (p := ⟨cx, 1, none⟩) hlx id).trans hHeld.2.1, (k7.cell (p := ⟨cx, 2, none⟩) hlx id).trans hHeld.2.2.1, (k7.cell (p := ⟨cq, 0, none⟩) hlq id).trans hHeld.2.2.2.1, (k7.cell (p := ⟨cq, 1, none⟩) hlq id).trans hHeld.2.2.2.2.1, (k7.cell (p := ⟨cq, 2, none⟩) hlq id).trans hHeld.2.2.2.2.2.1, (k7.cell (p := ⟨Wo.heap.size, 0, none⟩) hlp id).trans hHeld.2.2.2.2.2.2⟩) (fun hHeld => ?_)
      clear hK K
      (try simp only [Act.put]); (try simp only [List.getElem_toArray]); (try simp only [List.getElem_cons_succ]); (try simp only [List.getElem_cons_zero]); (try simp only [List.setIfInBounds_toArray]); (try simp only [List.set_cons_succ]); (try simp only [List.set_cons_zero])
      replace hlx := Nat.lt_of_lt_of_le hlx k7.size
      replace hlq := Nat.lt_of_lt_of_le hlq k7.size
      replace hlp := Nat.lt_of_lt_of_le hlp k7.size
      replace rowPd := rowPd.keep k7 id
      replace S6 := S6.nix k7
      replace M6 := M6.nix k7
      replace hGq6 := rGPair_lawful.nix hGq6 k7
      replace hfk6 := hfk6.keep k7 (fun _ _ h => h)
      replace kk6 := kk6.trans k7
      clear k7 hX6
      refine wpAnyH_take (i := 6) (v := ?_) rfl (by kernel_rfl) (by kernel_rfl) (by kernel_rfl) (fun _ _ _ h => h) (Or.inl ⟨by kernel_rfl, ?_⟩) hHeld ?_
      rotate_left
      · intro w' hSw
        (try dsimp only at hSw)
        (try simp only [List.getElem_toArray]); (try simp only [List.getElem_cons_succ]); (try simp only [List.getElem_cons_zero])
        go_simp
        try with_reducible rfl
      (try simp only [Act.put]); (try simp only [List.getElem_toArray]); (try simp only [List.getElem_cons_succ]); (try simp only [List.getElem_cons_zero]); (try simp only [List.setIfInBounds_toArray]); (try simp only [List.set_cons_succ]); (try simp only [List.set_cons_zero])
      refine wpAnyH_take (i := 7) (v := ?_) rfl (by kernel_rfl) (by kernel_rfl) (by kernel_rfl) (fun _ _ _ h => h) (Or.inl ⟨by kernel_rfl, ?_⟩) hHeld ?_
      rotate_left
      · intro w' hSw
        (try dsimp only at hSw)
        (try simp only [List.getElem_toArray]); (try simp only [List.getElem_cons_succ]); (try simp only [List.getElem_cons_zero])
        go_simp
        try with_reducible rfl
      (try simp only [Act.put]); (try simp only [List.getElem_toArray]); (try simp only [List.getElem_cons_succ]); (try simp only [List.getElem_cons_zero]); (try simp only [List.setIfInBounds_toArray]); (try simp only [List.set_cons_succ]); (try simp only [List.set_cons_zero])
      refine wpAnyH_take (i := 8) (v := ?_) rfl (by kernel_rfl) (by kernel_rfl) (by kernel_rfl) (fun _ _ _ h => h) (Or.inl ⟨by kernel_rfl, ?_⟩) hHeld ?_
      rotate_left
      · intro w' hSw
        (try dsimp only at hSw)
        (try simp only [List.getElem_toArray]); (try simp only [List.getElem_cons_succ]); (try simp only [List.getElem_cons_zero])
        go_simp
        try with_reducible rfl
      (try simp only [Act.put]); (try simp only [List.getElem_toArray]); (try simp only [List.getElem_cons_succ]); (try simp only [List.getElem_cons_zero]); (try simp only [List.setIfInBounds_toArray]); (try simp only [List.set_cons_succ]); (try simp only [List.set_cons_zero])
      refine wpAnyH_take (i := 9) (v := ?_) rfl (by kernel_rfl) (by kernel_rfl) (by kernel_rfl) (fun _ _ _ h => h) (Or.inl ⟨by kernel_rfl, ?_⟩) hHeld ?_
      rotate_left
      · intro w' hSw
        (try dsimp only at hSw)
        (try simp only [List.getElem_toArray]); (try simp only [List.getElem_cons_succ]); (try simp only [List.getElem_cons_zero])
        go_simp
        try with_reducible rfl
      (try simp only [Act.put]); (try simp only [List.getElem_toArray]); (try simp only [List.getElem_cons_succ]); (try simp only [List.getElem_cons_zero]); (try simp only [List.setIfInBounds_toArray]); (try simp only [List.set_cons_succ]); (try simp only [List.set_cons_zero])
      refine wpAnyH_take (i := 11) (v := ?_) rfl (by kernel_rfl) (by kernel_rfl) (by kernel_rfl) (fun _ _ _ h => h) (Or.inl ⟨by kernel_rfl, ?_⟩) hHeld ?_
      rotate_left
      · intro w' hSw
        (try dsimp only at hSw)
        (try simp only [List.getElem_toArray]); (try simp only [List.getElem_cons_succ]); (try simp only [List.getElem_cons_zero])
        go_simp
        try with_reducible rfl
      (try simp only [Act.put]); (try simp only [List.getElem_toArray]); (try simp only [List.getElem_cons_succ]); (try simp only [List.getElem_cons_zero]); (try simp only [List.setIfInBounds_toArray]); (try simp only [List.set_cons_succ]); (try simp only [List.set_cons_zero])
      refine wpAnyH_take (i := 12) (v := ?_) rfl (by kernel_rfl) (by kernel_rfl) (by kernel_rfl) (fun _ _ _ h => h) (Or.inl ⟨by kernel_rfl, ?_⟩) hHeld ?_
      rotate_left
      · intro w' hSw
        (try dsimp only at hSw)
        (try simp only [List.getElem_toArray]); (try simp only [List.getElem_cons_succ]); (try simp only [List.getElem_cons_zero])
        go_simp
        try with_reducible rfl
      (try simp only [Act.put]); (try simp only [List.getElem_toArray]); (try simp only [List.getElem_cons_succ]); (try simp only [List.getElem_cons_zero]); (try simp only [List.setIfInBounds_toArray]); (try simp only [List.set_cons_succ]); (try simp only [List.set_cons_zero])
      have hlen := len_m O4 gm _ w7 M6 (by omega)
      refine wpAnyH_ready (rs := [10]) (by kernel_rfl) (by simp) ?_
      refine AllReadyH.cons rfl (fun K hK => ?_) AllReadyH.nil
      rw [if_pos (by kernel_rfl)]
      go_simp
      go_fit hlen
      clear hlen
      rintro e w8 ⟨rfl, k8⟩
      go_wp2_with fail
      refine hK.out _ _ (⟨(k8.cell (p := ⟨cx, 0, none⟩) hlx id).trans hHeld.1, (k8.cell (p := ⟨cx, 1, none⟩) hlx id).trans hHeld.2.1, (k8.cell (p := ⟨cx, 2, none⟩) hlx id).trans hHeld.2.2.1, (k8.cell (p := ⟨cq, 0, none⟩) hlq id).trans hHeld.2.2.2.1, (k8.cell (p := ⟨cq, 1, none⟩) hlq id).trans hHeld.2.2.2.2.1, (k8.cell (p := ⟨cq, 2, none⟩) hlq id).trans hHeld.2.2.2.2.2.1, (k8.cell (p := ⟨Wo.heap.size, 0, none⟩) hlp id).trans hHeld.2.2.2.2.2.2⟩) (fun hHeld => ?_)
      clear hK K
      (try simp only [Act.put]); (try simp only [List.getElem_toArray]); (try simp only [List.getElem_cons_succ]); (try simp only [List.getElem_cons_zero]); (try simp only [List.setIfInBounds_toArray]); (try simp only [List.set_cons_succ]); (try simp only [List.set_cons_zero])
      replace hlx := Nat.lt_of_lt_of_le hlx k8.size
      replace hlq := Nat.lt_of_lt_of_le hlq k8.size
      replace hlp := Nat.lt_of_lt_of_le hlp k8.size
      replace rowPd := rowPd.keep k8 id
      replace S6 := S6.nix k8
      replace M6 := M6.nix k8
      replace hGq6 := rGPair_lawful.nix hGq6 k8
      replace hfk6 := hfk6.keep k8 (fun _ _ h => h)
      replace kk6 := kk6.trans k8
      clear k8
      have hps := putS_c lm ⟨p0.fKey, val, p0.fVersion⟩ aA cA _ w8 S6 hGq6 hri.out (by omega)
      refine wpAnyH_ready (rs := [13]) (by kernel_rfl) (by simp) ?_
      refine AllReadyH.cons rfl (fun K hK => ?_) AllReadyH.nil
      rw [if_pos (by kernel_rfl)]
      go_simp
      go_fit hps
      clear hps
      rintro e w9 ⟨a9, c9, cs9, rfl, -, -, k9⟩
      go_wp2_with fail
      refine hK.out _ _ (⟨(k9.cell (p := ⟨cx, 0, none⟩) hlx id).trans hHeld.1, (k9.cell (p := ⟨cx, 1, none⟩) hlx id).trans hHeld.2.1, (k9.cell (p := ⟨cx, 2, none⟩) hlx id).trans hHeld.2.2.1, (k9.cell (p := ⟨cq, 0, none⟩) hlq id).trans hHeld.2.2.2.1, (k9.cell (p := ⟨cq, 1, none⟩) hlq id).trans hHeld.2.2.2.2.1, (k9.cell (p := ⟨cq, 2, none⟩) hlq id).trans hHeld.2.2.2.2.2.1, (k9.cell (p := ⟨Wo.heap.size, 0, none⟩) hlp id).trans hHeld.2.2.2.2.2.2⟩) (fun hHeld => ?_)
      clear hK K
      (try simp only [Act.put]); (try simp only [List.getElem_toArray]); (try simp only [List.getElem_cons_succ]); (try simp only [List.getElem_cons_zero]); (try simp only [List.setIfInBounds_toArray]); (try simp only [List.set_cons_succ]); (try simp only [List.set_cons_zero])
      replace hlx := Nat.lt_of_lt_of_le hlx k9.size
      replace hlq := Nat.lt_of_lt_of_le hlq k9.size
      replace hlp := Nat.lt_of_lt_of_le hlp k9.size
      replace rowPd := rowPd.keep k9 id
      replace S6 := S6.nix k9
      replace M6 := M6.nix k9
      replace hfk6 := hfk6.keep k9 (fun _ _ h => h)
      replace kk6 := kk6.trans k9
      clear k9 hGq6
      refine wpAnyH_take (i := 14) (v := ?_) rfl (by kernel_rfl) (by kernel_rfl) (by kernel_rfl) (fun _ _ _ h => h) (Or.inl ⟨by kernel_rfl, ?_⟩) hHeld ?_
      rotate_left
      · intro w' hSw
        (try dsimp only at hSw)
        (try simp only [List.getElem_toArray]); (try simp only [List.getElem_cons_succ]); (try simp only [List.getElem_cons_zero])
        go_simp
        try with_reducible rfl
      (try simp only [Act.put]); (try simp only [List.getElem_toArray]); (try simp only [List.getElem_cons_succ]); (try simp only [List.getElem_cons_zero]); (try simp only [List.setIfInBounds_toArray]); (try simp only [List.set_cons_succ]); (try simp only [List.set_cons_zero])
      refine wpAnyH_take (i := 15) (v := ?_) rfl (by kernel_rfl) (by kernel_rfl) (by kernel_rfl) (fun _ _ _ h => h) (Or.inl ⟨by kernel_rfl, ?_⟩) hHeld ?_
      rotate_left
      · intro w' hSw
        (try dsimp only at hSw)
        (try simp only [List.getElem_toArray]); (try simp only [List.getElem_cons_succ]); (try simp only [List.getElem_cons_zero])
        go_simp
        try with_reducible rfl
      (try simp only [Act.put]); (try simp only [List.getElem_toArray]); (try simp only [List.getElem_cons_succ]); (try simp only [List.getElem_cons_zero]); (try simp only [List.setIfInBounds_toArray]); (try simp only [List.set_cons_succ]); (try simp only [List.set_cons_zero])
      refine wpAnyH_take (i := 16) (v := ?_) rfl (by kernel_rfl) (by kernel_rfl) (by kernel_rfl) (fun _ _ _ h => h) (Or.inl ⟨by kernel_rfl, ?_⟩) hHeld ?_
      rotate_left
      · intro w' hSw
        (try dsimp only at hSw)
        (try simp only [List.getElem_toArray]); (try simp only [List.getElem_cons_succ]); (try simp only [List.getElem_cons_zero])
        go_simp
        try with_reducible rfl
      (try simp only [Act.put]); (try simp only [List.getElem_toArray]); (try simp only [List.getElem_cons_succ]); (try simp only [List.getElem_cons_zero]); (try simp only [List.setIfInBounds_toArray]); (try simp only [List.set_cons_succ]); (try simp only [List.set_cons_zero])
      refine wpAnyH_take (i := 17) (v := ?_) rfl (by kernel_rfl) (by kernel_rfl) (by kernel_rfl) (fun _ _ _ h => h) (Or.inl ⟨by kernel_rfl, ?_⟩) hHeld ?_
      rotate_left
      · intro w' hSw
        (try dsimp only at hSw)
        (try simp only [List.getElem_toArray]); (try simp only [List.getElem_cons_succ]); (try simp only [List.getElem_cons_zero])
        go_simp
        try with_reducible rfl
      (try simp only [Act.put]); (try simp only [List.getElem_toArray]); (try simp only [List.getElem_cons_succ]); (try simp only [List.getElem_cons_zero]); (try simp only [List.setIfInBounds_toArray]); (try simp only [List.set_cons_succ]); (try simp only [List.set_cons_zero])
      refine wpAnyH_take (i := 18) (v := ?_) rfl (by kernel_rfl) (by kernel_rfl) (by kernel_rfl) (fun _ _ _ h => h) (Or.inl ⟨by kernel_rfl, ?_⟩) hHeld ?_
      rotate_left
      · intro w' hSw
        (try dsimp only at hSw)
        (try simp only [List.getElem_toArray]); (try simp only [List.getElem_cons_succ]); (try simp only [List.getElem_cons_zero])
        go_simp
        try with_reducible rfl
      (try simp only [Act.put]); (try simp only [List.getElem_toArray]); (try simp only [List.getElem_cons_succ]); (try simp only [List.getElem_cons_zero]); (try simp only [List.setIfInBounds_toArray]); (try simp only [List.set_cons_succ]); (try simp only [List.set_cons_zero])
      refine wpAnyH_take (i := 19) (v := ?_) rfl (by kernel_rfl) (by kernel_rfl) (by kernel_rfl) (fun _ _ _ h => h) (Or.inl ⟨by kernel_rfl, ?_⟩) hHeld ?_
      rotate_left
      · intro w' hSw
        (try dsimp only at hSw)
        (try simp only [List.getElem_toArray]); (try simp only [List.getElem_cons_succ]); (try simp only [List.getElem_cons_zero])
        go_simp
        try with_reducible rfl
      (try simp only [Act.put]); (try simp only [List.getElem_toArray]); (try simp only [List.getElem_cons_succ]); (try simp only [List.getElem_cons_zero]); (try simp only [List.setIfInBounds_toArray]); (try simp only [List.set_cons_succ]); (try simp only [List.set_cons_zero])
      refine wpAnyH_take (i := 20) (v := ?_) rfl (by kernel_rfl) (by kernel_rfl) (by kernel_rfl) (fun _ _ _ h => h) (Or.inl ⟨by kernel_rfl, ?_⟩) hHeld ?_
      rotate_left
      · intro w' hSw
        (try dsimp only at hSw)
        (try simp only [List.getElem_toArray]); (try simp only [List.getElem_cons_succ]); (try simp only [List.getElem_cons_zero])
        go_simp
        try with_reducible rfl
      (try simp only [Act.put]); (try simp only [List.getElem_toArray]); (try simp only [List.getElem_cons_succ]); (try simp only [List.getElem_cons_zero]); (try simp only [List.setIfInBounds_toArray]); (try simp only [List.set_cons_succ]); (try simp only [List.set_cons_zero])
      have hH : hasK (putS lm ⟨p0.fKey, val, p0.fVersion⟩) p0.fKey = true := hasK_some (x := ⟨p0.fKey, val, p0.fVersion⟩) (mem_putS.2 (.inl rfl))
      have hCP : cutK (putS lm ⟨p0.fKey, val, p0.fVersion⟩) p0.fKey = cutK lm p0.fKey := cut_put hri.out ⟨p0.fKey, val, p0.fVersion⟩
      have hd1 := drop_m O4 gm _ p0.fKey eK fK w9 M6 (by omega) hfk6
      have hO4l := M6.lt
      rw [show DropM w9 O4 gm (putS lm ⟨p0.fKey, val, p0.fVersion⟩) p0.fKey = fun e w' => e = .returned (.bool true) ∧ ∃ O', IsMap w' O' gm (cutK lm p0.fKey) ∧ (∀ b, O' b → O4 b ∨ w9.heap.size ≤ b) ∧ Keep O4 w9 w' by unfold DropM; rw [hH, hCP]] at hd1
      clear hH hCP
      refine wpAnyH_ready (rs := [21]) (by kernel_rfl) (by simp) ?_
      refine AllReadyH.cons rfl (fun K hK => ?_) AllReadyH.nil
      rw [if_pos (by kernel_rfl)]
      go_simp
      go_fit hd1
      clear hd1
      rintro e w10 ⟨rfl, O10, M10, hO10, k10⟩
      have hx9 := hlx
      have hq9 := hlq
      have hw9 := kk6.size
      go_wp2_with fail
      refine hK.out _ _ (⟨(k10.cell (p := ⟨cx, 0, none⟩) hlx hcxO).trans hHeld.1, (k10.cell (p := ⟨cx, 1, none⟩) hlx hcxO).trans hHeld.2.1, (k10.cell (p := ⟨cx, 2, none⟩) hlx hcxO).trans hHeld.2.2.1, (k10.cell (p := ⟨cq, 0, none⟩) hlq hcqO4).trans hHeld.2.2.2.1, (k10.cell (p := ⟨cq, 1, none⟩) hlq hcqO4).trans hHeld.2.2.2.2.1, (k10.cell (p := ⟨cq, 2, none⟩) hlq hcqO4).trans hHeld.2.2.2.2.2.1, (k10.cell (p := ⟨Wo.heap.size, 0, none⟩) hlp hbxO4).trans hHeld.2.2.2.2.2.2⟩) (fun hHeld => ?_)
      clear hK K
      (try simp only [Act.put]); (try simp only [List.getElem_toArray]); (try simp only [List.getElem_cons_succ]); (try simp only [List.getElem_cons_zero]); (try simp only [List.setIfInBounds_toArray]); (try simp only [List.set_cons_succ]); (try simp only [List.set_cons_zero])
      replace hlx := Nat.lt_of_lt_of_le hlx k10.size
      replace hlq := Nat.lt_of_lt_of_le hlq k10.size
      replace hlp := Nat.lt_of_lt_of_le hlp k10.size
      replace rowPd := rowPd.keep k10 hbxO4
      replace S6 := S6.keep k10 hO10
      replace hfk6 := hfk6.keep k10 (fun b hb h => by have := hO4W b h; omega)
      replace kk6 := kk6.then k10 (fun i hi h => by have := hO4W i h; omega)
      have hO10W : ∀ b, O10 b → W.heap.size ≤ b := fun b hb => by
        rcases hO10 b hb with h | h
        · exact hO4W b h
        · have := kk6.size; omega
      have hbx10 : ¬ O10 Wo.heap.size := fun h => by have := hO10W _ h; omega
      have hcx10 : ¬ O10 cx := fun h => by
        rcases hO10 _ h with h | h
        · exact hcxO h
        · omega
      have hcq10 : ¬ O10 cq := fun h => by
        rcases hO10 _ h with h | h
        · exact hcqO4 h
        · omega
      clear k10 hO10 M6
      refine wpAnyH_take (i := 22) (v := ?_) rfl (by kernel_rfl) (by kernel_rfl) (by kernel_rfl) (fun _ _ _ h => h) (Or.inl ⟨by kernel_rfl, ?_⟩) hHeld ?_
      rotate_left
      · intro w' hSw
        (try dsimp only at hSw)
        (try simp only [List.getElem_toArray]); (try simp only [List.getElem_cons_succ]); (try simp only [List.getElem_cons_zero])
        go_simp
        try with_reducible rfl
      (try simp only [Act.put]); (try simp only [List.getElem_toArray]); (try simp only [List.getElem_cons_succ]); (try simp only [List.getElem_cons_zero]); (try simp only [List.setIfInBounds_toArray]); (try simp only [List.set_cons_succ]); (try simp only [List.set_cons_zero])
      refine wpAnyH_take (i := 23) (v := ?_) rfl (by kernel_rfl) (by kernel_rfl) (by kernel_rfl) (fun _ _ _ h => h) (Or.inl ⟨by kernel_rfl, ?_⟩) hHeld ?_
      rotate_left
      · intro w' hSw
        (try dsimp only at hSw)
        (try simp only [List.getElem_toArray]); (try simp only [List.getElem_cons_succ]); (try simp only [List.getElem_cons_zero])
        go_simp
        try with_reducible rfl
      (try simp only [Act.put]); (try simp only [List.getElem_toArray]); (try simp only [List.getElem_cons_succ]); (try simp only [List.getElem_cons_zero]); (try simp only [List.setIfInBounds_toArray]); (try simp only [List.set_cons_succ]); (try simp only [List.set_cons_zero])
      refine wpAnyH_take (i := 24) (v := ?_) rfl (by kernel_rfl) (by kernel_rfl) (by kernel_rfl) (fun _ _ _ h => h) (Or.inl ⟨by kernel_rfl, ?_⟩) hHeld ?_
      rotate_left
      · intro w' hSw
        (try dsimp only at hSw)
        (try simp only [List.getElem_toArray]); (try simp only [List.getElem_cons_succ]); (try simp only [List.getElem_cons_zero])
        go_simp
        try with_reducible rfl
      (try simp only [Act.put]); (try simp only [List.getElem_toArray]); (try simp only [List.getElem_cons_succ]); (try simp only [List.getElem_cons_zero]); (try simp only [List.setIfInBounds_toArray]); (try simp only [List.set_cons_succ]); (try simp only [List.set_cons_zero])
      refine wpAnyH_take (i := 25) (v := ?_) rfl (by kernel_rfl) (by kernel_rfl) (by kernel_rfl) (fun _ _ _ h => h) (Or.inl ⟨by kernel_rfl, ?_⟩) hHeld ?_
      rotate_left
      · intro w' hSw
        (try dsimp only at hSw)
        (try simp only [List.getElem_toArray]); (try simp only [List.getElem_cons_succ]); (try simp only [List.getElem_cons_zero])
        go_simp
        try with_reducible rfl
      (try simp only [Act.put]); (try simp only [List.getElem_toArray]); (try simp only [List.getElem_cons_succ]); (try simp only [List.getElem_cons_zero]); (try simp only [List.setIfInBounds_toArray]); (try simp only [List.set_cons_succ]); (try simp only [List.set_cons_zero])
      refine wpAnyH_take (i := 26) (v := ?_) rfl (by kernel_rfl) (by kernel_rfl) (by kernel_rfl) (fun _ _ _ h => h) (Or.inl ⟨by kernel_rfl, ?_⟩) hHeld ?_
      rotate_left
      · intro w' hSw
        (try dsimp only at hSw)
        (try simp only [List.getElem_toArray]); (try simp only [List.getElem_cons_succ]); (try simp only [List.getElem_cons_zero])
        go_simp
        try with_reducible rfl
      (try simp only [Act.put]); (try simp only [List.getElem_toArray]); (try simp only [List.getElem_cons_succ]); (try simp only [List.getElem_cons_zero]); (try simp only [List.setIfInBounds_toArray]); (try simp only [List.set_cons_succ]); (try simp only [List.set_cons_zero])
      refine wpAnyH_take (i := 27) (v := ?_) rfl (by kernel_rfl) (by kernel_rfl) (by kernel_rfl) (fun _ _ _ h => h) (Or.inl ⟨by kernel_rfl, ?_⟩) hHeld ?_
      rotate_left
      · intro w' hSw
        (try dsimp only at hSw)
        (try simp only [List.getElem_toArray]); (try simp only [List.getElem_cons_succ]); (try simp only [List.getElem_cons_zero])
        go_simp
        try with_reducible rfl
      (try simp only [Act.put]); (try simp only [List.getElem_toArray]); (try simp only [List.getElem_cons_succ]); (try simp only [List.getElem_cons_zero]); (try simp only [List.setIfInBounds_toArray]); (try simp only [List.set_cons_succ]); (try simp only [List.set_cons_zero])
      have hcl : (cutK lm p0.fKey).length ≤ lm.length := List.length_filter_le _ _
      have hd2 := drop_m O10 gm _ p0.fKey eK fK w10 M10 (by omega) hfk6
      obtain ⟨hN1, hN2⟩ := cut_no lm p0.fKey
      rw [show DropM w10 O10 gm (cutK lm p0.fKey) p0.fKey = fun e w' => e = .returned (.bool false) ∧ ∃ O', IsMap w' O' gm (cutK lm p0.fKey) ∧ (∀ b, O' b → O10 b ∨ w10.heap.size ≤ b) ∧ Keep O10 w10 w' by unfold DropM; rw [hN1, hN2]] at hd2
      clear hN1 hN2
      refine wpAnyH_ready (rs := [28]) (by kernel_rfl) (by simp) ?_
      refine AllReadyH.cons rfl (fun K hK => ?_) AllReadyH.nil
      rw [if_pos (by kernel_rfl)]
      go_simp
      go_fit hd2
      clear hd2
      rintro e w11 ⟨rfl, O11, M11, hO11, k11⟩
      go_wp2_with fail
      refine hK.out _ _ (⟨(k11.cell (p := ⟨cx, 0, none⟩) hlx hcx10).trans hHeld.1, (k11.cell (p := ⟨cx, 1, none⟩) hlx hcx10).trans hHeld.2.1, (k11.cell (p := ⟨cx, 2, none⟩) hlx hcx10).trans hHeld.2.2.1, (k11.cell (p := ⟨cq, 0, none⟩) hlq hcq10).trans hHeld.2.2.2.1, (k11.cell (p := ⟨cq, 1, none⟩) hlq hcq10).trans hHeld.2.2.2.2.1, (k11.cell (p := ⟨cq, 2, none⟩) hlq hcq10).trans hHeld.2.2.2.2.2.1, (k11.cell (p := ⟨Wo.heap.size, 0, none⟩) hlp hbx10).trans hHeld.2.2.2.2.2.2⟩) (fun hHeld => ?_)
      clear hK K
      (try simp only [Act.put]); (try simp only [List.getElem_toArray]); (try simp only [List.getElem_cons_succ]); (try simp only [List.getElem_cons_zero]); (try simp only [List.setIfInBounds_toArray]); (try simp only [List.set_cons_succ]); (try simp only [List.set_cons_zero])
      replace hlx := Nat.lt_of_lt_of_le hlx k11.size
      replace hlq := Nat.lt_of_lt_of_le hlq k11.size
      replace hlp := Nat.lt_of_lt_of_le hlp k11.size
      replace rowPd := rowPd.keep k11 hbx10
      replace S6 := S6.keep k11 hO11
      replace hfk6 := hfk6.keep k11 (fun b hb h => by have := hO10W b h; omega)
      replace kk6 := kk6.then k11 (fun i hi h => by have := hO10W i h; omega)
      clear k11 hO11 M10
      refine wpAnyH_take (i := 29) (v := ?_) rfl (by kernel_rfl) (by kernel_rfl) (by kernel_rfl) (fun _ _ _ h => h) (Or.inl ⟨by kernel_rfl, ?_⟩) hHeld ?_
      rotate_left
      · intro w' hSw
        (try dsimp only at hSw)
        (try simp only [List.getElem_toArray]); (try simp only [List.getElem_cons_succ]); (try simp only [List.getElem_cons_zero])
        go_simp
        try with_reducible rfl
      (try simp only [Act.put]); (try simp only [List.getElem_toArray]); (try simp only [List.getElem_cons_succ]); (try simp only [List.getElem_cons_zero]); (try simp only [List.setIfInBounds_toArray]); (try simp only [List.set_cons_succ]); (try simp only [List.set_cons_zero])
      refine wpAnyH_done (by kernel_rfl) ?_ _
      clear hHeld
      have z0 := rowPd.cell 0
      (try simp only [List.getElem?_cons_zero] at z0)
      have hcut := cut_c lm p0.fKey aA cA eK fK w11 S6 hfk6 (by omega)
      go_wp2_with fail
      go_fit hcut
      clear hcut
      rintro e w12 ⟨aC, cC, csC, rfl, ownC, elsC, k12⟩
      have S12 := SideL.of (O := O11) ownC elsC (by unfold far; omega) (fun b hb h => hb.2) (fun b hb => M11.lt b hb) k12.size
      have M12 := M11.nix k12
      have kk12 := kk6.trans k12
      have htold := told_c O11 gm (cutK lm p0.fKey) aC cC ⟨[], []⟩ [.slice none 0 0, .slice none 0 0] w12 M12 S12 (by omega) (span0 w12)
      clear z0 ownC elsC k12 rowPd S6 M11
      go_wp2_with fail
      go_fit htold
      rintro e w13 ⟨rfl, k13⟩
      go_wp2_with fail
      go_ret
      exact ⟨rfl, k0.trans (kk12.trans k13)⟩
namespace pagesTwice
theorem walk {m0 m1 m2 : Nat} (W : World) (v0 v1 v2 : Value) (h0 : Arg Try.prog W m0 22 v0) (h1 : Arg Try.prog W m1 29 v1) (h2 : Arg Try.prog W m2 27 v2) :
    Calls Try.prog 4 #[v0, v1, v2] W fun e w' => e = .returned (.bool true) ∧ Keep Nix W w' := by
  obtain ⟨a, n, cap, rfl, h3⟩ := h0.slice Try.underlying22
  obtain ⟨l, hl, -⟩ := h3.toList (R := rGPair) (sz := 3) (by' := 56) (fun x : GPair => x.size) Try.underlying22 (by kernel_rfl) (by kernel_rfl) (by decide) (by decide) (fun h => redGPair h)
  obtain ⟨rfl, -, -⟩ := rList_len hl
  obtain ⟨csp, rfl, k⟩ := h1.struct Try.underlying29
  obtain ⟨x, hx, -⟩ := redGPair k
  obtain ⟨a2, n2, cap2, rfl, h4⟩ := h2.slice Try.underlying27
  obtain ⟨t, ht, -⟩ := h4.toBytes Try.underlying27 Try.underlying5 (by kernel_rfl) (by kernel_rfl)
  obtain ⟨_, _, e, ht1, ht2, ht3⟩ := ht
  simp only [List.cons.injEq, Value.slice.injEq, and_true] at e
  obtain ⟨rfl, rfl, rfl⟩ := e
  exact twice_walk W a a2 cap cap2 l x csp t hl hx ht1 ht2 ht3
end pagesTwice
end Go.Proofs.Ythkocgpbpgfocaa
