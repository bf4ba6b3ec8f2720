/- THE LAW PagesPlay, walked. Printed by mac.py. -/
import Derived.Test.YthkocgpbpgfocaaPgQ0
namespace Go.Proofs.Ythkocgpbpgfocaa
open Go.RowKit

theorem at_op {w : World} {p : Nat → Prop} {a : Option Addr} {n c : Nat} {l : List GOp} (h : rList rGOp w p [.slice a n c] l) (k : Nat) (hk : k < l.length) :
    ∃ b o cx, a = some ⟨b, o, none⟩ ∧ b < w.heap.size ∧ rGOp w p cx l[k] ∧ ∀ (j : Nat) (u : Value), cx[j]? = some u → w.cell? ⟨b, o + k * 6 + j, none⟩ = some u := by
  obtain ⟨b, o, _, cx, e1, hp, hb, rx, hcx⟩ := rList_at rGOp_lawful (by decide) h k hk
  simp only [List.cons.injEq, Value.slice.injEq, and_true] at e1
  obtain ⟨rfl, -, -⟩ := e1
  exact ⟨b, o, cx, rfl, hb, rx, hcx⟩
/-- What the loop carries. -/
structure Play (W : World) (wr : World) (O : Nat → Prop) (gm : Nat) (lm : List GPair) (aA : Option Addr) (cA : Nat) : Prop where
  map : IsMap wr O gm lm
  side : SideL wr O aA cA lm
  far : ∀ b, O b → W.heap.size ≤ b
  kk : Keep Nix W wr
theorem Play.more {W wr w2 : World} {gm : Nat} {O O2 : Nat → Prop} {lm lm2 : List GPair} {aA : Option Addr} {cA : Nat} (F : Play W wr O gm lm aA cA) (M2 : IsMap w2 O2 gm lm2) (hO : ∀ b, O2 b → O b ∨ wr.heap.size ≤ b) (k : Keep O wr w2) :
    SideL w2 O2 aA cA lm ∧ (∀ b, O2 b → W.heap.size ≤ b) ∧ Keep Nix W w2 :=
  ⟨F.side.keep k hO, fun b hb => by
    rcases hO b hb with h | h
    · exact F.far b h
    · have := F.kk.size; have := M2.lt b hb; omega, F.kk.then k (fun i hi h => by have := F.far i h; omega)⟩
theorem Play.nix {W wr w2 : World} {gm : Nat} {O : Nat → Prop} {lm : List GPair} {aA : Option Addr} {cA : Nat} (F : Play W wr O gm lm aA cA) (k : Keep Nix wr w2) : Play W w2 O gm lm aA cA :=
  ⟨F.map.nix k, F.side.nix k, F.far, F.kk.trans k⟩
set_option maxRecDepth 100000 in
set_option maxHeartbeats 8000000 in
theorem play_walk (Wo : World) (a0 : Option Addr) (cap : Nat) (l : List GOp) (s : GSpan) (csS : List Value) (hl : rList rGOp Wo (· < Wo.heap.size) [.slice a0 l.length cap] l) (hs : rGSpan Wo (· < Wo.heap.size) csS s) :
    Calls Try.prog 7 #[.slice a0 l.length cap, .agg csS.toArray] Wo fun e w' => e = .returned (.bool true) ∧ Keep Nix Wo w' := by
  have hs2 := hs
  obtain ⟨sF, dF, sT, dT, rfl, -⟩ := rGSpan_open hs
  have k0 : Keep Nix Wo (Wo.alloc (.cells #[.slice sF s.fFrom.length dF, .slice sT s.fTo.length dT] 37)) := (Keep.refl Nix Wo).alloc _
  have rowS := RowIs.alloc Wo #[.slice sF s.fFrom.length dF, .slice sT s.fTo.length dT] 37
  have hW0 : Hid ((Wo.alloc (.cells #[.slice sF s.fFrom.length dF, .slice sT s.fTo.length dT] 37)).heap.size = Wo.heap.size + 1) := by show _ = _; simp
  have HL0 := Lib.hid hl
  have HS0 := Lib.hid hs2
  have hfar := (rList_len hl).2.2
  unfold far at hfar
  clear hl hs hs2
  go_enter Try.func7, Try.ntmps7
  go_upto_region 1 with fail
  generalize Wo.alloc (.cells #[.slice sF s.fFrom.length dF, .slice sT s.fTo.length dT] 37) = W at *
  have HL : Hid (rList rGOp W (· < Wo.heap.size) [.slice a0 l.length cap] l) := (rList_lawful rGOp_lawful).nix HL0.out k0
  have HS : Hid (rGSpan W (· < Wo.heap.size) [.slice sF s.fFrom.length dF, .slice sT s.fTo.length dT] s) := rGSpan_lawful.nix HS0.out k0
  clear HL0 HS0
  go_wp2_with fail
  go_fit (new_m W)
  rintro e w1 ⟨rfl, MM, k1⟩
  go_wp2_with fail
  go_fit (awake_c w1)
  rintro e w2 ⟨rfl, k2⟩
  have HST := Lib.hid (Play.mk (MM.nix k2) (SideL.nil _ _) (fun b hb => Nat.le_of_eq hb.symm) (k1.trans k2) : Play W w2 (· = W.heap.size) W.heap.size [] none 0)
  clear MM k1 k2
  go_wp2_with fail
  generalize W.heap.size = g00 at HST ⊢
  go_loopw [5, 6, 7] (fun t u v wr => ∃ (i : Nat) (gm : Nat) (O : Nat → Prop) (lm : List GPair) (aA : Option Addr) (cA : Nat), i ≤ l.length ∧ i ≤ 120 ∧ t = .pointer (some ⟨gm, 0, none⟩) ∧ u = .slice aA lm.length cA ∧ v = .int .i64 i ∧ Hid (Play W wr O gm lm aA cA) ∧ lm.length ≤ i) (fun _ _ v _ => l.length - (intOf v).toNat)
  case atStart => exact ⟨0, _, _, _, _, _, by omega, by omega, rfl, rfl, rfl, HST.out, by simp⟩
  case round =>
    clear HST
    obtain ⟨i, gm, O, lm, aA, cA, hi, hi120, rfl, rfl, rfl, F, hlm⟩ := hrel
    have hi0 : (0 : Int) ≤ (i : Int) := by omega
    by_cases hlt : i < l.length
    · have hi1 : (i : Int) < (l.length : Int) := by omega
      by_cases h120 : i < 120
      · have hi2 : (i : Int) < 120 := by omega
        obtain ⟨b, o, cx, rfl, hbw, rz, hcx⟩ := at_op HL.out i hlt
        obtain ⟨z, hz⟩ : ∃ z, l[i] = z := ⟨_, rfl⟩
        rw [hz] at rz
        have kk := F.out.kk
        have rz2 := rGOp_lawful.nix rz kk
        obtain ⟨oK, pK, oV, pV, oF, pF, oT, pT, rfl, hzk, rzp, rzs, -⟩ := rGOp_open rz
        have c0 := (kk.cell (p := ⟨b, o + i * 6, none⟩) hbw id).trans (hcx 0 _ rfl)
        have c1 := (kk.cell (p := ⟨b, o + i * 6 + 1, none⟩) hbw id).trans (hcx 1 _ rfl)
        have c2 := (kk.cell (p := ⟨b, o + i * 6 + 2, none⟩) hbw id).trans (hcx 2 _ rfl)
        have c3 := (kk.cell (p := ⟨b, o + i * 6 + 3, none⟩) hbw id).trans (hcx 3 _ rfl)
        have c4 := (kk.cell (p := ⟨b, o + i * 6 + 4, none⟩) hbw id).trans (hcx 4 _ rfl)
        have c5 := (kk.cell (p := ⟨b, o + i * 6 + 5, none⟩) hbw id).trans (hcx 5 _ rfl)
        have HZW := Lib.hid rzp
        have HZS := Lib.hid rzs
        clear hcx rz rz2 rzp rzs hz kk
        have HKW : Hid (Lies W (· < Wo.heap.size) oK (z.fP.fKey.map bv)) := by
          obtain ⟨_, _, _, _, e, h, -⟩ := rGPair_open HZW.out
          simp only [List.cons.injEq, Value.slice.injEq, and_true, true_and] at e
          obtain ⟨⟨rfl, rfl⟩, -⟩ := e
          exact h.1
        have kO : Keep Nix wr (wr.alloc (.cells #[.int .i64 z.fKind, .slice oK z.fP.fKey.length pK, .slice oV z.fP.fValue.length pV, .int .i64 z.fP.fVersion, .slice oF z.fS.fFrom.length pF, .slice oT z.fS.fTo.length pT] 55)) := (Keep.refl Nix wr).alloc _
        have rowO := RowIs.alloc wr #[.int .i64 z.fKind, .slice oK z.fP.fKey.length pK, .slice oV z.fP.fValue.length pV, .int .i64 z.fP.fVersion, .slice oF z.fS.fFrom.length pF, .slice oT z.fS.fTo.length pT] 55
        have F1 := F.out.nix kO
        have hOlt := F.out.map.lt
        have rowSw := rowS.keep F1.kk id
        have hWo := hW0.out
        go_upto_region 9 with fail
        obtain ⟨co, hco⟩ : ∃ co, wr.heap.size = co := ⟨_, rfl⟩
        rw [hco] at rowO hOlt ⊢
        clear hco c0 c1 c2 c3 c4 c5 F kO
        generalize wr.alloc (.cells #[.int .i64 z.fKind, .slice oK z.fP.fKey.length pK, .slice oV z.fP.fValue.length pV, .int .i64 z.fP.fVersion, .slice oF z.fS.fFrom.length pF, .slice oT z.fS.fTo.length pT] 55) = wo at *
        have hcoO : ¬ O co := fun h => by have := hOlt _ h; omega
        have hSO : ¬ O Wo.heap.size := fun h => by have := F1.far _ h; omega
        have q0 := rowO.cell 0
        (try simp only [List.getElem?_cons_zero] at q0)
        have HF1 := Lib.hid F1
        clear F1
        have HKL : Hid (∀ w' : World, Keep Nix W w' → Lies w' (· < Wo.heap.size) oK (z.fP.fKey.map bv)) := fun w' k => HKW.out.keep k (fun _ _ h => h)
        by_cases e1 : z.fKind = 1
        · rw [e1] at q0
          have q1 := rowO.cell 1
          (try simp only [List.getElem?_cons_succ] at q1); (try simp only [List.getElem?_cons_zero] at q1)
          obtain ⟨x9, HX9⟩ : ∃ x, Hid (findF lm z.fP.fKey = x) := ⟨_, rfl⟩
          obtain ⟨hb9, HB9⟩ : ∃ v, Hid (hasK lm z.fP.fKey = v) := ⟨_, rfl⟩
          have hfs := find_s lm z.fP.fKey aA cA oK pK wo HF1.out.side (HKL.out _ HF1.out.kk) (by omega)
          go_upto_region 19 with fail
          go_wp2_with fail
          go_fit hfs
          clear hfs
          rintro e wa ⟨cx, rfl, hx, ka⟩
          rw [HX9.out] at hx
          rw [HB9.out]
          obtain ⟨b1, d1, b2, d2, rfl, -⟩ := rGPair_open hx
          have kX : Keep Nix wa (wa.alloc (.cells #[.slice b1 x9.fKey.length d1, .slice b2 x9.fValue.length d2, .int .i64 x9.fVersion] 29)) := (Keep.refl Nix wa).alloc _
          have FX := HF1.out.nix (ka.trans kX)
          have rowOx := (rowO.keep ka id).keep kX id
          have rowSx := (rowSw.keep ka id).keep kX id
          clear hx q0 q1 rowO rowSw HF1 ka kX
          go_upto_region 20 with fail
          generalize wa.alloc (.cells #[.slice b1 x9.fKey.length d1, .slice b2 x9.fValue.length d2, .int .i64 x9.fVersion] 29) = wx at *
          generalize wa.heap.size = gx at *
          have q1 := rowOx.cell 1
          (try simp only [List.getElem?_cons_succ] at q1); (try simp only [List.getElem?_cons_zero] at q1)
          have hne : (hb9 != hb9) = false := by cases hb9 <;> rfl
          have hdr := drop_m O gm lm z.fP.fKey oK pK wx FX.map (by omega) (HKL.out _ FX.kk)
          have HFX := Lib.hid FX
          clear FX
          go_wp2_with fail
          go_fit hdr
          clear hdr
          rintro e wd ⟨rfl, O2, M2, hO2, k2⟩
          rw [HB9.out]
          obtain ⟨S2, far2, kk2⟩ := HFX.out.more M2 hO2 k2
          have rowOd := rowOx.keep k2 hcoO
          have rowSd := rowSx.keep k2 hSO
          clear q1 rowOx rowSx k2
          have q1 := rowOd.cell 1
          (try simp only [List.getElem?_cons_succ] at q1); (try simp only [List.getElem?_cons_zero] at q1)
          have hcut := cut_c lm z.fP.fKey aA cA oK pK wd S2 (HKL.out _ kk2) (by omega)
          have HM2 := Lib.hid M2
          have hlT : (cutK lm z.fP.fKey).length ≤ i := Nat.le_trans (List.length_filter_le _ _) hlm
          clear M2 S2
          go_wp2_with fail
          go_fit hcut
          clear hcut
          rintro e we ⟨a3, c3, css, rfl, own, els, k3⟩
          have S3 := SideL.of (O := O2) own els (by unfold far; omega) (fun b hb h => hb.2) (fun b hb => HM2.out.lt b hb) k3.size
          have FT : Hid (Play W we O2 gm (cutK lm z.fP.fKey) a3 c3) := Play.mk (HM2.out.nix k3) S3 far2 (kk2.trans k3)
          have rowO := rowOd.keep k3 id
          have rowS := rowSd.keep k3 id
          clear own els S3 far2 kk2 k3 HM2 rowOd rowSd q1 hne HX9 HB9 HFX hO2 hcoO hSO hOlt
          have FTT := FT.out
          have hkT := HKW.out.keep FTT.kk (fun _ _ h => h)
          have q1 := rowO.cell 1
          (try simp only [List.getElem?_cons_succ] at q1); (try simp only [List.getElem?_cons_zero] at q1)
          obtain ⟨x, HXF⟩ : ∃ x, Hid (findF (cutK lm z.fP.fKey) z.fP.fKey = x) := ⟨_, rfl⟩
          obtain ⟨hb, HHB⟩ : ∃ v, Hid (hasK (cutK lm z.fP.fKey) z.fP.fKey = v) := ⟨_, rfl⟩
          have hget := get_m O2 gm (cutK lm z.fP.fKey) z.fP.fKey oK pK we FTT.map (by omega) hkT
          clear FTT
          go_upto_region 37 with fail
          go_wp2_with fail
          go_fit hget
          clear hget
          rintro e wa ⟨cx, Rx, rfl, hx, ka⟩
          rw [HXF.out] at hx
          rw [HHB.out]
          obtain ⟨b1, d1, b2, d2, rfl, -⟩ := rGPair_open hx
          have kX : Keep Nix wa (wa.alloc (.cells #[.slice b1 x.fKey.length d1, .slice b2 x.fValue.length d2, .int .i64 x.fVersion] 29)) := (Keep.refl Nix wa).alloc _
          have rowX := RowIs.alloc wa #[.slice b1 x.fKey.length d1, .slice b2 x.fValue.length d2, .int .i64 x.fVersion] 29
          have FT1 := FT.out.nix (ka.trans kX)
          have rowO1 := (rowO.keep ka id).keep kX id
          have rowS1 := (rowS.keep ka id).keep kX id
          have hx1 := rGPair_lawful.nix hx kX
          clear q1 rowO rowS hx ka kX hkT FT
          go_upto_region 38 with fail
          generalize wa.alloc (.cells #[.slice b1 x.fKey.length d1, .slice b2 x.fValue.length d2, .int .i64 x.fVersion] 29) = wx at *
          generalize wa.heap.size = gx at *
          have q1 := rowO1.cell 1
          (try simp only [List.getElem?_cons_succ] at q1); (try simp only [List.getElem?_cons_zero] at q1)
          have hfs := find_s (cutK lm z.fP.fKey) z.fP.fKey a3 c3 oK pK wx FT1.side (HKW.out.keep FT1.kk (fun _ _ h => h)) (by omega)
          have HFT := Lib.hid FT1
          clear FT1
          go_wp2_with fail
          go_fit hfs
          clear hfs
          rintro e wb ⟨cy, rfl, hy, kb⟩
          rw [HXF.out] at hy
          rw [HHB.out]
          obtain ⟨f1, h1, f2, h2, rfl, -⟩ := rGPair_open hy
          have kY : Keep Nix wb (wb.alloc (.cells #[.slice f1 x.fKey.length h1, .slice f2 x.fValue.length h2, .int .i64 x.fVersion] 29)) := (Keep.refl Nix wb).alloc _
          have rowY := RowIs.alloc wb #[.slice f1 x.fKey.length h1, .slice f2 x.fValue.length h2, .int .i64 x.fVersion] 29
          have FT2 := HFT.out.nix (kb.trans kY)
          have rowS2 := (rowS1.keep kb id).keep kY id
          have rowX2 := (rowX.keep kb id).keep kY id
          have hx2 := rGPair_lawful.nix hx1 (kb.trans kY)
          have hy2 := rGPair_lawful.nix hy kY
          clear q1 rowO1 rowS1 rowX hx1 hy kb kY HFT
          go_upto_region 39 with fail
          generalize wb.alloc (.cells #[.slice f1 x.fKey.length h1, .slice f2 x.fValue.length h2, .int .i64 x.fVersion] 29) = wy at *
          generalize wb.heap.size = gy at *
          have hne : (hb != hb) = false := by cases hb <;> rfl
          have x0 := rowX2.cell 0
          (try simp only [List.getElem?_cons_zero] at x0)
          have x1 := rowX2.cell 1
          (try simp only [List.getElem?_cons_succ] at x1); (try simp only [List.getElem?_cons_zero] at x1)
          have x2 := rowX2.cell 2
          (try simp only [List.getElem?_cons_succ] at x2); (try simp only [List.getElem?_cons_zero] at x2)
          have y0 := rowY.cell 0
          (try simp only [List.getElem?_cons_zero] at y0)
          have y1 := rowY.cell 1
          (try simp only [List.getElem?_cons_succ] at y1); (try simp only [List.getElem?_cons_zero] at y1)
          have y2 := rowY.cell 2
          (try simp only [List.getElem?_cons_succ] at y2); (try simp only [List.getElem?_cons_zero] at y2)
          have hsp := sPair_c wy x _ _ hx2 hy2
          have HFT2 := Lib.hid FT2
          clear hx2 hy2 rowX2 rowY FT2
          go_wp2_with fail
          go_fit hsp
          clear hsp x0 x1 x2 y0 y1 y2
          rintro e wz ⟨rfl, kz⟩
          have FT3 := HFT2.out.nix kz
          have rowS3 := rowS2.keep kz id
          have u0 := rowS3.cell 0
          (try simp only [List.getElem?_cons_zero] at u0)
          have u1 := rowS3.cell 1
          (try simp only [List.getElem?_cons_succ] at u1); (try simp only [List.getElem?_cons_zero] at u1)
          have htold := told_c O2 gm (cutK lm z.fP.fKey) a3 c3 s [.slice sF s.fFrom.length dF, .slice sT s.fTo.length dT] wz FT3.map FT3.side (by omega) (rGSpan_lawful.nix HS.out FT3.kk)
          have HFT3 := Lib.hid FT3
          clear FT3 rowS2 rowS3 kz HFT2
          go_wp2_with fail
          go_fit htold
          clear htold u0 u1
          rintro e wu ⟨rfl, ku⟩
          have HFT4 := Lib.hid (HFT3.out.nix ku)
          clear HFT3 ku
          go_wp2_with fail
          go_roundw
          case rel => exact ⟨i + 1, gm, O2, (cutK lm z.fP.fKey), a3, c3, by omega, by omega, rfl, rfl, by go_num, HFT4, by omega⟩
          case measure => simp [intOf]; omega
        have e1b : (z.fKind == 1) = false := by simp only [beq_eq_false_iff_ne]; exact e1
        by_cases e2 : z.fKind = 2
        · have e21 : ((2 : Int) == 1) = false := by decide
          rw [e2] at q0
          have q4 := rowO.cell 4
          (try simp only [List.getElem?_cons_succ] at q4); (try simp only [List.getElem?_cons_zero] at q4)
          have q5 := rowO.cell 5
          (try simp only [List.getElem?_cons_succ] at q5); (try simp only [List.getElem?_cons_zero] at q5)
          have hpt := part_c lm z.fS [.slice oF z.fS.fFrom.length pF, .slice oT z.fS.fTo.length pT] aA cA wo HF1.out.side (rGSpan_lawful.nix HZS.out HF1.out.kk) (by omega)
          obtain ⟨ys, HYS⟩ : ∃ y, Hid (partF z.fS lm = y) := ⟨_, rfl⟩
          have hyl : ys.length ≤ lm.length := by rw [← HYS.out]; exact List.length_filter_le _ _
          rw [HYS.out] at hpt
          go_upto_region 24 with fail
          go_wp2_with fail
          go_fit hpt
          clear hpt q0 e1b
          rintro e wa ⟨aP, cP, csP, rfl, own, els, ka⟩
          have SP := SideL.of (O := O) own els (by unfold far; omega) (fun b hb h => hb.2) (fun b hb => HF1.out.map.lt b hb) ka.size
          have FA := HF1.out.nix ka
          have rowOa := rowO.keep ka id
          have rowSa := rowSw.keep ka id
          clear q4 q5 own els ka rowO rowSw
          have q4 := rowOa.cell 4
          (try simp only [List.getElem?_cons_succ] at q4); (try simp only [List.getElem?_cons_zero] at q4)
          have q5 := rowOa.cell 5
          (try simp only [List.getElem?_cons_succ] at q5); (try simp only [List.getElem?_cons_zero] at q5)
          have htk := take_m O gm lm z.fS [.slice oF z.fS.fFrom.length pF, .slice oT z.fS.fTo.length pT] wa FA.map (by omega) (rGSpan_lawful.nix HZS.out FA.kk)
          have HFA := Lib.hid FA
          clear FA
          go_wp2_with fail
          go_fit htk
          clear htk
          rintro e wb ⟨a4, c4, O4, R4, rfl, M4, L4, hR4, hO4, k4⟩
          rw [HYS.out] at L4 ⊢
          obtain ⟨S4, far4, kk4⟩ := HFA.out.more M4 hO4 k4
          have SP4 := SP.keep k4 hO4
          have rowOb := rowOa.keep k4 hcoO
          have rowSb := rowSa.keep k4 hSO
          have hco4 : ¬ O4 co := fun h => by
            rcases hO4 _ h with h | h
            · exact hcoO h
            · have := rowOa.lt; omega
          have hS4 : ¬ O4 Wo.heap.size := fun h => by have := far4 _ h; omega
          have hsm := sm_Pair wb ys a4 aP ys.length c4 ys.length cP L4 SP4
          have HM4 := Lib.hid M4
          clear q4 q5 rowOa rowSa SP L4 hR4 M4 k4 hO4
          go_wp2_with fail
          go_fit hsm
          clear hsm
          rintro e wc ⟨rfl, kc⟩
          have MC := HM4.out.nix kc
          have SC := S4.nix kc
          have SPC := Lib.hid (SP4.nix kc)
          have kkc := kk4.trans kc
          have rowOc := rowOb.keep kc id
          have rowSc := rowSb.keep kc id
          have HMC := Lib.hid MC
          clear S4 SP4 kk4 kc rowOb rowSb HM4 MC
          go_wp2_with fail
          go_loopw [6, 12] (fun u v wx => ∃ (k : Nat) (ax : Option Addr) (cx : Nat), k ≤ ys.length ∧ u = .slice ax (minusK lm (ys.take k)).length cx ∧ v = .int .i64 k ∧ SideL wx O4 ax cx (minusK lm (ys.take k)) ∧ Keep Nix wc wx) (fun _ v _ => ys.length - (intOf v).toNat)
          case atStart => exact ⟨0, aA, cA, by omega, by rw [List.take_zero, minusK_nil], rfl, by rw [List.take_zero, minusK_nil]; exact SC, Keep.refl _ _⟩
          case round =>
            clear SC
            obtain ⟨k, ax, cx, hk, rfl, rfl, SX, kx⟩ := hrel
            by_cases hkt : k < ys.length
            · have hk0 : (0 : Int) ≤ (k : Int) := by omega
              have hk1 : (k : Int) < (ys.length : Int) := by omega
              obtain ⟨bp, op, yK, dK, _, _, rfl, hbp, -, ry, y0, -, -⟩ := at_pair (SPC.out.nix kx) k hkt
              have HTK : Hid (ys.take (k + 1) = ys.take k ++ [ys[k]]) := List.take_succ_eq_append_getElem hkt
              have hKy : Lies wr (fun b => b < wr.heap.size ∧ ¬ O4 b) yK ((ys[k]).fKey.map bv) := by
                obtain ⟨_, _, _, _, e, h, -⟩ := rGPair_open ry
                simp only [List.cons.injEq, Value.slice.injEq, and_true, true_and] at e
                obtain ⟨⟨rfl, rfl⟩, -⟩ := e
                exact h.1
              generalize ys[k] = y at *
              have hml := minusK_len lm (ys.take k)
              have hcu := cut_c (minusK lm (ys.take k)) y.fKey ax cx yK dK wr SX hKy (by omega)
              have hsn : Hid (minusK lm (ys.take (k + 1)) = cutK (minusK lm (ys.take k)) y.fKey) := by show _ = _; rw [HTK.out, minusK_snoc]
              have hcl : (cutK (minusK lm (ys.take k)) y.fKey).length ≤ (minusK lm (ys.take k)).length := List.length_filter_le _ _
              clear ry hKy SX
              generalize minusK lm (ys.take k) = lk at *
              go_wp2_with fail
              go_fit hcu
              clear hcu y0
              rintro e wy ⟨a3, c3, css, rfl, own, els, k3⟩
              have hM4l := HMC.out.lt
              have S3 := SideL.of (O := O4) own els (by unfold far; omega) (fun b hb h => hb.2) (fun b hb => by have := hM4l b hb; have := kx.size; omega) k3.size
              have kx3 := kx.trans k3
              clear own els k3
              go_wp2_with fail
              go_roundw
              case rel => exact ⟨k + 1, a3, c3, by omega, by rw [hsn.out], by go_num, by rw [hsn.out]; exact S3, kx3⟩
              case measure => simp [intOf]; omega
            · obtain rfl : k = ys.length := by omega
              have hend : minusK lm (ys.take ys.length) = restF z.fS lm := by rw [List.take_length, ← HYS.out, minusK_part]
              rw [hend] at SX ⊢
              have hlT : (restF z.fS lm).length ≤ i := Nat.le_trans (List.length_filter_le _ _) hlm
              have FT : Hid (Play W wr O4 gm (restF z.fS lm) ax cx) := Play.mk (HMC.out.nix kx) SX far4 (kkc.trans kx)
              have rowO := rowOc.keep kx id
              have rowS := rowSc.keep kx id
              clear hend SX kx SPC HMC rowOc rowSc HYS far4 kkc HFA hco4 hS4 hcoO hSO hOlt HF1
              have FTT := FT.out
              have hkT := HKW.out.keep FTT.kk (fun _ _ h => h)
              have q1 := rowO.cell 1
              (try simp only [List.getElem?_cons_succ] at q1); (try simp only [List.getElem?_cons_zero] at q1)
              obtain ⟨x, HXF⟩ : ∃ x, Hid (findF (restF z.fS lm) z.fP.fKey = x) := ⟨_, rfl⟩
              obtain ⟨hb, HHB⟩ : ∃ v, Hid (hasK (restF z.fS lm) z.fP.fKey = v) := ⟨_, rfl⟩
              have hget := get_m O4 gm (restF z.fS lm) z.fP.fKey oK pK wr FTT.map (by omega) hkT
              clear FTT
              go_upto_region 37 with fail
              go_wp2_with fail
              go_fit hget
              clear hget
              rintro e wa ⟨cx, Rx, rfl, hx, ka⟩
              rw [HXF.out] at hx
              rw [HHB.out]
              obtain ⟨b1, d1, b2, d2, rfl, -⟩ := rGPair_open hx
              have kX : Keep Nix wa (wa.alloc (.cells #[.slice b1 x.fKey.length d1, .slice b2 x.fValue.length d2, .int .i64 x.fVersion] 29)) := (Keep.refl Nix wa).alloc _
              have rowX := RowIs.alloc wa #[.slice b1 x.fKey.length d1, .slice b2 x.fValue.length d2, .int .i64 x.fVersion] 29
              have FT1 := FT.out.nix (ka.trans kX)
              have rowO1 := (rowO.keep ka id).keep kX id
              have rowS1 := (rowS.keep ka id).keep kX id
              have hx1 := rGPair_lawful.nix hx kX
              clear q1 rowO rowS hx ka kX hkT FT
              go_upto_region 38 with fail
              generalize wa.alloc (.cells #[.slice b1 x.fKey.length d1, .slice b2 x.fValue.length d2, .int .i64 x.fVersion] 29) = wx at *
              generalize wa.heap.size = gx at *
              have q1 := rowO1.cell 1
              (try simp only [List.getElem?_cons_succ] at q1); (try simp only [List.getElem?_cons_zero] at q1)
              have hfs := find_s (restF z.fS lm) z.fP.fKey ax cx oK pK wx FT1.side (HKW.out.keep FT1.kk (fun _ _ h => h)) (by omega)
              have HFT := Lib.hid FT1
              clear FT1
              go_wp2_with fail
              go_fit hfs
              clear hfs
              rintro e wb ⟨cy, rfl, hy, kb⟩
              rw [HXF.out] at hy
              rw [HHB.out]
              obtain ⟨f1, h1, f2, h2, rfl, -⟩ := rGPair_open hy
              have kY : Keep Nix wb (wb.alloc (.cells #[.slice f1 x.fKey.length h1, .slice f2 x.fValue.length h2, .int .i64 x.fVersion] 29)) := (Keep.refl Nix wb).alloc _
              have rowY := RowIs.alloc wb #[.slice f1 x.fKey.length h1, .slice f2 x.fValue.length h2, .int .i64 x.fVersion] 29
              have FT2 := HFT.out.nix (kb.trans kY)
              have rowS2 := (rowS1.keep kb id).keep kY id
              have rowX2 := (rowX.keep kb id).keep kY id
              have hx2 := rGPair_lawful.nix hx1 (kb.trans kY)
              have hy2 := rGPair_lawful.nix hy kY
              clear q1 rowO1 rowS1 rowX hx1 hy kb kY HFT
              go_upto_region 39 with fail
              generalize wb.alloc (.cells #[.slice f1 x.fKey.length h1, .slice f2 x.fValue.length h2, .int .i64 x.fVersion] 29) = wy at *
              generalize wb.heap.size = gy at *
              have hne : (hb != hb) = false := by cases hb <;> rfl
              have x0 := rowX2.cell 0
              (try simp only [List.getElem?_cons_zero] at x0)
              have x1 := rowX2.cell 1
              (try simp only [List.getElem?_cons_succ] at x1); (try simp only [List.getElem?_cons_zero] at x1)
              have x2 := rowX2.cell 2
              (try simp only [List.getElem?_cons_succ] at x2); (try simp only [List.getElem?_cons_zero] at x2)
              have y0 := rowY.cell 0
              (try simp only [List.getElem?_cons_zero] at y0)
              have y1 := rowY.cell 1
              (try simp only [List.getElem?_cons_succ] at y1); (try simp only [List.getElem?_cons_zero] at y1)
              have y2 := rowY.cell 2
              (try simp only [List.getElem?_cons_succ] at y2); (try simp only [List.getElem?_cons_zero] at y2)
              have hsp := sPair_c wy x _ _ hx2 hy2
              have HFT2 := Lib.hid FT2
              clear hx2 hy2 rowX2 rowY FT2
              go_wp2_with fail
              go_fit hsp
              clear hsp x0 x1 x2 y0 y1 y2
              rintro e wz ⟨rfl, kz⟩
              have FT3 := HFT2.out.nix kz
              have rowS3 := rowS2.keep kz id
              have u0 := rowS3.cell 0
              (try simp only [List.getElem?_cons_zero] at u0)
              have u1 := rowS3.cell 1
              (try simp only [List.getElem?_cons_succ] at u1); (try simp only [List.getElem?_cons_zero] at u1)
              have htold := told_c O4 gm (restF z.fS lm) ax cx s [.slice sF s.fFrom.length dF, .slice sT s.fTo.length dT] wz FT3.map FT3.side (by omega) (rGSpan_lawful.nix HS.out FT3.kk)
              have HFT3 := Lib.hid FT3
              clear FT3 rowS2 rowS3 kz HFT2
              go_wp2_with fail
              go_fit htold
              clear htold u0 u1
              rintro e wu ⟨rfl, ku⟩
              have HFT4 := Lib.hid (HFT3.out.nix ku)
              clear HFT3 ku
              go_wp2_with fail
              go_roundw
              case rel => exact ⟨i + 1, gm, O4, (restF z.fS lm), ax, cx, by omega, by omega, rfl, rfl, by go_num, HFT4, by omega⟩
              case measure => simp [intOf]; omega
        have e2b : (z.fKind == 2) = false := by simp only [beq_eq_false_iff_ne]; exact e2
        by_cases e3 : z.fKind = 3
        · have e21 : ((3 : Int) == 1) = false := by decide
          rw [e3] at q0
          have hfk := fork_m O gm lm wo HF1.out.map (by omega)
          go_upto_region 32 with fail
          go_wp2_with fail
          go_fit hfk
          clear hfk q0 e1b e2b
          rintro e wa ⟨gf, Of, rfl, MF, hOf, ka⟩
          have FA := HF1.out.nix ka
          have rowOa := rowO.keep ka id
          have rowSa := rowSw.keep ka id
          have htk := take_m O gm lm ⟨[], []⟩ [.slice none 0 0, .slice none 0 0] wa FA.map (by omega) (span0 wa)
          have hwl := HF1.out.map.lt
          have hside : SideL wa (fun b => O b ∨ Of b) aA cA lm := (rList_lawful rGPair_lawful).mono ((rList_lawful rGPair_lawful).nix HF1.out.side ka) (fun b hb => ⟨Nat.lt_of_lt_of_le hb.1 ka.size, fun h => by
            rcases h with h | h
            · exact hb.2 h
            · have := (hOf b h).1; have := hb.1; omega⟩)
          have hsa := ka.size
          have HFA := Lib.hid FA
          clear FA rowO rowSw ka
          go_wp2_with fail
          go_fit htk
          clear htk
          rintro e wb ⟨a4, c4, O4, R4, rfl, -, -, -, hO4, k4⟩
          have MB := MF.keep k4 (fun b hb h => by have := hwl b h; have := (hOf b hb).1; omega)
          have SB : SideL wb Of aA cA lm := (rList_lawful rGPair_lawful).mono ((rList_lawful rGPair_lawful).keep hside k4 (fun b hb h => hb.2 (.inl h))) (fun b hb => ⟨Nat.lt_of_lt_of_le hb.1 k4.size, fun h => hb.2 (.inr h)⟩)
          have hkw := HF1.out.kk.size
          have FT : Hid (Play W wb Of gf lm aA cA) := Play.mk MB SB (fun b hb => by have := (hOf b hb).1; omega) (HFA.out.kk.then k4 (fun i hi h => by have := HF1.out.far i h; omega))
          have rowO := rowOa.keep k4 hcoO
          have rowS := rowSa.keep k4 hSO
          have hlT : lm.length ≤ i := hlm
          clear MB SB MF hside k4 hO4 HFA rowOa rowSa hcoO hSO hOlt HF1 hwl hOf hsa hkw
          have FTT := FT.out
          have hkT := HKW.out.keep FTT.kk (fun _ _ h => h)
          have q1 := rowO.cell 1
          (try simp only [List.getElem?_cons_succ] at q1); (try simp only [List.getElem?_cons_zero] at q1)
          obtain ⟨x, HXF⟩ : ∃ x, Hid (findF lm z.fP.fKey = x) := ⟨_, rfl⟩
          obtain ⟨hb, HHB⟩ : ∃ v, Hid (hasK lm z.fP.fKey = v) := ⟨_, rfl⟩
          have hget := get_m Of gf lm z.fP.fKey oK pK wb FTT.map (by omega) hkT
          clear FTT
          go_upto_region 37 with fail
          go_wp2_with fail
          go_fit hget
          clear hget
          rintro e wa ⟨cx, Rx, rfl, hx, ka⟩
          rw [HXF.out] at hx
          rw [HHB.out]
          obtain ⟨b1, d1, b2, d2, rfl, -⟩ := rGPair_open hx
          have kX : Keep Nix wa (wa.alloc (.cells #[.slice b1 x.fKey.length d1, .slice b2 x.fValue.length d2, .int .i64 x.fVersion] 29)) := (Keep.refl Nix wa).alloc _
          have rowX := RowIs.alloc wa #[.slice b1 x.fKey.length d1, .slice b2 x.fValue.length d2, .int .i64 x.fVersion] 29
          have FT1 := FT.out.nix (ka.trans kX)
          have rowO1 := (rowO.keep ka id).keep kX id
          have rowS1 := (rowS.keep ka id).keep kX id
          have hx1 := rGPair_lawful.nix hx kX
          clear q1 rowO rowS hx ka kX hkT FT
          go_upto_region 38 with fail
          generalize wa.alloc (.cells #[.slice b1 x.fKey.length d1, .slice b2 x.fValue.length d2, .int .i64 x.fVersion] 29) = wx at *
          generalize wa.heap.size = gx at *
          have q1 := rowO1.cell 1
          (try simp only [List.getElem?_cons_succ] at q1); (try simp only [List.getElem?_cons_zero] at q1)
          have hfs := find_s lm z.fP.fKey aA cA oK pK wx FT1.side (HKW.out.keep FT1.kk (fun _ _ h => h)) (by omega)
          have HFT := Lib.hid FT1
          clear FT1
          go_wp2_with fail
          go_fit hfs
          clear hfs
          rintro e wb ⟨cy, rfl, hy, kb⟩
          rw [HXF.out] at hy
          rw [HHB.out]
          obtain ⟨f1, h1, f2, h2, rfl, -⟩ := rGPair_open hy
          have kY : Keep Nix wb (wb.alloc (.cells #[.slice f1 x.fKey.length h1, .slice f2 x.fValue.length h2, .int .i64 x.fVersion] 29)) := (Keep.refl Nix wb).alloc _
          have rowY := RowIs.alloc wb #[.slice f1 x.fKey.length h1, .slice f2 x.fValue.length h2, .int .i64 x.fVersion] 29
          have FT2 := HFT.out.nix (kb.trans kY)
          have rowS2 := (rowS1.keep kb id).keep kY id
          have rowX2 := (rowX.keep kb id).keep kY id
          have hx2 := rGPair_lawful.nix hx1 (kb.trans kY)
          have hy2 := rGPair_lawful.nix hy kY
          clear q1 rowO1 rowS1 rowX hx1 hy kb kY HFT
          go_upto_region 39 with fail
          generalize wb.alloc (.cells #[.slice f1 x.fKey.length h1, .slice f2 x.fValue.length h2, .int .i64 x.fVersion] 29) = wy at *
          generalize wb.heap.size = gy at *
          have hne : (hb != hb) = false := by cases hb <;> rfl
          have x0 := rowX2.cell 0
          (try simp only [List.getElem?_cons_zero] at x0)
          have x1 := rowX2.cell 1
          (try simp only [List.getElem?_cons_succ] at x1); (try simp only [List.getElem?_cons_zero] at x1)
          have x2 := rowX2.cell 2
          (try simp only [List.getElem?_cons_succ] at x2); (try simp only [List.getElem?_cons_zero] at x2)
          have y0 := rowY.cell 0
          (try simp only [List.getElem?_cons_zero] at y0)
          have y1 := rowY.cell 1
          (try simp only [List.getElem?_cons_succ] at y1); (try simp only [List.getElem?_cons_zero] at y1)
          have y2 := rowY.cell 2
          (try simp only [List.getElem?_cons_succ] at y2); (try simp only [List.getElem?_cons_zero] at y2)
          have hsp := sPair_c wy x _ _ hx2 hy2
          have HFT2 := Lib.hid FT2
          clear hx2 hy2 rowX2 rowY FT2
          go_wp2_with fail
          go_fit hsp
          clear hsp x0 x1 x2 y0 y1 y2
          rintro e wz ⟨rfl, kz⟩
          have FT3 := HFT2.out.nix kz
          have rowS3 := rowS2.keep kz id
          have u0 := rowS3.cell 0
          (try simp only [List.getElem?_cons_zero] at u0)
          have u1 := rowS3.cell 1
          (try simp only [List.getElem?_cons_succ] at u1); (try simp only [List.getElem?_cons_zero] at u1)
          have htold := told_c Of gf lm aA cA s [.slice sF s.fFrom.length dF, .slice sT s.fTo.length dT] wz FT3.map FT3.side (by omega) (rGSpan_lawful.nix HS.out FT3.kk)
          have HFT3 := Lib.hid FT3
          clear FT3 rowS2 rowS3 kz HFT2
          go_wp2_with fail
          go_fit htold
          clear htold u0 u1
          rintro e wu ⟨rfl, ku⟩
          have HFT4 := Lib.hid (HFT3.out.nix ku)
          clear HFT3 ku
          go_wp2_with fail
          go_roundw
          case rel => exact ⟨i + 1, gf, Of, lm, aA, cA, by omega, by omega, rfl, rfl, by go_num, HFT4, by omega⟩
          case measure => simp [intOf]; omega
        have e3b : (z.fKind == 3) = false := by simp only [beq_eq_false_iff_ne]; exact e3
        have q1 := rowO.cell 1
        (try simp only [List.getElem?_cons_succ] at q1); (try simp only [List.getElem?_cons_zero] at q1)
        have q2 := rowO.cell 2
        (try simp only [List.getElem?_cons_succ] at q2); (try simp only [List.getElem?_cons_zero] at q2)
        have q3 := rowO.cell 3
        (try simp only [List.getElem?_cons_succ] at q3); (try simp only [List.getElem?_cons_zero] at q3)
        have hcp := copyPair_c z.fP _ wo (rGPair_lawful.nix HZW.out HF1.out.kk)
        go_upto_region 10 with fail
        clear e1b e2b e3b q0 e1 e2 e3
        generalize z.fKind = zk at *
        go_wp2_with fail
        go_fit hcp
        clear hcp q1 q2 q3
        rintro e wa ⟨cn, rfl, hcn, ka⟩
        have hGn := hcn.gp
        obtain ⟨a1, c1, a2, c2, rfl, o1, o2, hd12, -, -, -⟩ := hcn
        have kX : Keep Nix wa (wa.alloc (.cells #[.slice a1 z.fP.fKey.length c1, .slice a2 z.fP.fValue.length c2, .int .i64 z.fP.fVersion] 29)) := (Keep.refl Nix wa).alloc _
        have rowN := RowIs.alloc wa #[.slice a1 z.fP.fKey.length c1, .slice a2 z.fP.fValue.length c2, .int .i64 z.fP.fVersion] 29
        have kaX := ka.trans kX
        have FX := HF1.out.nix kaX
        have L0 : rList rGPair (wa.alloc (.cells #[.slice a1 z.fP.fKey.length c1, .slice a2 z.fP.fValue.length c2, .int .i64 z.fP.fVersion] 29)) (fun b => b < wo.heap.size ∧ ¬ O b) [.slice aA lm.length cA] lm := (rList_lawful rGPair_lawful).nix HF1.out.side kaX
        have hOw : ∀ b, O b → b < wo.heap.size := HF1.out.map.lt
        have rowOx := rowO.keep kaX id
        have rowSx := rowSw.keep kaX id
        have hGx := rGPair_lawful.nix hGn kX
        have o1x := owned_keep o1 kX (fun _ _ h => h)
        have o2x := owned_keep o2 kX (fun _ _ h => h)
        have hsax := kaX.size
        have hsa := ka.size
        have h1l : ∀ b, OwnB (.slice a1 z.fP.fKey.length c1) b → wo.heap.size ≤ b ∧ b < wa.heap.size := fun b hb => o1.lt b hb
        have h2l : ∀ b, OwnB (.slice a2 z.fP.fValue.length c2) b → wo.heap.size ≤ b ∧ b < wa.heap.size := fun b hb => o2.lt b hb
        have hwax : Hid ((wa.alloc (.cells #[.slice a1 z.fP.fKey.length c1, .slice a2 z.fP.fValue.length c2, .int .i64 z.fP.fVersion] 29)).heap.size = wa.heap.size + 1) := by show _ = _; simp
        have hri := Lib.hid FX.map.rising
        have hcol := rowO.lt
        clear hGn o1 o2 rowO rowSw ka kX kaX
        go_upto_region 11 with fail
        generalize wa.alloc (.cells #[.slice a1 z.fP.fKey.length c1, .slice a2 z.fP.fValue.length c2, .int .i64 z.fP.fVersion] 29) = wx at *
        obtain ⟨gx, hgx⟩ : ∃ gx, wa.heap.size = gx := ⟨_, rfl⟩
        rw [hgx] at rowN h1l h2l hsa hwax hGx ⊢
        clear hgx wa
        have n0 := rowN.cell 0
        (try simp only [List.getElem?_cons_zero] at n0)
        have n1 := rowN.cell 1
        (try simp only [List.getElem?_cons_succ] at n1); (try simp only [List.getElem?_cons_zero] at n1)
        have n2 := rowN.cell 2
        (try simp only [List.getElem?_cons_succ] at n2); (try simp only [List.getElem?_cons_zero] at n2)
        have hpu := put_m O gm lm z.fP _ wx FX.map (by omega) hGx
        have HFX := Lib.hid FX
        clear FX
        go_wp2_with fail
        go_fit hpu
        clear hpu n0 n1 n2
        rintro e w3 ⟨rfl, O2, M2, hO2, k2⟩
        obtain ⟨-, far2, kk2⟩ := HFX.out.more M2 hO2 k2
        have L2 := (rList_lawful rGPair_lawful).keep L0 k2 (fun b hb h => hb.2 h)
        have hgO : ¬ O gx := fun h => by have := hOw _ h; omega
        have rowN2 := rowN.keep k2 hgO
        have rowO2 := rowOx.keep k2 hcoO
        have rowS2 := rowSx.keep k2 hSO
        have hG2 := rGPair_lawful.keep hGx k2 (fun b hb h => by have := hOw _ h; have := hb.1; omega)
        have o12 := owned_keep o1x k2 (fun b hb h => by have := hOw _ h; have := h1l b hb; omega)
        have o22 := owned_keep o2x k2 (fun b hb h => by have := hOw _ h; have := h2l b hb; omega)
        have hwx2 := k2.size
        clear L0 rowN rowOx rowSx hGx o1x o2x k2
        have q1 := rowO2.cell 1
        (try simp only [List.getElem?_cons_succ] at q1); (try simp only [List.getElem?_cons_zero] at q1)
        have q2 := rowO2.cell 2
        (try simp only [List.getElem?_cons_succ] at q2); (try simp only [List.getElem?_cons_zero] at q2)
        have q3 := rowO2.cell 3
        (try simp only [List.getElem?_cons_succ] at q3); (try simp only [List.getElem?_cons_zero] at q3)
        have hmy := may_c z.fP _ w3 (rGPair_lawful.nix HZW.out kk2)
        have HM2 := Lib.hid M2
        have hlp := len_mayPut lm z.fP
        have hmp0 : Hid (∀ h : mayF z.fP = 0, mayPut lm z.fP = putS lm z.fP) := fun h => by unfold mayPut; rw [if_pos h]
        have hmp1 : Hid (∀ h : mayF z.fP ≠ 0, mayPut lm z.fP = lm) := fun h => by unfold mayPut; rw [if_neg h]
        clear M2
        obtain ⟨m0, hm0⟩ : ∃ m, mayF z.fP = m := ⟨_, rfl⟩
        rw [hm0] at hmy hmp0 hmp1 ⊢
        clear hm0
        have hne : (m0 != m0) = false := by simp
        go_wp2_with fail
        go_fit hmy
        clear hmy q1 q2 q3
        rintro e w4 ⟨rfl, k4⟩
        have L4 := (rList_lawful rGPair_lawful).nix L2 k4
        have rowN4 := rowN2.keep k4 id
        have rowO4 := rowO2.keep k4 id
        have rowS4 := rowS2.keep k4 id
        have hG4 := rGPair_lawful.nix hG2 k4
        have o14 := owned_keep o12 k4 (fun _ _ h => h)
        have o24 := owned_keep o22 k4 (fun _ _ h => h)
        have kk4 := kk2.trans k4
        have HM4 := Lib.hid (HM2.out.nix k4)
        have hs4 := k4.size
        clear L2 rowN2 rowO2 rowS2 hG2 o12 o22 kk2 k4 HM2
        have q1 := rowO4.cell 1
        (try simp only [List.getElem?_cons_succ] at q1); (try simp only [List.getElem?_cons_zero] at q1)
        have q2 := rowO4.cell 2
        (try simp only [List.getElem?_cons_succ] at q2); (try simp only [List.getElem?_cons_zero] at q2)
        have q3 := rowO4.cell 3
        (try simp only [List.getElem?_cons_succ] at q3); (try simp only [List.getElem?_cons_zero] at q3)
        have n0 := rowN4.cell 0
        (try simp only [List.getElem?_cons_zero] at n0)
        have n1 := rowN4.cell 1
        (try simp only [List.getElem?_cons_succ] at n1); (try simp only [List.getElem?_cons_zero] at n1)
        have n2 := rowN4.cell 2
        (try simp only [List.getElem?_cons_succ] at n2); (try simp only [List.getElem?_cons_zero] at n2)
        have hsp := sPair_c w4 z.fP _ _ hG4 (rGPair_lawful.nix HZW.out kk4)
        go_wp2_with fail
        go_fit hsp
        clear hsp q1 q2 q3 n0 n1 n2 hG4
        rintro e w5 ⟨rfl, k5⟩
        have L5 := (rList_lawful rGPair_lawful).nix L4 k5
        have rowN5 := rowN4.keep k5 id
        have rowO5 := rowO4.keep k5 id
        have rowS5 := rowS4.keep k5 id
        have o15 := owned_keep o14 k5 (fun _ _ h => h)
        have o25 := owned_keep o24 k5 (fun _ _ h => h)
        have kk5 := kk4.trans k5
        have HM5 := Lib.hid (HM4.out.nix k5)
        have hs5 := k5.size
        clear L4 rowN4 rowO4 rowS4 o14 o24 kk4 k5 HM4
        have n0 := rowN5.cell 0
        (try simp only [List.getElem?_cons_zero] at n0)
        have h1O : ∀ b, OwnB (.slice a1 z.fP.fKey.length c1) b → ¬ O2 b := fun b hb h => by
          have := h1l b hb
          have := hwax.out
          rcases hO2 b h with h | h
          · have := hOw b h; omega
          · omega
        have h2O : ∀ b, OwnB (.slice a2 z.fP.fValue.length c2) b → ¬ O2 b := fun b hb h => by
          have := h2l b hb
          have := hwax.out
          rcases hO2 b h with h | h
          · have := hOw b h; omega
          · omega
        have hWwo : W.heap.size ≤ wo.heap.size := HF1.out.kk.size
        go_wp2_with fail
        go_fit (spoil_own _ c1 a1 z.fP.fKey w5 o15)
        rintro e w6 ⟨rfl, k6⟩
        have L6 := (rList_lawful rGPair_lawful).keep L5 k6 (fun b hb h => by have := h1l b h; have := hb.1; omega)
        have rowN6 := rowN5.keep k6 (fun h => by have := h1l _ h; omega)
        have rowO6 := rowO5.keep k6 (fun h => by have := h1l _ h; omega)
        have rowS6 := rowS5.keep k6 (fun h => by have := h1l _ h; omega)
        have o26 := owned_keep o25 k6 (fun b hb h => hd12 b h hb)
        have kk6 := kk5.then k6 (fun i hi h => by have := h1l _ h; omega)
        have HM6 := Lib.hid (HM5.out.keep k6 (fun b hb h => h1O b h hb))
        have hs6 := k6.size
        have n1 := rowN6.cell 1
        (try simp only [List.getElem?_cons_succ] at n1); (try simp only [List.getElem?_cons_zero] at n1)
        clear n0 L5 rowN5 rowO5 rowS5 o15 o25 kk5 k6 HM5
        go_wp2_with fail
        go_fit (spoil_own _ c2 a2 z.fP.fValue w6 o26)
        rintro e w7 ⟨rfl, k7⟩
        have L7 := (rList_lawful rGPair_lawful).keep L6 k7 (fun b hb h => by have := h2l b h; have := hb.1; omega)
        have rowO7 := rowO6.keep k7 (fun h => by have := h2l _ h; omega)
        have rowS7 := rowS6.keep k7 (fun h => by have := h2l _ h; omega)
        have kk7 := kk6.then k7 (fun i hi h => by have := h2l _ h; omega)
        have HM7 := Lib.hid (HM6.out.keep k7 (fun b hb h => h2O b h hb))
        have hs7 := k7.size
        have S7 : SideL w7 O2 aA cA lm := (rList_lawful rGPair_lawful).mono L7 (fun b hb => ⟨by have := hb.1; omega, fun h => by
          have := hb.1
          rcases hO2 b h with h | h
          · exact hb.2 h
          · omega⟩)
        clear n1 L6 L7 rowN6 rowO6 rowS6 o26 kk6 k7 HM6 hd12 hgO hO2 hOw h1O h2O h1l h2l HFX HF1 hcoO hSO hOlt hwax hcol
        by_cases hm0 : m0 = 0
        · have hmp := hmp0.out hm0
          rw [hmp] at hlp
          rw [hmp] at HM7
          have hm0b : (m0 == 0) = true := by rw [hm0]; rfl
          have q1 := rowO7.cell 1
          (try simp only [List.getElem?_cons_succ] at q1); (try simp only [List.getElem?_cons_zero] at q1)
          have q2 := rowO7.cell 2
          (try simp only [List.getElem?_cons_succ] at q2); (try simp only [List.getElem?_cons_zero] at q2)
          have q3 := rowO7.cell 3
          (try simp only [List.getElem?_cons_succ] at q3); (try simp only [List.getElem?_cons_zero] at q3)
          have hps := putS_c lm z.fP aA cA _ w7 S7 (rGPair_lawful.nix HZW.out kk7) hri.out (by omega)
          have hlp2 : (putS lm z.fP).length ≤ lm.length + 1 := hlp
          clear hmp hm0 hmp0 hmp1
          go_wp2_with fail
          go_fit hps
          clear hps q1 q2 q3
          rintro e w8 ⟨a3, c3, css, rfl, own, els, k8⟩
          have S8 := SideL.of (O := O2) own els (by unfold far; omega) (fun b hb h => by
            rcases hb with hb | hb
            · exact hb.2
            · intro h2; have := far2 b h2; have hb' : b < Wo.heap.size ∨ b < W.heap.size := by first | exact .inl hb | exact .inr hb
              omega) (fun b hb => HM7.out.lt b hb) k8.size
          have FT : Hid (Play W w8 O2 gm (putS lm z.fP) a3 c3) := Play.mk (HM7.out.nix k8) S8 far2 (kk7.trans k8)
          have rowO := rowO7.keep k8 id
          have rowS := rowS7.keep k8 id
          have hlT : (putS lm z.fP).length ≤ i + 1 := by omega
          clear own els S8 k8 rowO7 rowS7 kk7 S7 HM7 far2 hlp
          have FTT := FT.out
          have hkT := HKW.out.keep FTT.kk (fun _ _ h => h)
          have q1 := rowO.cell 1
          (try simp only [List.getElem?_cons_succ] at q1); (try simp only [List.getElem?_cons_zero] at q1)
          obtain ⟨x, HXF⟩ : ∃ x, Hid (findF (putS lm z.fP) z.fP.fKey = x) := ⟨_, rfl⟩
          obtain ⟨hb, HHB⟩ : ∃ v, Hid (hasK (putS lm z.fP) z.fP.fKey = v) := ⟨_, rfl⟩
          have hget := get_m O2 gm (putS lm z.fP) z.fP.fKey oK pK w8 FTT.map (by omega) hkT
          clear FTT
          go_upto_region 37 with fail
          go_wp2_with fail
          go_fit hget
          clear hget
          rintro e wa ⟨cx, Rx, rfl, hx, ka⟩
          rw [HXF.out] at hx
          rw [HHB.out]
          obtain ⟨b1, d1, b2, d2, rfl, -⟩ := rGPair_open hx
          have kX : Keep Nix wa (wa.alloc (.cells #[.slice b1 x.fKey.length d1, .slice b2 x.fValue.length d2, .int .i64 x.fVersion] 29)) := (Keep.refl Nix wa).alloc _
          have rowX := RowIs.alloc wa #[.slice b1 x.fKey.length d1, .slice b2 x.fValue.length d2, .int .i64 x.fVersion] 29
          have FT1 := FT.out.nix (ka.trans kX)
          have rowO1 := (rowO.keep ka id).keep kX id
          have rowS1 := (rowS.keep ka id).keep kX id
          have hx1 := rGPair_lawful.nix hx kX
          clear q1 rowO rowS hx ka kX hkT FT
          go_upto_region 38 with fail
          generalize wa.alloc (.cells #[.slice b1 x.fKey.length d1, .slice b2 x.fValue.length d2, .int .i64 x.fVersion] 29) = wx at *
          generalize wa.heap.size = gx at *
          have q1 := rowO1.cell 1
          (try simp only [List.getElem?_cons_succ] at q1); (try simp only [List.getElem?_cons_zero] at q1)
          have hfs := find_s (putS lm z.fP) z.fP.fKey a3 c3 oK pK wx FT1.side (HKW.out.keep FT1.kk (fun _ _ h => h)) (by omega)
          have HFT := Lib.hid FT1
          clear FT1
          go_wp2_with fail
          go_fit hfs
          clear hfs
          rintro e wb ⟨cy, rfl, hy, kb⟩
          rw [HXF.out] at hy
          rw [HHB.out]
          obtain ⟨f1, h1, f2, h2, rfl, -⟩ := rGPair_open hy
          have kY : Keep Nix wb (wb.alloc (.cells #[.slice f1 x.fKey.length h1, .slice f2 x.fValue.length h2, .int .i64 x.fVersion] 29)) := (Keep.refl Nix wb).alloc _
          have rowY := RowIs.alloc wb #[.slice f1 x.fKey.length h1, .slice f2 x.fValue.length h2, .int .i64 x.fVersion] 29
          have FT2 := HFT.out.nix (kb.trans kY)
          have rowS2 := (rowS1.keep kb id).keep kY id
          have rowX2 := (rowX.keep kb id).keep kY id
          have hx2 := rGPair_lawful.nix hx1 (kb.trans kY)
          have hy2 := rGPair_lawful.nix hy kY
          clear q1 rowO1 rowS1 rowX hx1 hy kb kY HFT
          go_upto_region 39 with fail
          generalize wb.alloc (.cells #[.slice f1 x.fKey.length h1, .slice f2 x.fValue.length h2, .int .i64 x.fVersion] 29) = wy at *
          generalize wb.heap.size = gy at *
          have hne : (hb != hb) = false := by cases hb <;> rfl
          have x0 := rowX2.cell 0
          (try simp only [List.getElem?_cons_zero] at x0)
          have x1 := rowX2.cell 1
          (try simp only [List.getElem?_cons_succ] at x1); (try simp only [List.getElem?_cons_zero] at x1)
          have x2 := rowX2.cell 2
          (try simp only [List.getElem?_cons_succ] at x2); (try simp only [List.getElem?_cons_zero] at x2)
          have y0 := rowY.cell 0
          (try simp only [List.getElem?_cons_zero] at y0)
          have y1 := rowY.cell 1
          (try simp only [List.getElem?_cons_succ] at y1); (try simp only [List.getElem?_cons_zero] at y1)
          have y2 := rowY.cell 2
          (try simp only [List.getElem?_cons_succ] at y2); (try simp only [List.getElem?_cons_zero] at y2)
          have hsp := sPair_c wy x _ _ hx2 hy2
          have HFT2 := Lib.hid FT2
          clear hx2 hy2 rowX2 rowY FT2
          go_wp2_with fail
          go_fit hsp
          clear hsp x0 x1 x2 y0 y1 y2
          rintro e wz ⟨rfl, kz⟩
          have FT3 := HFT2.out.nix kz
          have rowS3 := rowS2.keep kz id
          have u0 := rowS3.cell 0
          (try simp only [List.getElem?_cons_zero] at u0)
          have u1 := rowS3.cell 1
          (try simp only [List.getElem?_cons_succ] at u1); (try simp only [List.getElem?_cons_zero] at u1)
          have htold := told_c O2 gm (putS lm z.fP) a3 c3 s [.slice sF s.fFrom.length dF, .slice sT s.fTo.length dT] wz FT3.map FT3.side (by omega) (rGSpan_lawful.nix HS.out FT3.kk)
          have HFT3 := Lib.hid FT3
          clear FT3 rowS2 rowS3 kz HFT2
          go_wp2_with fail
          go_fit htold
          clear htold u0 u1
          rintro e wu ⟨rfl, ku⟩
          have HFT4 := Lib.hid (HFT3.out.nix ku)
          clear HFT3 ku
          go_wp2_with fail
          go_roundw
          case rel => exact ⟨i + 1, gm, O2, (putS lm z.fP), a3, c3, by omega, by omega, rfl, rfl, by go_num, HFT4, by omega⟩
          case measure => simp [intOf]; omega
        · have hmp := hmp1.out hm0
          rw [hmp] at HM7
          have hm0b : (m0 == 0) = false := by simp only [beq_eq_false_iff_ne]; exact hm0
          have FT : Hid (Play W w7 O2 gm lm aA cA) := Play.mk HM7.out S7 far2 kk7
          have rowO := rowO7
          have rowS := rowS7
          have hlT : lm.length ≤ i := hlm
          clear hmp hm0 hmp0 hmp1 rowO7 rowS7 kk7 S7 HM7 far2 hlp
          have FTT := FT.out
          have hkT := HKW.out.keep FTT.kk (fun _ _ h => h)
          have q1 := rowO.cell 1
          (try simp only [List.getElem?_cons_succ] at q1); (try simp only [List.getElem?_cons_zero] at q1)
          obtain ⟨x, HXF⟩ : ∃ x, Hid (findF lm z.fP.fKey = x) := ⟨_, rfl⟩
          obtain ⟨hb, HHB⟩ : ∃ v, Hid (hasK lm z.fP.fKey = v) := ⟨_, rfl⟩
          have hget := get_m O2 gm lm z.fP.fKey oK pK w7 FTT.map (by omega) hkT
          clear FTT
          go_upto_region 37 with fail
          go_wp2_with fail
          go_fit hget
          clear hget
          rintro e wa ⟨cx, Rx, rfl, hx, ka⟩
          rw [HXF.out] at hx
          rw [HHB.out]
          obtain ⟨b1, d1, b2, d2, rfl, -⟩ := rGPair_open hx
          have kX : Keep Nix wa (wa.alloc (.cells #[.slice b1 x.fKey.length d1, .slice b2 x.fValue.length d2, .int .i64 x.fVersion] 29)) := (Keep.refl Nix wa).alloc _
          have rowX := RowIs.alloc wa #[.slice b1 x.fKey.length d1, .slice b2 x.fValue.length d2, .int .i64 x.fVersion] 29
          have FT1 := FT.out.nix (ka.trans kX)
          have rowO1 := (rowO.keep ka id).keep kX id
          have rowS1 := (rowS.keep ka id).keep kX id
          have hx1 := rGPair_lawful.nix hx kX
          clear q1 rowO rowS hx ka kX hkT FT
          go_upto_region 38 with fail
          generalize wa.alloc (.cells #[.slice b1 x.fKey.length d1, .slice b2 x.fValue.length d2, .int .i64 x.fVersion] 29) = wx at *
          generalize wa.heap.size = gx at *
          have q1 := rowO1.cell 1
          (try simp only [List.getElem?_cons_succ] at q1); (try simp only [List.getElem?_cons_zero] at q1)
          have hfs := find_s lm z.fP.fKey aA cA oK pK wx FT1.side (HKW.out.keep FT1.kk (fun _ _ h => h)) (by omega)
          have HFT := Lib.hid FT1
          clear FT1
          go_wp2_with fail
          go_fit hfs
          clear hfs
          rintro e wb ⟨cy, rfl, hy, kb⟩
          rw [HXF.out] at hy
          rw [HHB.out]
          obtain ⟨f1, h1, f2, h2, rfl, -⟩ := rGPair_open hy
          have kY : Keep Nix wb (wb.alloc (.cells #[.slice f1 x.fKey.length h1, .slice f2 x.fValue.length h2, .int .i64 x.fVersion] 29)) := (Keep.refl Nix wb).alloc _
          have rowY := RowIs.alloc wb #[.slice f1 x.fKey.length h1, .slice f2 x.fValue.length h2, .int .i64 x.fVersion] 29
          have FT2 := HFT.out.nix (kb.trans kY)
          have rowS2 := (rowS1.keep kb id).keep kY id
          have rowX2 := (rowX.keep kb id).keep kY id
          have hx2 := rGPair_lawful.nix hx1 (kb.trans kY)
          have hy2 := rGPair_lawful.nix hy kY
          clear q1 rowO1 rowS1 rowX hx1 hy kb kY HFT
          go_upto_region 39 with fail
          generalize wb.alloc (.cells #[.slice f1 x.fKey.length h1, .slice f2 x.fValue.length h2, .int .i64 x.fVersion] 29) = wy at *
          generalize wb.heap.size = gy at *
          have hne : (hb != hb) = false := by cases hb <;> rfl
          have x0 := rowX2.cell 0
          (try simp only [List.getElem?_cons_zero] at x0)
          have x1 := rowX2.cell 1
          (try simp only [List.getElem?_cons_succ] at x1); (try simp only [List.getElem?_cons_zero] at x1)
          have x2 := rowX2.cell 2
          (try simp only [List.getElem?_cons_succ] at x2); (try simp only [List.getElem?_cons_zero] at x2)
          have y0 := rowY.cell 0
          (try simp only [List.getElem?_cons_zero] at y0)
          have y1 := rowY.cell 1
          (try simp only [List.getElem?_cons_succ] at y1); (try simp only [List.getElem?_cons_zero] at y1)
          have y2 := rowY.cell 2
          (try simp only [List.getElem?_cons_succ] at y2); (try simp only [List.getElem?_cons_zero] at y2)
          have hsp := sPair_c wy x _ _ hx2 hy2
          have HFT2 := Lib.hid FT2
          clear hx2 hy2 rowX2 rowY FT2
          go_wp2_with fail
          go_fit hsp
          clear hsp x0 x1 x2 y0 y1 y2
          rintro e wz ⟨rfl, kz⟩
          have FT3 := HFT2.out.nix kz
          have rowS3 := rowS2.keep kz id
          have u0 := rowS3.cell 0
          (try simp only [List.getElem?_cons_zero] at u0)
          have u1 := rowS3.cell 1
          (try simp only [List.getElem?_cons_succ] at u1); (try simp only [List.getElem?_cons_zero] at u1)
          have htold := told_c O2 gm lm aA cA s [.slice sF s.fFrom.length dF, .slice sT s.fTo.length dT] wz FT3.map FT3.side (by omega) (rGSpan_lawful.nix HS.out FT3.kk)
          have HFT3 := Lib.hid FT3
          clear FT3 rowS2 rowS3 kz HFT2
          go_wp2_with fail
          go_fit htold
          clear htold u0 u1
          rintro e wu ⟨rfl, ku⟩
          have HFT4 := Lib.hid (HFT3.out.nix ku)
          clear HFT3 ku
          go_wp2_with fail
          go_roundw
          case rel => exact ⟨i + 1, gm, O2, lm, aA, cA, by omega, by omega, rfl, rfl, by go_num, HFT4, by omega⟩
          case measure => simp [intOf]; omega
      · have hi2 : ¬ (i : Int) < 120 := by omega
        have hi3 : (120 : Int) ≤ (i : Int) := by omega
        have htold := told_c O gm lm aA cA ⟨[], []⟩ [.slice none 0 0, .slice none 0 0] wr F.out.map F.out.side (by omega) (span0 wr)
        have kk := F.out.kk
        clear F
        go_wp2_with fail
        go_fit htold
        clear htold
        rintro e wu ⟨rfl, ku⟩
        go_wp2_with fail
        go_ret
        exact ⟨rfl, k0.trans (kk.trans ku)⟩
    · have hi1 : ¬ (i : Int) < (l.length : Int) := by omega
      have hi3 : l.length ≤ i := by omega
      have htold := told_c O gm lm aA cA ⟨[], []⟩ [.slice none 0 0, .slice none 0 0] wr F.out.map F.out.side (by omega) (span0 wr)
      have kk := F.out.kk
      clear F
      go_wp2_with fail
      go_fit htold
      clear htold
      rintro e wu ⟨rfl, ku⟩
      go_wp2_with fail
      go_ret
      exact ⟨rfl, k0.trans (kk.trans ku)⟩
namespace pagesPlay
theorem walk {m0 m1 : Nat} (W : World) (v0 v1 : Value) (h0 : Arg Try.prog W m0 53 v0) (h1 : Arg Try.prog W m1 37 v1) :
    Calls Try.prog 7 #[v0, v1] W fun e w' => e = .returned (.bool true) ∧ Keep Nix W w' := by
  obtain ⟨a, n, cap, rfl, h3⟩ := h0.slice Try.underlying53
  obtain ⟨l, hl, -⟩ := h3.toList (R := rGOp) (sz := 6) (by' := 112) (fun x : GOp => x.size) Try.underlying53 (by kernel_rfl) (by kernel_rfl) (by decide) (by decide) (fun h => redGOp h)
  obtain ⟨rfl, -, -⟩ := rList_len hl
  obtain ⟨csS, rfl, k⟩ := h1.struct Try.underlying37
  obtain ⟨s, hs, -⟩ := redGSpan k
  exact play_walk W a cap l s csS hl hs
end pagesPlay
end Go.Proofs.Ythkocgpbpgfocaa
