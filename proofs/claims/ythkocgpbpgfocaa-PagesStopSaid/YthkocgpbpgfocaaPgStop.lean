/- THE LAW PagesStop, walked. Printed by mac.py. -/
import Derived.Test.YthkocgpbpgfocaaPgP
import Derived.Test.YthkocgpbpgfocaaMod
namespace Go.Proofs.Ythkocgpbpgfocaa
open Go.RowKit Go.Shelf

theorem range_fin {f : FuncId} {lb : Array Value} {xs : List GPair} {n1 n2 : Nat} {gop : Operand} {p : Tmp} {assign body : Code} {Q : Exit → Act → World → Prop} {a : Act} {w : World} (ex : Nat)
    (hg : a.eval gop = .func (.func f) #[] lb) (eg : ∀ args w, (callFunc f args).run Try.prog w = .ok (.enter f args) w) (ht : Tells f lb xs n1 n2 w) (hn2 : n2 ≤ w.heap.size)
    (I : Nat → World → Prop) (Ix : Code → World → Prop) (Fin : World → Prop) (hI : ∀ k A B, I k A → Keep (Book w.heap.size) A B → I k B) (hIx : ∀ c A B, Ix c A → Keep (Book w.heap.size) A B → Ix c B) (h0 : I 0 w)
    (hb : ∀ a W, Q .normal a W → Q (.exit ex) a W) (hd : ∀ W, I xs.length W → Fin W) (hx : ∀ c W, Ix c W → c = .exit ex ∧ Fin W)
    (round : ∀ k (hk : k < xs.length) cn W0 W, I k W0 → Keep Nix W0 W → w.heap.size + 2 ≤ W0.heap.size → OwnP W W0.heap.size cn xs[k] →
      assign.wpIn (Fence.wide.inRound (w.heap.size + 1)) 2 Try.prog (Exit.then (fun a1 W1 => Keep (Free w.heap.size n1 n2) W W1 ∧ ∀ W2, Keep (· = w.heap.size + 1) W1 W2 → W2.heap.size = W1.heap.size → body.wpIn (Fence.wide.inRound (w.heap.size + 1)) 2 Try.prog (roundQ w.heap.size n1 n2 (I (k + 1)) Ix W2) a1 W2) (fun _ _ _ => False))
        { tmps := a.tmps.setIfInBounds p (.agg cn.toArray), defers := [] } W)
    (fin : ∀ W, Fin W → W.heap[w.heap.size]? = some (.deferred (some [])) → Q .normal { a with defers := { target := .collected w.heap.size, args := #[] } :: a.defers } W) :
    (Code.rangeFunc gop #[p] assign body).wp Try.prog Q a w :=
  range_tells hg eg ht hn2 I Ix hI hIx h0 round (fun W h hK => fin W (hd W h) hK) (fun c W h hK => by
    obtain ⟨rfl, hF⟩ := hx c W h
    exact wp_exit (hb _ _ (fin W hF hK)))
def Bx (c n : Nat) (O : Nat → Prop) (b : Nat) : Prop := O b ∨ (c ≤ b ∧ b < n)
theorem SideL.put {w w2 : World} {O O2 : Nat → Prop} {a : Option Addr} {cA c n : Nat} {l : List GPair} (S : SideL w (Bx c n O) a cA l) (k : Keep O w w2) (hO : ∀ b, O2 b → O b ∨ w.heap.size ≤ b) : SideL w2 (Bx c n O2) a cA l :=
  S.keep (k.mono (fun b hb => .inl hb)) (fun b hb => by
    rcases hb with h | h
    · rcases hO b h with h | h
      · exact .inl (.inl h)
      · exact .inr h
    · exact .inl (.inr h))
/-- What the loop that fills the map carries: nothing of the list lies in the boxes, from c to W. -/
structure Fil2 (c : Nat) (W : World) (gm : Nat) (i : Nat) (wr : World) (O : Nat → Prop) (lm : List GPair) (aA : Option Addr) (cA : Nat) : Prop where
  map : IsMap wr O gm lm
  side : SideL wr (Bx c W.heap.size O) aA cA lm
  far : ∀ b, O b → W.heap.size ≤ b
  len : lm.length ≤ i
  kk : Keep Nix W wr
theorem Fil2.start {c : Nat} {W wr : World} {gm : Nat} (M : IsMap wr (· = gm) gm []) (hg : W.heap.size ≤ gm) (kk : Keep Nix W wr) : Fil2 c W gm 0 wr (· = gm) [] none 0 :=
  ⟨M, SideL.nil _ _, fun b hb => by omega, Nat.le_refl _, kk⟩
theorem Fil2.more {c : Nat} {W wr w2 : World} {gm i : Nat} {O O2 : Nat → Prop} {lm lm2 : List GPair} {aA : Option Addr} {cA : Nat} (F : Fil2 c W gm i wr O lm aA cA) (_M2 : IsMap w2 O2 gm lm2) (hO : ∀ b, O2 b → O b ∨ wr.heap.size ≤ b) (k : Keep O wr w2) :
    SideL w2 (Bx c W.heap.size O2) aA cA lm ∧ (∀ b, O2 b → W.heap.size ≤ b) ∧ Keep Nix W w2 :=
  ⟨F.side.put k hO, fun b hb => by
    rcases hO b hb with h | h
    · exact F.far b h
    · have := F.kk.size; omega, F.kk.then k (fun i hi h => by have := F.far i h; omega)⟩
theorem span_one {w : World} {b : Nat} (row : RowIs w b 5 [.int .u8 64]) : rGSpan w (fun _ => True) [.slice (some ⟨b, 0, none⟩) 1 1, .slice none 0 0] ⟨[64], []⟩ :=
  rGSpan_mk (x := ⟨[64], []⟩) w _ ⟨fun _ => ⟨b, 0, rfl, trivial, row.lt, fun j u hu => by
    have h := row.cell j
    have hu2 : [Value.int .u8 64][j]? = some u := hu
    rw [hu2] at h
    simpa using h⟩, by decide, by decide⟩ ⟨Lies.nil _ _ _, Nat.zero_le _, Nat.zero_le _⟩
attribute [local go_sem ↓] cv_up cv_down rm_uint
set_option maxRecDepth 100000 in
set_option maxHeartbeats 8000000 in
theorem stop_walk (Wo : World) (a0 : Option Addr) (cap : Nat) (l : List GPair) (s : GSpan) (csS : List Value) (st : Int) (p0 : GPair) (csp : List Value) (hl : rList rGPair Wo (· < Wo.heap.size) [.slice a0 l.length cap] l) (hs : rGSpan Wo (· < Wo.heap.size) csS s) (hp : rGPair Wo (· < Wo.heap.size) csp p0) :
    Calls Try.prog 5 #[.slice a0 l.length cap, .agg csS.toArray, .int .i64 st, .agg csp.toArray] Wo fun e w' => e = .returned (.bool true) ∧ Keep Nix Wo w' := by
  have hs2 := hs
  have hp2 := hp
  obtain ⟨sF, dF, sT, dT, rfl, -⟩ := rGSpan_open hs
  obtain ⟨eK, fK, eV, fV, rfl, -⟩ := rGPair_open hp
  have k0 : Keep Nix Wo ((((Wo.alloc (.cells #[.slice sF s.fFrom.length dF, .slice sT s.fTo.length dT] 37)).alloc (.cells #[.int .i64 st] 3)).alloc (.cells #[.slice eK p0.fKey.length fK, .slice eV p0.fValue.length fV, .int .i64 p0.fVersion] 29)).alloc (.cells #[.bool false] 4)) := ((((Keep.refl Nix Wo).alloc _).alloc _).alloc _).alloc _
  have rowS : RowIs ((((Wo.alloc (.cells #[.slice sF s.fFrom.length dF, .slice sT s.fTo.length dT] 37)).alloc (.cells #[.int .i64 st] 3)).alloc (.cells #[.slice eK p0.fKey.length fK, .slice eV p0.fValue.length fV, .int .i64 p0.fVersion] 29)).alloc (.cells #[.bool false] 4)) Wo.heap.size 37 [.slice sF s.fFrom.length dF, .slice sT s.fTo.length dT] := (RowIs.alloc Wo #[.slice sF s.fFrom.length dF, .slice sT s.fTo.length dT] 37).keep ((((Keep.refl Nix _).alloc _).alloc _).alloc _) id
  have rowT : RowIs ((((Wo.alloc (.cells #[.slice sF s.fFrom.length dF, .slice sT s.fTo.length dT] 37)).alloc (.cells #[.int .i64 st] 3)).alloc (.cells #[.slice eK p0.fKey.length fK, .slice eV p0.fValue.length fV, .int .i64 p0.fVersion] 29)).alloc (.cells #[.bool false] 4)) (Wo.heap.size + 1) 3 [.int .i64 st] := by
    have h := RowIs.alloc (Wo.alloc (.cells #[.slice sF s.fFrom.length dF, .slice sT s.fTo.length dT] 37)) #[.int .i64 st] 3
    rw [World.size_alloc] at h
    exact h.keep (((Keep.refl Nix _).alloc _).alloc _) id
  have rowM : RowIs ((((Wo.alloc (.cells #[.slice sF s.fFrom.length dF, .slice sT s.fTo.length dT] 37)).alloc (.cells #[.int .i64 st] 3)).alloc (.cells #[.slice eK p0.fKey.length fK, .slice eV p0.fValue.length fV, .int .i64 p0.fVersion] 29)).alloc (.cells #[.bool false] 4)) (Wo.heap.size + 1 + 1) 29 [.slice eK p0.fKey.length fK, .slice eV p0.fValue.length fV, .int .i64 p0.fVersion] := by
    have h := RowIs.alloc ((Wo.alloc (.cells #[.slice sF s.fFrom.length dF, .slice sT s.fTo.length dT] 37)).alloc (.cells #[.int .i64 st] 3)) #[.slice eK p0.fKey.length fK, .slice eV p0.fValue.length fV, .int .i64 p0.fVersion] 29
    rw [World.size_alloc, World.size_alloc] at h
    exact h.keep ((Keep.refl Nix _).alloc _) id
  have rowB : RowIs ((((Wo.alloc (.cells #[.slice sF s.fFrom.length dF, .slice sT s.fTo.length dT] 37)).alloc (.cells #[.int .i64 st] 3)).alloc (.cells #[.slice eK p0.fKey.length fK, .slice eV p0.fValue.length fV, .int .i64 p0.fVersion] 29)).alloc (.cells #[.bool false] 4)) (Wo.heap.size + 1 + 1 + 1) 4 [.bool false] := by
    have h := RowIs.alloc (((Wo.alloc (.cells #[.slice sF s.fFrom.length dF, .slice sT s.fTo.length dT] 37)).alloc (.cells #[.int .i64 st] 3)).alloc (.cells #[.slice eK p0.fKey.length fK, .slice eV p0.fValue.length fV, .int .i64 p0.fVersion] 29)) #[.bool false] 4
    rw [World.size_alloc, World.size_alloc, World.size_alloc] at h
    exact h
  have hW0 : Hid ((((((Wo.alloc (.cells #[.slice sF s.fFrom.length dF, .slice sT s.fTo.length dT] 37)).alloc (.cells #[.int .i64 st] 3)).alloc (.cells #[.slice eK p0.fKey.length fK, .slice eV p0.fValue.length fV, .int .i64 p0.fVersion] 29)).alloc (.cells #[.bool false] 4))).heap.size = Wo.heap.size + 4) := by show _ = _; simp
  have HL0 := Lib.hid hl
  have HS0 := Lib.hid hs2
  have HP0 := Lib.hid hp2
  clear hl hs hs2 hp hp2
  refine calls_marks Try.func5 rfl ?_
  simp only [Try.ntmps5, List.size_toArray, List.length_cons, List.length_nil, Nat.reduceAdd, Nat.reduceSub, Array.replicate_succ, Array.replicate_zero, List.push_toArray, List.append_toArray, List.nil_append, List.cons_append]
  go_upto_region 1 with fail
  generalize ((((Wo.alloc (.cells #[.slice sF s.fFrom.length dF, .slice sT s.fTo.length dT] 37)).alloc (.cells #[.int .i64 st] 3)).alloc (.cells #[.slice eK p0.fKey.length fK, .slice eV p0.fValue.length fV, .int .i64 p0.fVersion] 29)).alloc (.cells #[.bool false] 4)) = W at *
  have HL1 : Hid (rList rGPair W (· < Wo.heap.size) [.slice a0 l.length cap] l) := (rList_lawful rGPair_lawful).nix HL0.out k0
  have HS : Hid (rGSpan W (· < Wo.heap.size) [.slice sF s.fFrom.length dF, .slice sT s.fTo.length dT] s) := rGSpan_lawful.nix HS0.out k0
  have HP : Hid (rGPair W (· < Wo.heap.size) [.slice eK p0.fKey.length fK, .slice eV p0.fValue.length fV, .int .i64 p0.fVersion] p0) := rGPair_lawful.nix HP0.out k0
  obtain ⟨c0, hc0⟩ : ∃ c, Wo.heap.size = c := ⟨_, rfl⟩
  have HC0 := Lib.hid hc0
  have hcW : Hid (c0 + 4 = W.heap.size) := by have := hW0.out; show _ = _; omega
  have HL : Hid (rList rGPair W (· < c0) [.slice a0 l.length cap] l) := by rw [← hc0]; exact HL1.out
  clear HL1
  rw [hc0] at rowS rowT rowM rowB ⊢
  clear HL0 HS0 HP0 hc0
  go_wp2_with fail
  go_fit (new_m W)
  rintro e w1 ⟨rfl, MM, k1⟩
  go_wp2_with fail
  go_fit (awake_c w1)
  rintro e w2 ⟨rfl, k2⟩
  replace MM := MM.nix k2
  have kk := k1.trans k2
  have hgm := MM.lt _ rfl
  clear k1 k2
  obtain ⟨gm, hgW⟩ : ∃ gm, W.heap.size = gm := ⟨_, rfl⟩
  rw [hgW] at MM ⊢
  have HGW := Lib.hid (Nat.le_of_eq hgW)
  clear hgW hgm
  rcases Int.lt_or_le 60 (l.length : Int) with h60 | h60
  · clear MM
    go_wp2_with fail
    go_fit (awake_c w2)
    rintro e w4 ⟨rfl, k4⟩
    have rowB4 := rowB.keep (kk.trans k4) id
    have b0 := rowB4.cell 0
    (try simp only [List.getElem?_cons_zero] at b0)
    have bf := rowB4.frozen 0
    go_wp2_with fail
    exact ⟨_, results_cell_bool rfl _ _ (c0 + 1 + 1 + 1) _ rfl Try.underlying4 ((rowB4.set 0 (.bool true)).cell 0), rfl, (k0.trans (kk.trans k4)).then ((Keep.refl (· = c0 + 1 + 1 + 1) w4).setCell (p := ⟨c0 + 1 + 1 + 1, 0, none⟩) (fun _ => rfl) _) (fun i hi e => by have := HC0.out; omega)⟩
  have HST := Lib.hid (Fil2.start (c := c0) MM HGW.out kk)
  clear MM kk
  go_wp2_with fail
  go_loopw [10, 11] (fun u v wr => ∃ (i : Nat) (O : Nat → Prop) (lm : List GPair) (aA : Option Addr) (cA : Nat), i ≤ l.length ∧ u = .slice aA lm.length cA ∧ v = .int .i64 i ∧ Fil2 c0 W gm i wr O lm aA cA) (fun _ v _ => l.length - (intOf v).toNat)
  case atStart => exact ⟨0, _, _, _, _, by omega, rfl, rfl, HST.out⟩
  case round =>
    clear HST
    obtain ⟨i, O, lm, aA, cA, hi, rfl, rfl, F⟩ := hrel
    by_cases hlt : i < l.length
    · have hi0 : (0 : Int) ≤ (i : Int) := by omega
      have hi1 : (i : Int) < (l.length : Int) := by omega
      have hkk := F.kk
      obtain ⟨b, o, aK, cK, aV, cV, rfl, hbw, -, rx, x0, x1, x2⟩ := at_pair HL.out i hlt
      obtain ⟨x, hx⟩ : ∃ x, l[i] = x := ⟨_, rfl⟩
      rw [hx] at rx x0 x1 x2
      have HX0 := Lib.hid x0
      have HX1 := Lib.hid x1
      have HX2 := Lib.hid x2
      have HRX := Lib.hid rx
      replace x0 := (hkk.cell (p := ⟨b, o + i * 3, none⟩) hbw id).trans x0
      replace x1 := (hkk.cell (p := ⟨b, o + i * 3 + 1, none⟩) hbw id).trans x1
      replace x2 := (hkk.cell (p := ⟨b, o + i * 3 + 2, none⟩) hbw id).trans x2
      have hlm : lm.length ≤ 100 := by have := F.len; omega
      have hput := put_m O gm lm x _ wr F.map (by omega) (rGPair_lawful.nix rx hkk)
      have HFF := Lib.hid F
      clear hx rx hkk F
      go_wp2_with fail
      go_fit hput
      clear hput
      rintro e w2 ⟨rfl, O2, M2, hO2, k2⟩
      obtain ⟨S2, hfar2, kk2⟩ := HFF.out.more M2 hO2 k2
      have hlen2 := len_mayPut lm x
      have hFl := HFF.out.len
      have hri := HFF.out.map.rising
      replace x0 := (kk2.cell (p := ⟨b, o + i * 3, none⟩) hbw id).trans HX0.out
      replace x1 := (kk2.cell (p := ⟨b, o + i * 3 + 1, none⟩) hbw id).trans HX1.out
      replace x2 := (kk2.cell (p := ⟨b, o + i * 3 + 2, none⟩) hbw id).trans HX2.out
      have HRI := Lib.hid hri
      clear hO2 k2 hri
      by_cases hm : mayF x = 0
      · have hmp : mayPut lm x = putS lm x := by unfold mayPut; rw [if_pos hm]
        rw [hmp] at M2 hlen2
        rw [hm]
        have hps := putS_c lm x aA cA [.slice aK x.fKey.length cK, .slice aV x.fValue.length cV, .int .i64 x.fVersion] w2 S2 (rGPair_lawful.nix HRX.out kk2) HRI.out (by omega)
        have HM2 := Lib.hid M2
        have HF2 := Lib.hid hfar2
        clear M2 S2 hmp hm hfar2
        go_wp2_with fail
        go_fit hps
        clear hps
        rintro e w3 ⟨a3, c3, css, rfl, own, els, k3⟩
        have S3 := SideL.of (O := Bx c0 W.heap.size O2) own els (by unfold far; omega) (fun b hb h => by
          rcases hb with hb | hb
          · exact hb.2
          · intro h2; have hb' : b < c0 := hb; have := hcW.out; rcases h2 with h2 | h2
            · have := HF2.out b h2; omega
            · omega) (fun b hb => by
          rcases hb with hb | hb
          · exact HM2.out.lt b hb
          · have := kk2.size; omega) k3.size
        have HF3 : Hid (Fil2 c0 W gm (i + 1) w3 O2 (putS lm x) a3 c3) := ⟨HM2.out.nix k3, S3, HF2.out, by omega, kk2.trans k3⟩
        clear own els S3 k3 x0 x1 x2 kk2 HFF
        go_wp2_with fail
        go_roundw
        case rel => exact ⟨i + 1, O2, _, a3, c3, by omega, rfl, by go_num, HF3.out⟩
        case measure => simp [intOf]; omega
      · have hmp : mayPut lm x = lm := by unfold mayPut; rw [if_neg hm]
        rw [hmp] at M2
        have hm2 : (mayF x == 0) = false := by simp only [beq_eq_false_iff_ne]; exact hm
        have HF3 : Hid (Fil2 c0 W gm (i + 1) w2 O2 lm aA cA) := ⟨M2, S2, hfar2, by omega, kk2⟩
        generalize mayF x = mx at *
        clear M2 S2 hfar2 hmp hm x0 x1 x2 kk2 HFF
        go_wp2_with fail
        go_roundw
        case rel => exact ⟨i + 1, O2, _, aA, cA, by omega, rfl, by go_num, HF3.out⟩
        case measure => simp [intOf]; omega
    · obtain rfl : i = l.length := by omega
      have hlm : lm.length ≤ 60 := by have := F.len; omega
      have hO := F.map.lt
      have hfar := F.far
      have kk := F.kk
      have hsWr : W.heap.size ≤ wr.heap.size := kk.size
      have hn1 : ¬ (l.length : Int) < (l.length : Int) := by omega
      have rowSr := rowS.keep kk id
      have rowTr := rowT.keep kk id
      have rowMr := rowM.keep kk id
      have rowBr := rowB.keep kk id
      have HM := Lib.hid F.map
      have hpt := part_c lm s [.slice sF s.fFrom.length dF, .slice sT s.fTo.length dT] aA cA wr F.side (rGSpan_lawful.nix HS.out kk) (by omega)
      obtain ⟨ys, HYS⟩ : ∃ y, Hid (partF s lm = y) := ⟨_, rfl⟩
      have hyl : ys.length ≤ 60 := by rw [← HYS.out]; exact Nat.le_trans (List.length_filter_le _ _) hlm
      rw [HYS.out] at hpt
      have u0 := rowSr.cell 0
      (try simp only [List.getElem?_cons_zero] at u0)
      have u1 := rowSr.cell 1
      (try simp only [List.getElem?_cons_succ] at u1); (try simp only [List.getElem?_cons_zero] at u1)
      clear F hlt h60 hi
      go_wp2_with fail
      go_fit hpt
      clear hpt u0 u1
      rintro e w2 ⟨aP, cP, csP, rfl, own, els, k2⟩
      have SP := SideL.of (O := Bx c0 W.heap.size O) own els (by unfold far; omega) (fun b hb h => hb.2) (fun b hb => by
        rcases hb with hb | hb
        · exact HM.out.lt b hb
        · have := kk.size; omega) k2.size
      have k3 : Keep Nix w2 (w2.alloc (.cells #[.slice aP ys.length cP] 22)) := (Keep.refl Nix w2).alloc _
      have row12 := RowIs.alloc w2 #[.slice aP ys.length cP] 22
      have k23 := k2.trans k3
      have SP3 : SideL _ (Bx c0 W.heap.size O) aP cP ys := SP.nix k3
      have rowS3 := rowSr.keep k23 id
      have rowT3 := rowTr.keep k23 id
      have rowM3 := rowMr.keep k23 id
      have rowB3 := rowBr.keep k23 id
      have kk3 := kk.trans k23
      have HM3 := Lib.hid (HM.out.nix k23)
      have hsr2 := k2.size
      have hs3 : Hid ((w2.alloc (.cells #[.slice aP ys.length cP] 22)).heap.size = w2.heap.size + 1) := by show _ = _; simp
      clear own els SP k2 k3 k23 rowSr rowTr rowMr rowBr kk HM
      go_upto_region 11 with fail
      generalize w2.alloc (.cells #[.slice aP ys.length cP] 22) = w3 at *
      obtain ⟨c12, hc12⟩ : ∃ c, w2.heap.size = c := ⟨_, rfl⟩
      rw [hc12] at row12 hs3 hsr2 ⊢
      clear hc12
      have u0 := rowS3.cell 0
      (try simp only [List.getElem?_cons_zero] at u0)
      have u1 := rowS3.cell 1
      (try simp only [List.getElem?_cons_succ] at u1); (try simp only [List.getElem?_cons_zero] at u1)
      go_wp2_with fail
      go_fit (scan_m O gm lm s [.slice sF s.fFrom.length dF, .slice sT s.fTo.length dT] false w3 HM3.out (by omega) (rGSpan_lawful.nix HS.out kk3))
      clear u0 u1
      rintro e w4 ⟨gs, rfl, HT, k4⟩
      have hF : scanF s false lm = ys := HYS.out
      rw [hF] at HT
      have SP4 : SideL _ (Bx c0 W.heap.size O) aP cP ys := SP3.nix k4
      have rowS4 := rowS3.keep k4 id
      have rowT4 := rowT3.keep k4 id
      have rowM4 := rowM3.keep k4 id
      have rowB4 := rowB3.keep k4 id
      have row12d := row12.keep k4 id
      have kk4 := kk3.trans k4
      have HM4 := Lib.hid (HM3.out.nix k4)
      have hs34 := k4.size
      clear hF SP3 rowS3 rowT3 rowM3 rowB3 row12 kk3 HM3 k4
      have m0 := rowM4.cell 0
      (try simp only [List.getElem?_cons_zero] at m0)
      have m1 := rowM4.cell 1
      (try simp only [List.getElem?_cons_succ] at m1); (try simp only [List.getElem?_cons_zero] at m1)
      have m2 := rowM4.cell 2
      (try simp only [List.getElem?_cons_succ] at m2); (try simp only [List.getElem?_cons_zero] at m2)
      go_wp2_with fail
      go_fit (put_m O gm lm p0 _ w4 HM4.out (by omega) (rGPair_lawful.nix HP.out kk4))
      clear m0 m1 m2
      rintro e w5 ⟨rfl, O2, M2, hO2, k5⟩
      have hlp := len_mayPut lm p0
      have HM5 := Lib.hid M2
      have hOW : ∀ b, O b → W.heap.size ≤ b := hfar
      have hsW := kk4.size
      have hcO : ∀ j, j < W.heap.size → ¬ O j := fun j hj h => by have := hOW j h; omega
      have rowT5 := rowT4.keep k5 (hcO _ (by have := hcW.out; omega))
      have rowB5 := rowB4.keep k5 (hcO _ (by have := hcW.out; omega))
      have row12e := row12d.keep k5 (fun h => by have := hO _ h; omega)
      have SP5 := SP4.put k5 hO2
      have HT5 := HT.later (k5.mono (T := Off w3.heap.size w4.heap.size) (fun b hb => by have := hO b hb; have := hs3.out; intro h; omega))
      have kk5 := kk4.then k5 (fun i hi h => by have := hOW i h; omega)
      have hs45 := k5.size
      clear M2 SP4 rowS4 rowT4 rowM4 rowB4 row12d kk4 HM4 k5 HT
      go_wp2_with fail
      have kL : Keep Nix w5 (w5.alloc (.cells #[.int .u8 64] 5)) := (Keep.refl Nix w5).alloc _
      have rowL := RowIs.alloc w5 #[.int .u8 64] 5
      have hsp := span_one rowL
      go_fit (take_m O2 gm _ ⟨[64], []⟩ [.slice (some ⟨w5.heap.size, 0, none⟩) 1 1, .slice none 0 0] _ (HM5.out.nix kL) (by omega) hsp)
      rintro e w6 ⟨a6, c6, O6, R6, rfl, -, -, -, hO6, k6⟩
      have hO2W : ∀ b, O2 b → W.heap.size ≤ b := fun b hb => by
        rcases hO2 b hb with h | h
        · exact hOW b h
        · omega
      have hO2X : ∀ b, O2 b → b < w3.heap.size ∧ b ≠ c12 ∨ w4.heap.size ≤ b := fun b hb => by
        rcases hO2 b hb with h | h
        · left; have := hO b h; have := hs3.out; omega
        · exact .inr h
      have rowT6 := (rowT5.keep kL id).keep k6 (fun h => by have := hO2W _ h; have := hcW.out; omega)
      have rowB6 := (rowB5.keep kL id).keep k6 (fun h => by have := hO2W _ h; have := hcW.out; omega)
      have row126 := (row12e.keep kL id).keep k6 (fun h => by have := hO2X _ h; have := hs3.out; omega)
      have SP6 := (show SideL _ (Bx c0 W.heap.size O2) aP cP ys from SP5.nix kL).put k6 hO6
      have HT6 := HT5.later (kL.nix.trans (k6.mono (T := Off w3.heap.size w4.heap.size) (fun b hb => by have := hO2X b hb; intro h; omega)))
      have kk6 := (kk5.trans kL).then k6 (fun i hi h => by have := hO2W i h; omega)
      have hs56 := Nat.le_trans kL.size k6.size
      clear hsp rowL kL k6 hO6 rowT5 rowB5 row12e SP5 HT5 kk5 hO2W hO2X HM5
      have t0 := rowT6.cell 0
      (try simp only [List.getElem?_cons_zero] at t0)
      have tf := rowT6.frozen 0
      obtain ⟨cq, sv, hsv, f1, -, f3n, f4⟩ := round_facts st 9 (by decide) (by decide)
      have f3 : ∀ x y w, (rmSem 30 x y (.int .u64 (cq : Int)) (.int .u64 9)).run Try.prog w = .ok (.value (.int .u64 (sv : Int))) w := f3n
      clear f3n
      go_upto_region 15 with fail
      have kS : Keep (· = c0 + 1) w6 (w6.setCell ⟨c0 + 1, 0, none⟩ (.int .i64 (sv : Int))) := (Keep.refl (· = c0 + 1) w6).setCell (p := ⟨c0 + 1, 0, none⟩) (fun _ => rfl) _
      have hcW1 := hcW.out
      have rowT : RowIs (w6.setCell ⟨c0 + 1, 0, none⟩ (.int .i64 (sv : Int))) (c0 + 1) 3 [.int .i64 (sv : Int)] := rowT6.set 0 (.int .i64 (sv : Int))
      have rowB := rowB6.keep kS (by omega)
      have row12 := row126.keep kS (by omega)
      have hP : Hid (rList rGPair (w6.setCell ⟨c0 + 1, 0, none⟩ (.int .i64 (sv : Int))) (fun b => b < w6.heap.size) [.slice aP ys.length cP] ys) := (rList_lawful rGPair_lawful).mono ((rList_lawful rGPair_lawful).keep SP6 kS (fun b hb e => hb.2 (.inr ⟨by omega, by omega⟩))) (fun b hb => hb.1)
      have HT := HT6.later (kS.mono (T := Off w3.heap.size w4.heap.size) (fun b hb => by intro h; have := hs3.out; omega))
      have kk := k0.trans kk6
      replace kk := kk.then kS (fun i hi e => by have := HC0.out; omega)
      have hs67 := kS.size
      clear t0 tf f1 f3 f4 rowT6 rowB6 row126 SP6 HT6 kk6 kS
      generalize w6.setCell ⟨c0 + 1, 0, none⟩ (.int .i64 (sv : Int)) = w7 at *
      have hq1 : c0 + 4 ≤ c12 := by omega
      have hq2 : c12 + 1 ≤ w3.heap.size := by have := hs3.out; omega
      have hq4 : w4.heap.size ≤ w6.heap.size := by omega
      clear hO hOW hcO hO2 hs45 hs56 hlp hsW hsWr hsr2 hn1 hfar hsv hlm HYS HL HS HP rowS rowM hs3 hcW1 HGW
      go_wp2_with fail
      refine wp_loop_rounds 3 ?_
      rw [rounds_succ]
      go_upto_region 19 with fail
      have kA : Keep Nix w7 (w7.alloc (.cells #[.int .i64 0] 3)) := (Keep.refl Nix w7).alloc _
      have rowN := RowIs.alloc w7 #[.int .i64 0] 3
      have hsA : (w7.alloc (.cells #[.int .i64 0] 3)).heap.size = w7.heap.size + 1 := World.size_alloc ..
      have rowTa := rowT.keep kA id
      have rowBa := rowB.keep kA id
      have row12a := row12.keep kA id
      have hPa := Lib.hid ((rList_lawful rGPair_lawful).nix hP.out kA)
      have HTa := HT.later kA.nix
      have kka := kk.trans kA
      skip
      clear rowT rowB row12 hP HT kk kA
      generalize w7.alloc (.cells #[.int .i64 0] 3) = wA at *
      obtain ⟨cN, hcN⟩ : ∃ c, w7.heap.size = c := ⟨_, rfl⟩
      skip
      rw [hcN] at rowN hsA hs67 ⊢
      clear hcN
      have hcNA : cN < wA.heap.size := by omega
      have hn2A : w4.heap.size ≤ wA.heap.size := by omega
      have HsA := Lib.hid hsA
      clear hsA
      go_wp2_with fail
      refine range_fin 4 (xs := ys) rfl (enters_of Try.func37 (by kernel_rfl) rfl) HTa hn2A (fun k W => CntI cN wA (fun k => (k : Int)) k W ∧ (sv = 0 ∨ k < sv)) (fun c W => c = .exit 4 ∧ sv ≠ 0 ∧ sv ≤ ys.length ∧ CntI cN wA (fun k => (k : Int)) sv W) (fun W => ∃ n : Nat, CntI cN wA (fun k => (k : Int)) n W ∧ (n = ys.length ∧ (sv = 0 ∨ n < sv) ∨ n = sv ∧ sv ≠ 0 ∧ n ≤ ys.length)) (fun k A B h kk => ⟨cntI_keep h.1 kk rfl hcNA, h.2⟩) (fun c A B h kk => ⟨h.1, h.2.1, h.2.2.1, cntI_keep h.2.2.2 kk rfl hcNA⟩) ⟨⟨rowN, Keep.refl _ _⟩, by omega⟩ (fun _ _ h => h) (fun W h => ⟨_, h.1, .inl ⟨rfl, h.2⟩⟩) (fun c W h => ⟨h.1, _, h.2.2.2, .inr ⟨rfl, h.2.1, h.2.2.1⟩⟩) ?round ?fin
      case round =>
        rintro k hk cn Wp W ⟨⟨row8p, k8p⟩, hkv⟩ kN hszp hcnp
        obtain ⟨x, hx⟩ : ∃ x, ys[k] = x := ⟨_, rfl⟩
        have hcnx : OwnP W Wp.heap.size cn x := by rw [← hx]; exact hcnp
        have HX := Lib.hid hx
        have hcn := hcnx
        obtain ⟨aK, cK, aV, cV, rfl, -, -, -, -, -, -⟩ := hcn
        refine region_in (by kernel_rfl) (fun _ _ h => h) ?_
        have kP : Keep Nix W (W.alloc (.cells #[.slice aK x.fKey.length cK, .slice aV x.fValue.length cV, .int .i64 x.fVersion] 29)) := (Keep.refl Nix W).alloc _
        have rowP := RowIs.alloc W #[.slice aK x.fKey.length cK, .slice aV x.fValue.length cV, .int .i64 x.fVersion] 29
        clear hcnp
        go_wp2_with fail
        refine ⟨kP.nix, fun W2 k2 hs22 => ?_⟩
        clear hs22
        have hNs := kN.size
        have hPs := kP.size
        have hk2s := k2.size
        have kBk : Keep (Book wA.heap.size) Wp W2 := (kN.trans kP).nix.trans (k2.mono (fun b hb => .inr hb))
        have hbk : ∀ b, Book wA.heap.size b → b < wA.heap.size + 2 ∧ wA.heap.size ≤ b := fun b hb => by rcases hb with h | h <;> omega
        replace row8p := row8p.keep kBk (fun h => by have := hbk _ h; omega)
        have k8 := k8p.then kBk (fun i hi h => by have := hbk i h; omega)
        have k2' : Keep (Book wA.heap.size) W W2 := kP.nix.trans (k2.mono (fun b hb => .inr hb))
        have hG := rGPair_lawful.keep hcnx.gp k2' (fun b hb h => by have := hbk b h; have := hb.1; omega)
        have hPL := (rList_lawful rGPair_lawful).keep hPa.out k8 (fun b hb h => by omega)
        obtain ⟨b, o, pK, cPK, pV, cPV, rfl, hbw, hbc, ry, y0, y1, y2⟩ := at_pair hPL k hk
        rw [HX.out] at ry y0 y1 y2
        have s0 := (row12a.keep k8 (by omega)).cell 0
        (try simp only [List.getElem?_cons_zero] at s0)
        replace rowP := rowP.keep k2 (by omega)
        have p0 := rowP.cell 0
        (try simp only [List.getElem?_cons_zero] at p0)
        have p1 := rowP.cell 1
        (try simp only [List.getElem?_cons_succ] at p1); (try simp only [List.getElem?_cons_zero] at p1)
        have p2 := rowP.cell 2
        (try simp only [List.getElem?_cons_succ] at p2); (try simp only [List.getElem?_cons_zero] at p2)
        have hWW2 : W.heap.size < W2.heap.size := rowP.lt
        clear kBk k2' k2 kP kN hx hcnx hPL
        replace row8p : RowIs W2 cN 3 [.int .i64 (k : Int)] := row8p
        have n0 := row8p.cell 0
        (try simp only [List.getElem?_cons_zero] at n0)
        have hck : (k : Int) < (ys.length : Int) := by omega
        have hck2 : ¬ (ys.length : Int) ≤ (k : Int) := by omega
        have hki0 : (0 : Int) ≤ (k : Int) := by omega
        refine wpIn_block (wpIn_seq (wpIn_seq ?_))
        have kd : Keep Nix W2 W2.drew := (Keep.refl Nix W2).drew
        refine region_in_held (S := (fun w' => w'.cell? ⟨cN, 0, none⟩ = some (.int .i64 (k : Int)) ∧ w'.cell? ⟨c12, 0, none⟩ = some (.slice (some ⟨b, o, none⟩) ys.length cP) ∧ w'.cell? ⟨W.heap.size, 0, none⟩ = some (.slice aK x.fKey.length cK) ∧ w'.cell? ⟨W.heap.size, 1, none⟩ = some (.slice aV x.fValue.length cV) ∧ w'.cell? ⟨W.heap.size, 2, none⟩ = some (.int .i64 x.fVersion) ∧ w'.cell? ⟨b, o + k * 3, none⟩ = some (.slice pK x.fKey.length cPK) ∧ w'.cell? ⟨b, o + k * 3 + 1, none⟩ = some (.slice pV x.fValue.length cPV) ∧ w'.cell? ⟨b, o + k * 3 + 2, none⟩ = some (.int .i64 x.fVersion))) (by kernel_rfl) (by exact fun _ _ h => h) (by kernel_rfl) (⟨n0, s0, p0, p1, p2, y0, y1, y2⟩) (fun hHeld => ?_)
        clear n0 s0 p0 p1 p2 y0 y1 y2
        have hGd := rGPair_lawful.nix hG kd
        have ryd := rGPair_lawful.nix ry kd
        have row8d := row8p.keep kd id
        have hWW := Nat.lt_of_lt_of_le hWW2 kd.size
        have hbd : b < W2.drew.heap.size := Nat.lt_of_lt_of_le (rList_lt hPa.out hk) (Nat.le_trans k8.size kd.size)
        replace k8 := k8.trans kd.nix
        clear hG ry rowP row8p hWW2
        have kF0 : Keep Nix W2 W2.drew := kd
        generalize hWd : W2.drew = wd at *
        refine wpAnyH_take (i := 0) (v := ?_) rfl (by kernel_rfl) (by kernel_rfl) (by kernel_rfl) (fun _ _ _ h => h) (Or.inl ⟨by kernel_rfl, ?_⟩) hHeld ?_
        rotate_left
        · intro w' hSw
          (try dsimp only at hSw)
          (try simp only [List.getElem_toArray]); (try simp only [List.getElem_cons_succ]); (try simp only [List.getElem_cons_zero])
          go_simp
          try with_reducible rfl
        (try simp only [Act.put]); (try simp only [List.getElem_toArray]); (try simp only [List.getElem_cons_succ]); (try simp only [List.getElem_cons_zero]); (try simp only [List.setIfInBounds_toArray]); (try simp only [List.set_cons_succ]); (try simp only [List.set_cons_zero])
        refine wpAnyH_take (i := 1) (v := ?_) rfl (by kernel_rfl) (by kernel_rfl) (by kernel_rfl) (fun _ _ _ h => h) (Or.inl ⟨by kernel_rfl, ?_⟩) hHeld ?_
        rotate_left
        · intro w' hSw
          (try dsimp only at hSw)
          (try simp only [List.getElem_toArray]); (try simp only [List.getElem_cons_succ]); (try simp only [List.getElem_cons_zero])
          go_simp
          try with_reducible rfl
        (try simp only [Act.put]); (try simp only [List.getElem_toArray]); (try simp only [List.getElem_cons_succ]); (try simp only [List.getElem_cons_zero]); (try simp only [List.setIfInBounds_toArray]); (try simp only [List.set_cons_succ]); (try simp only [List.set_cons_zero])
        refine wpAnyH_take (i := 2) (v := ?_) rfl (by kernel_rfl) (by kernel_rfl) (by kernel_rfl) (fun _ _ _ h => h) (Or.inl ⟨by kernel_rfl, ?_⟩) hHeld ?_
        rotate_left
        · intro w' hSw
          (try dsimp only at hSw)
          (try simp only [List.getElem_toArray]); (try simp only [List.getElem_cons_succ]); (try simp only [List.getElem_cons_zero])
          go_simp
          try with_reducible rfl
        (try simp only [Act.put]); (try simp only [List.getElem_toArray]); (try simp only [List.getElem_cons_succ]); (try simp only [List.getElem_cons_zero]); (try simp only [List.setIfInBounds_toArray]); (try simp only [List.set_cons_succ]); (try simp only [List.set_cons_zero])
        refine wpAnyH_take (i := 3) (v := ?_) rfl (by kernel_rfl) (by kernel_rfl) (by kernel_rfl) (fun _ _ _ h => h) (Or.inl ⟨by kernel_rfl, ?_⟩) hHeld ?_
        rotate_left
        · intro w' hSw
          (try dsimp only at hSw)
          (try simp only [List.getElem_toArray]); (try simp only [List.getElem_cons_succ]); (try simp only [List.getElem_cons_zero])
          go_simp
          try with_reducible rfl
        (try simp only [Act.put]); (try simp only [List.getElem_toArray]); (try simp only [List.getElem_cons_succ]); (try simp only [List.getElem_cons_zero]); (try simp only [List.setIfInBounds_toArray]); (try simp only [List.set_cons_succ]); (try simp only [List.set_cons_zero])
        refine wpAnyH_take (i := 4) (v := ?_) rfl (by kernel_rfl) (by kernel_rfl) (by kernel_rfl) (fun _ _ _ h => h) (Or.inl ⟨by kernel_rfl, ?_⟩) hHeld ?_
        rotate_left
        · intro w' hSw
          (try dsimp only at hSw)
          (try simp only [List.getElem_toArray]); (try simp only [List.getElem_cons_succ]); (try simp only [List.getElem_cons_zero])
          go_simp
          try with_reducible rfl
        (try simp only [Act.put]); (try simp only [List.getElem_toArray]); (try simp only [List.getElem_cons_succ]); (try simp only [List.getElem_cons_zero]); (try simp only [List.setIfInBounds_toArray]); (try simp only [List.set_cons_succ]); (try simp only [List.set_cons_zero])
        refine wpAnyH_take (i := 5) (v := ?_) rfl (by kernel_rfl) (by kernel_rfl) (by kernel_rfl) (fun _ _ _ h => h) (Or.inl ⟨by kernel_rfl, ?_⟩) hHeld ?_
        rotate_left
        · intro w' hSw
          (try dsimp only at hSw)
          (try simp only [List.getElem_toArray]); (try simp only [List.getElem_cons_succ]); (try simp only [List.getElem_cons_zero])
          go_simp
          try with_reducible rfl
        (try simp only [Act.put]); (try simp only [List.getElem_toArray]); (try simp only [List.getElem_cons_succ]); (try simp only [List.getElem_cons_zero]); (try simp only [List.setIfInBounds_toArray]); (try simp only [List.set_cons_succ]); (try simp only [List.set_cons_zero])
        refine wpAnyH_take (i := 6) (v := ?_) rfl (by kernel_rfl) (by kernel_rfl) (by kernel_rfl) (fun _ _ _ h => h) (Or.inl ⟨by kernel_rfl, ?_⟩) hHeld ?_
        rotate_left
        · intro w' hSw
          (try dsimp only at hSw)
          (try simp only [List.getElem_toArray]); (try simp only [List.getElem_cons_succ]); (try simp only [List.getElem_cons_zero])
          go_simp
          try with_reducible rfl
        (try simp only [Act.put]); (try simp only [List.getElem_toArray]); (try simp only [List.getElem_cons_succ]); (try simp only [List.getElem_cons_zero]); (try simp only [List.setIfInBounds_toArray]); (try simp only [List.set_cons_succ]); (try simp only [List.set_cons_zero])
        refine wpAnyH_take (i := 7) (v := ?_) rfl (by kernel_rfl) (by kernel_rfl) (by kernel_rfl) (fun _ _ _ h => h) (Or.inl ⟨by kernel_rfl, ?_⟩) hHeld ?_
        rotate_left
        · intro w' hSw
          (try dsimp only at hSw)
          (try simp only [List.getElem_toArray]); (try simp only [List.getElem_cons_succ]); (try simp only [List.getElem_cons_zero])
          go_simp
          try with_reducible rfl
        (try simp only [Act.put]); (try simp only [List.getElem_toArray]); (try simp only [List.getElem_cons_succ]); (try simp only [List.getElem_cons_zero]); (try simp only [List.setIfInBounds_toArray]); (try simp only [List.set_cons_succ]); (try simp only [List.set_cons_zero])
        refine wpAnyH_take (i := 8) (v := ?_) rfl (by kernel_rfl) (by kernel_rfl) (by kernel_rfl) (fun _ _ _ h => h) (Or.inl ⟨by kernel_rfl, ?_⟩) hHeld ?_
        rotate_left
        · intro w' hSw
          (try dsimp only at hSw)
          (try simp only [List.getElem_toArray]); (try simp only [List.getElem_cons_succ]); (try simp only [List.getElem_cons_zero])
          go_simp
          try with_reducible rfl
        (try simp only [Act.put]); (try simp only [List.getElem_toArray]); (try simp only [List.getElem_cons_succ]); (try simp only [List.getElem_cons_zero]); (try simp only [List.setIfInBounds_toArray]); (try simp only [List.set_cons_succ]); (try simp only [List.set_cons_zero])
        refine wpAnyH_take (i := 9) (v := ?_) rfl (by kernel_rfl) (by kernel_rfl) (by kernel_rfl) (fun _ _ _ h => h) (Or.inl ⟨by kernel_rfl, ?_⟩) hHeld ?_
        rotate_left
        · intro w' hSw
          (try dsimp only at hSw)
          (try simp only [List.getElem_toArray]); (try simp only [List.getElem_cons_succ]); (try simp only [List.getElem_cons_zero])
          go_simp
          try with_reducible rfl
        (try simp only [Act.put]); (try simp only [List.getElem_toArray]); (try simp only [List.getElem_cons_succ]); (try simp only [List.getElem_cons_zero]); (try simp only [List.setIfInBounds_toArray]); (try simp only [List.set_cons_succ]); (try simp only [List.set_cons_zero])
        refine wpAnyH_ready (rs := [10]) (by kernel_rfl) (by simp) ?_
        refine AllReadyH.cons rfl (fun K hK => ?_) AllReadyH.nil
        rw [if_pos (by kernel_rfl)]
        go_simp
        go_fit (sPair_c wd x _ _ hGd ryd)
        rintro e w5 ⟨rfl, k5⟩
        go_wp2_with fail
        have h81 := row8d.lt
        have h71 : c12 < wd.heap.size := by omega
        refine hK.out _ _ (⟨(k5.cell (p := ⟨cN, 0, none⟩) h81 id).trans hHeld.1, (k5.cell (p := ⟨c12, 0, none⟩) h71 id).trans hHeld.2.1, (k5.cell (p := ⟨W.heap.size, 0, none⟩) hWW id).trans hHeld.2.2.1, (k5.cell (p := ⟨W.heap.size, 1, none⟩) hWW id).trans hHeld.2.2.2.1, (k5.cell (p := ⟨W.heap.size, 2, none⟩) hWW id).trans hHeld.2.2.2.2.1, (k5.cell (p := ⟨b, o + k * 3, none⟩) hbd id).trans hHeld.2.2.2.2.2.1, (k5.cell (p := ⟨b, o + k * 3 + 1, none⟩) hbd id).trans hHeld.2.2.2.2.2.2.1, (k5.cell (p := ⟨b, o + k * 3 + 2, none⟩) hbd id).trans hHeld.2.2.2.2.2.2.2⟩) (fun hHeld => ?_)
        clear hK K
        (try simp only [Act.put]); (try simp only [List.getElem_toArray]); (try simp only [List.getElem_cons_succ]); (try simp only [List.getElem_cons_zero]); (try simp only [List.setIfInBounds_toArray]); (try simp only [List.set_cons_succ]); (try simp only [List.set_cons_zero])
        refine wpAnyH_take (i := 11) (v := ?_) rfl (by kernel_rfl) (by kernel_rfl) (by kernel_rfl) (fun _ _ _ h => h) (Or.inl ⟨by kernel_rfl, ?_⟩) hHeld ?_
        rotate_left
        · intro w' hSw
          (try dsimp only at hSw)
          (try simp only [List.getElem_toArray]); (try simp only [List.getElem_cons_succ]); (try simp only [List.getElem_cons_zero])
          go_simp
          try with_reducible rfl
        (try simp only [Act.put]); (try simp only [List.getElem_toArray]); (try simp only [List.getElem_cons_succ]); (try simp only [List.getElem_cons_zero]); (try simp only [List.setIfInBounds_toArray]); (try simp only [List.set_cons_succ]); (try simp only [List.set_cons_zero])
        refine wpAnyH_take (i := 12) (v := ?_) rfl (by kernel_rfl) (by kernel_rfl) (by kernel_rfl) (fun _ _ _ h => h) (Or.inl ⟨by kernel_rfl, ?_⟩) hHeld ?_
        rotate_left
        · intro w' hSw
          (try dsimp only at hSw)
          (try simp only [List.getElem_toArray]); (try simp only [List.getElem_cons_succ]); (try simp only [List.getElem_cons_zero])
          go_simp
          try with_reducible rfl
        (try simp only [Act.put]); (try simp only [List.getElem_toArray]); (try simp only [List.getElem_cons_succ]); (try simp only [List.getElem_cons_zero]); (try simp only [List.setIfInBounds_toArray]); (try simp only [List.set_cons_succ]); (try simp only [List.set_cons_zero])
        refine wpAnyH_done (by kernel_rfl) ?_ _
        clear hHeld hGd ryd
        have row8e := row8d.keep k5 id
        have k8e := k8.trans k5.nix
        have kFe := kF0.trans k5
        clear row8d k8 kF0 k5 kd
        refine wpIn_cond_false rfl (wpIn_skip ?_)
        change Code.wpIn _ _ _ _ _ _ _
        have n0 := row8e.cell 0
        have nf := row8e.frozen 0
        (try simp only [List.getElem?_cons_zero] at n0)
        refine wpIn_seq (region_in (by kernel_rfl) (fun _ _ h => h) ?_)
        go_wp2_with fail
        clear n0 nf
        have kS : Keep (· = cN) w5 (w5.setCell ⟨cN, 0, none⟩ (.int .i64 ((k : Int) + 1))) := (Keep.refl (· = cN) w5).setCell (p := ⟨cN, 0, none⟩) (fun _ => rfl) _
        have row8f : RowIs (w5.setCell ⟨cN, 0, none⟩ (.int .i64 ((k : Int) + 1))) cN 3 [.int .i64 ((k : Int) + 1)] := row8e.set 0 (.int .i64 ((k : Int) + 1))
        have k8f := k8e.trans kS
        have kFf : Keep (Free wA.heap.size w3.heap.size w4.heap.size) W2 (w5.setCell ⟨cN, 0, none⟩ (.int .i64 ((k : Int) + 1))) := kFe.nix.trans (kS.mono (fun b (h : b = cN) => ⟨by omega, by omega, by omega⟩))
        clear row8e k8e kFe kS
        generalize w5.setCell ⟨cN, 0, none⟩ (.int .i64 ((k : Int) + 1)) = w9 at *
        have n0 := row8f.cell 0
        have t0 := (rowTa.keep k8f (by omega)).cell 0
        (try simp only [List.getElem?_cons_zero] at n0 t0)
        refine wpIn_seq (region_in (by kernel_rfl) (fun _ _ h => h) ?_)
        by_cases hst : k + 1 = sv
        · have heq : (((k : Int) + 1) == (sv : Int)) = true := by simp only [beq_iff_eq]; omega
          go_wp2_with fail
          refine wpIn_cond_true rfl ?_
          refine wpIn_exit ?_
          have hC : CntI cN wA (fun k => (k : Int)) (k + 1) w9 := ⟨row8f, k8f⟩
          rw [hst] at hC
          have hF : Keep (Free wA.heap.size w3.heap.size w4.heap.size) W2 w9 ∧ (Code.exit 4 = Code.exit 4 ∧ sv ≠ 0 ∧ sv ≤ ys.length ∧ CntI cN wA (fun k => (k : Int)) sv w9) := ⟨kFf, rfl, by omega, by omega, hC⟩
          exact hF
        · have heq : (((k : Int) + 1) == (sv : Int)) = false := by simp only [beq_eq_false_iff_ne]; omega
          go_wp2_with fail
          refine wpIn_cond_false rfl (wpIn_skip ?_)
          exact ⟨kFf, ⟨row8f, k8f⟩, by omega⟩
      case fin =>
        rintro Wz ⟨n, ⟨rowNz, kz⟩, hn⟩ hK
        replace rowNz : RowIs Wz cN 3 [.int .i64 (n : Int)] := rowNz
        have rowT := rowTa.keep kz (by omega)
        have rowB := rowBa.keep kz (by omega)
        have row12 := row12a.keep kz (by omega)
        have hP := Lib.hid ((rList_lawful rGPair_lawful).keep hPa.out kz (fun b hb e => by omega))
        have HT := HTa.later (kz.mono (T := Off w3.heap.size w4.heap.size) (fun b hb => by intro h; omega))
        have kk := kka.then kz (fun i hi e => by have := HC0.out; omega)
        have hzs := kz.size
        have hqz : w6.heap.size ≤ Wz.heap.size := by omega
        have n0 := rowNz.cell 0
        have t0 := rowT.cell 0
        have s0 := row12.cell 0
        (try simp only [List.getElem?_cons_zero] at n0 t0 s0)
        have hmx : max (sv : Int) 0 = (sv : Int) := by omega
        skip
        clear rowTa rowBa row12a hPa HTa kka rowN rowNz kz
        rcases (show (sv < ys.length ∧ n = sv) ∨ (ys.length ≤ sv ∧ n = ys.length) ∨ (sv < ys.length ∧ sv = 0 ∧ n = ys.length ∧ n ≠ sv) by omega) with ⟨hlv, hns⟩ | ⟨hlv, hnl⟩ | ⟨hlv, hs0, hnl, hn0⟩
        · have hne : ((n : Int) != (sv : Int)) = false := by simp [hns]
          clear hn hns
          go_wp2_with fail
          have hD6 : w6.heap.size ≤ wA.heap.size := by omega
          obtain ⟨D1, hD1⟩ : ∃ d, wA.heap.size = d := ⟨_, rfl⟩
          rw [hD1] at hK hD6 ⊢
          have hDz : D1 < Wz.heap.size := (Array.getElem?_eq_some_iff.1 hK).1
          have HK1 := Lib.hid hK
          clear hD1 hK HsA hcNA hn2A hzs n0 t0 s0 hmx hne hlv
          (try clear hsz)
          (try clear hne0)
          (try clear hlv2)
          clear hs67
          have hs67 := hqz
          clear hqz
          rw [rounds_succ]
          go_upto_region 19 with fail
          have kA : Keep Nix Wz (Wz.alloc (.cells #[.int .i64 0] 3)) := (Keep.refl Nix Wz).alloc _
          have rowN := RowIs.alloc Wz #[.int .i64 0] 3
          have hsA : (Wz.alloc (.cells #[.int .i64 0] 3)).heap.size = Wz.heap.size + 1 := World.size_alloc ..
          have rowTa := rowT.keep kA id
          have rowBa := rowB.keep kA id
          have row12a := row12.keep kA id
          have hPa := Lib.hid ((rList_lawful rGPair_lawful).nix hP.out kA)
          have HTa := HT.later kA.nix
          have kka := kk.trans kA
          have hKa := (kA.block D1 hDz id).trans HK1.out
          clear rowT rowB row12 hP HT kk kA
          generalize Wz.alloc (.cells #[.int .i64 0] 3) = wA at *
          obtain ⟨cN, hcN⟩ : ∃ c, Wz.heap.size = c := ⟨_, rfl⟩
          have hDN : D1 < cN := by rw [← hcN]; exact hDz
          rw [hcN] at rowN hsA hs67 ⊢
          clear hcN
          have hcNA : cN < wA.heap.size := by omega
          have hn2A : w4.heap.size ≤ wA.heap.size := by omega
          have HsA := Lib.hid hsA
          clear hsA
          go_wp2_with fail
          refine range_fin 4 (xs := ys) rfl (enters_of Try.func37 (by kernel_rfl) rfl) HTa hn2A (fun k W => CntI cN wA (fun k => (k : Int)) k W ∧ (sv = 0 ∨ k < sv)) (fun c W => c = .exit 4 ∧ sv ≠ 0 ∧ sv ≤ ys.length ∧ CntI cN wA (fun k => (k : Int)) sv W) (fun W => ∃ n : Nat, CntI cN wA (fun k => (k : Int)) n W ∧ (n = ys.length ∧ (sv = 0 ∨ n < sv) ∨ n = sv ∧ sv ≠ 0 ∧ n ≤ ys.length)) (fun k A B h kk => ⟨cntI_keep h.1 kk rfl hcNA, h.2⟩) (fun c A B h kk => ⟨h.1, h.2.1, h.2.2.1, cntI_keep h.2.2.2 kk rfl hcNA⟩) ⟨⟨rowN, Keep.refl _ _⟩, by omega⟩ (fun _ _ h => h) (fun W h => ⟨_, h.1, .inl ⟨rfl, h.2⟩⟩) (fun c W h => ⟨h.1, _, h.2.2.2, .inr ⟨rfl, h.2.1, h.2.2.1⟩⟩) ?round ?fin
          case round =>
            rintro k hk cn Wp W ⟨⟨row8p, k8p⟩, hkv⟩ kN hszp hcnp
            obtain ⟨x, hx⟩ : ∃ x, ys[k] = x := ⟨_, rfl⟩
            have hcnx : OwnP W Wp.heap.size cn x := by rw [← hx]; exact hcnp
            have HX := Lib.hid hx
            have hcn := hcnx
            obtain ⟨aK, cK, aV, cV, rfl, -, -, -, -, -, -⟩ := hcn
            refine region_in (by kernel_rfl) (fun _ _ h => h) ?_
            have kP : Keep Nix W (W.alloc (.cells #[.slice aK x.fKey.length cK, .slice aV x.fValue.length cV, .int .i64 x.fVersion] 29)) := (Keep.refl Nix W).alloc _
            have rowP := RowIs.alloc W #[.slice aK x.fKey.length cK, .slice aV x.fValue.length cV, .int .i64 x.fVersion] 29
            clear hcnp
            go_wp2_with fail
            refine ⟨kP.nix, fun W2 k2 hs22 => ?_⟩
            clear hs22
            have hNs := kN.size
            have hPs := kP.size
            have hk2s := k2.size
            have kBk : Keep (Book wA.heap.size) Wp W2 := (kN.trans kP).nix.trans (k2.mono (fun b hb => .inr hb))
            have hbk : ∀ b, Book wA.heap.size b → b < wA.heap.size + 2 ∧ wA.heap.size ≤ b := fun b hb => by rcases hb with h | h <;> omega
            replace row8p := row8p.keep kBk (fun h => by have := hbk _ h; omega)
            have k8 := k8p.then kBk (fun i hi h => by have := hbk i h; omega)
            have k2' : Keep (Book wA.heap.size) W W2 := kP.nix.trans (k2.mono (fun b hb => .inr hb))
            have hG := rGPair_lawful.keep hcnx.gp k2' (fun b hb h => by have := hbk b h; have := hb.1; omega)
            have hPL := (rList_lawful rGPair_lawful).keep hPa.out k8 (fun b hb h => by omega)
            obtain ⟨b, o, pK, cPK, pV, cPV, rfl, hbw, hbc, ry, y0, y1, y2⟩ := at_pair hPL k hk
            rw [HX.out] at ry y0 y1 y2
            have s0 := (row12a.keep k8 (by omega)).cell 0
            (try simp only [List.getElem?_cons_zero] at s0)
            replace rowP := rowP.keep k2 (by omega)
            have p0 := rowP.cell 0
            (try simp only [List.getElem?_cons_zero] at p0)
            have p1 := rowP.cell 1
            (try simp only [List.getElem?_cons_succ] at p1); (try simp only [List.getElem?_cons_zero] at p1)
            have p2 := rowP.cell 2
            (try simp only [List.getElem?_cons_succ] at p2); (try simp only [List.getElem?_cons_zero] at p2)
            have hWW2 : W.heap.size < W2.heap.size := rowP.lt
            clear kBk k2' k2 kP kN hx hcnx hPL
            replace row8p : RowIs W2 cN 3 [.int .i64 (k : Int)] := row8p
            have n0 := row8p.cell 0
            (try simp only [List.getElem?_cons_zero] at n0)
            have hck : (k : Int) < (ys.length : Int) := by omega
            have hck2 : ¬ (ys.length : Int) ≤ (k : Int) := by omega
            have hki0 : (0 : Int) ≤ (k : Int) := by omega
            refine wpIn_block (wpIn_seq (wpIn_seq ?_))
            have kd : Keep Nix W2 W2.drew := (Keep.refl Nix W2).drew
            refine region_in_held (S := (fun w' => w'.cell? ⟨cN, 0, none⟩ = some (.int .i64 (k : Int)) ∧ w'.cell? ⟨c12, 0, none⟩ = some (.slice (some ⟨b, o, none⟩) ys.length cP) ∧ w'.cell? ⟨W.heap.size, 0, none⟩ = some (.slice aK x.fKey.length cK) ∧ w'.cell? ⟨W.heap.size, 1, none⟩ = some (.slice aV x.fValue.length cV) ∧ w'.cell? ⟨W.heap.size, 2, none⟩ = some (.int .i64 x.fVersion) ∧ w'.cell? ⟨b, o + k * 3, none⟩ = some (.slice pK x.fKey.length cPK) ∧ w'.cell? ⟨b, o + k * 3 + 1, none⟩ = some (.slice pV x.fValue.length cPV) ∧ w'.cell? ⟨b, o + k * 3 + 2, none⟩ = some (.int .i64 x.fVersion))) (by kernel_rfl) (by exact fun _ _ h => h) (by kernel_rfl) (⟨n0, s0, p0, p1, p2, y0, y1, y2⟩) (fun hHeld => ?_)
            clear n0 s0 p0 p1 p2 y0 y1 y2
            have hGd := rGPair_lawful.nix hG kd
            have ryd := rGPair_lawful.nix ry kd
            have row8d := row8p.keep kd id
            have hWW := Nat.lt_of_lt_of_le hWW2 kd.size
            have hbd : b < W2.drew.heap.size := Nat.lt_of_lt_of_le (rList_lt hPa.out hk) (Nat.le_trans k8.size kd.size)
            replace k8 := k8.trans kd.nix
            clear hG ry rowP row8p hWW2
            have kF0 : Keep Nix W2 W2.drew := kd
            generalize hWd : W2.drew = wd at *
            refine wpAnyH_take (i := 0) (v := ?_) rfl (by kernel_rfl) (by kernel_rfl) (by kernel_rfl) (fun _ _ _ h => h) (Or.inl ⟨by kernel_rfl, ?_⟩) hHeld ?_
            rotate_left
            · intro w' hSw
              (try dsimp only at hSw)
              (try simp only [List.getElem_toArray]); (try simp only [List.getElem_cons_succ]); (try simp only [List.getElem_cons_zero])
              go_simp
              try with_reducible rfl
            (try simp only [Act.put]); (try simp only [List.getElem_toArray]); (try simp only [List.getElem_cons_succ]); (try simp only [List.getElem_cons_zero]); (try simp only [List.setIfInBounds_toArray]); (try simp only [List.set_cons_succ]); (try simp only [List.set_cons_zero])
            refine wpAnyH_take (i := 1) (v := ?_) rfl (by kernel_rfl) (by kernel_rfl) (by kernel_rfl) (fun _ _ _ h => h) (Or.inl ⟨by kernel_rfl, ?_⟩) hHeld ?_
            rotate_left
            · intro w' hSw
              (try dsimp only at hSw)
              (try simp only [List.getElem_toArray]); (try simp only [List.getElem_cons_succ]); (try simp only [List.getElem_cons_zero])
              go_simp
              try with_reducible rfl
            (try simp only [Act.put]); (try simp only [List.getElem_toArray]); (try simp only [List.getElem_cons_succ]); (try simp only [List.getElem_cons_zero]); (try simp only [List.setIfInBounds_toArray]); (try simp only [List.set_cons_succ]); (try simp only [List.set_cons_zero])
            refine wpAnyH_take (i := 2) (v := ?_) rfl (by kernel_rfl) (by kernel_rfl) (by kernel_rfl) (fun _ _ _ h => h) (Or.inl ⟨by kernel_rfl, ?_⟩) hHeld ?_
            rotate_left
            · intro w' hSw
              (try dsimp only at hSw)
              (try simp only [List.getElem_toArray]); (try simp only [List.getElem_cons_succ]); (try simp only [List.getElem_cons_zero])
              go_simp
              try with_reducible rfl
            (try simp only [Act.put]); (try simp only [List.getElem_toArray]); (try simp only [List.getElem_cons_succ]); (try simp only [List.getElem_cons_zero]); (try simp only [List.setIfInBounds_toArray]); (try simp only [List.set_cons_succ]); (try simp only [List.set_cons_zero])
            refine wpAnyH_take (i := 3) (v := ?_) rfl (by kernel_rfl) (by kernel_rfl) (by kernel_rfl) (fun _ _ _ h => h) (Or.inl ⟨by kernel_rfl, ?_⟩) hHeld ?_
            rotate_left
            · intro w' hSw
              (try dsimp only at hSw)
              (try simp only [List.getElem_toArray]); (try simp only [List.getElem_cons_succ]); (try simp only [List.getElem_cons_zero])
              go_simp
              try with_reducible rfl
            (try simp only [Act.put]); (try simp only [List.getElem_toArray]); (try simp only [List.getElem_cons_succ]); (try simp only [List.getElem_cons_zero]); (try simp only [List.setIfInBounds_toArray]); (try simp only [List.set_cons_succ]); (try simp only [List.set_cons_zero])
            refine wpAnyH_take (i := 4) (v := ?_) rfl (by kernel_rfl) (by kernel_rfl) (by kernel_rfl) (fun _ _ _ h => h) (Or.inl ⟨by kernel_rfl, ?_⟩) hHeld ?_
            rotate_left
            · intro w' hSw
              (try dsimp only at hSw)
              (try simp only [List.getElem_toArray]); (try simp only [List.getElem_cons_succ]); (try simp only [List.getElem_cons_zero])
              go_simp
              try with_reducible rfl
            (try simp only [Act.put]); (try simp only [List.getElem_toArray]); (try simp only [List.getElem_cons_succ]); (try simp only [List.getElem_cons_zero]); (try simp only [List.setIfInBounds_toArray]); (try simp only [List.set_cons_succ]); (try simp only [List.set_cons_zero])
            refine wpAnyH_take (i := 5) (v := ?_) rfl (by kernel_rfl) (by kernel_rfl) (by kernel_rfl) (fun _ _ _ h => h) (Or.inl ⟨by kernel_rfl, ?_⟩) hHeld ?_
            rotate_left
            · intro w' hSw
              (try dsimp only at hSw)
              (try simp only [List.getElem_toArray]); (try simp only [List.getElem_cons_succ]); (try simp only [List.getElem_cons_zero])
              go_simp
              try with_reducible rfl
            (try simp only [Act.put]); (try simp only [List.getElem_toArray]); (try simp only [List.getElem_cons_succ]); (try simp only [List.getElem_cons_zero]); (try simp only [List.setIfInBounds_toArray]); (try simp only [List.set_cons_succ]); (try simp only [List.set_cons_zero])
            refine wpAnyH_take (i := 6) (v := ?_) rfl (by kernel_rfl) (by kernel_rfl) (by kernel_rfl) (fun _ _ _ h => h) (Or.inl ⟨by kernel_rfl, ?_⟩) hHeld ?_
            rotate_left
            · intro w' hSw
              (try dsimp only at hSw)
              (try simp only [List.getElem_toArray]); (try simp only [List.getElem_cons_succ]); (try simp only [List.getElem_cons_zero])
              go_simp
              try with_reducible rfl
            (try simp only [Act.put]); (try simp only [List.getElem_toArray]); (try simp only [List.getElem_cons_succ]); (try simp only [List.getElem_cons_zero]); (try simp only [List.setIfInBounds_toArray]); (try simp only [List.set_cons_succ]); (try simp only [List.set_cons_zero])
            refine wpAnyH_take (i := 7) (v := ?_) rfl (by kernel_rfl) (by kernel_rfl) (by kernel_rfl) (fun _ _ _ h => h) (Or.inl ⟨by kernel_rfl, ?_⟩) hHeld ?_
            rotate_left
            · intro w' hSw
              (try dsimp only at hSw)
              (try simp only [List.getElem_toArray]); (try simp only [List.getElem_cons_succ]); (try simp only [List.getElem_cons_zero])
              go_simp
              try with_reducible rfl
            (try simp only [Act.put]); (try simp only [List.getElem_toArray]); (try simp only [List.getElem_cons_succ]); (try simp only [List.getElem_cons_zero]); (try simp only [List.setIfInBounds_toArray]); (try simp only [List.set_cons_succ]); (try simp only [List.set_cons_zero])
            refine wpAnyH_take (i := 8) (v := ?_) rfl (by kernel_rfl) (by kernel_rfl) (by kernel_rfl) (fun _ _ _ h => h) (Or.inl ⟨by kernel_rfl, ?_⟩) hHeld ?_
            rotate_left
            · intro w' hSw
              (try dsimp only at hSw)
              (try simp only [List.getElem_toArray]); (try simp only [List.getElem_cons_succ]); (try simp only [List.getElem_cons_zero])
              go_simp
              try with_reducible rfl
            (try simp only [Act.put]); (try simp only [List.getElem_toArray]); (try simp only [List.getElem_cons_succ]); (try simp only [List.getElem_cons_zero]); (try simp only [List.setIfInBounds_toArray]); (try simp only [List.set_cons_succ]); (try simp only [List.set_cons_zero])
            refine wpAnyH_take (i := 9) (v := ?_) rfl (by kernel_rfl) (by kernel_rfl) (by kernel_rfl) (fun _ _ _ h => h) (Or.inl ⟨by kernel_rfl, ?_⟩) hHeld ?_
            rotate_left
            · intro w' hSw
              (try dsimp only at hSw)
              (try simp only [List.getElem_toArray]); (try simp only [List.getElem_cons_succ]); (try simp only [List.getElem_cons_zero])
              go_simp
              try with_reducible rfl
            (try simp only [Act.put]); (try simp only [List.getElem_toArray]); (try simp only [List.getElem_cons_succ]); (try simp only [List.getElem_cons_zero]); (try simp only [List.setIfInBounds_toArray]); (try simp only [List.set_cons_succ]); (try simp only [List.set_cons_zero])
            refine wpAnyH_ready (rs := [10]) (by kernel_rfl) (by simp) ?_
            refine AllReadyH.cons rfl (fun K hK => ?_) AllReadyH.nil
            rw [if_pos (by kernel_rfl)]
            go_simp
            go_fit (sPair_c wd x _ _ hGd ryd)
            rintro e w5 ⟨rfl, k5⟩
            go_wp2_with fail
            have h81 := row8d.lt
            have h71 : c12 < wd.heap.size := by omega
            refine hK.out _ _ (⟨(k5.cell (p := ⟨cN, 0, none⟩) h81 id).trans hHeld.1, (k5.cell (p := ⟨c12, 0, none⟩) h71 id).trans hHeld.2.1, (k5.cell (p := ⟨W.heap.size, 0, none⟩) hWW id).trans hHeld.2.2.1, (k5.cell (p := ⟨W.heap.size, 1, none⟩) hWW id).trans hHeld.2.2.2.1, (k5.cell (p := ⟨W.heap.size, 2, none⟩) hWW id).trans hHeld.2.2.2.2.1, (k5.cell (p := ⟨b, o + k * 3, none⟩) hbd id).trans hHeld.2.2.2.2.2.1, (k5.cell (p := ⟨b, o + k * 3 + 1, none⟩) hbd id).trans hHeld.2.2.2.2.2.2.1, (k5.cell (p := ⟨b, o + k * 3 + 2, none⟩) hbd id).trans hHeld.2.2.2.2.2.2.2⟩) (fun hHeld => ?_)
            clear hK K
            (try simp only [Act.put]); (try simp only [List.getElem_toArray]); (try simp only [List.getElem_cons_succ]); (try simp only [List.getElem_cons_zero]); (try simp only [List.setIfInBounds_toArray]); (try simp only [List.set_cons_succ]); (try simp only [List.set_cons_zero])
            refine wpAnyH_take (i := 11) (v := ?_) rfl (by kernel_rfl) (by kernel_rfl) (by kernel_rfl) (fun _ _ _ h => h) (Or.inl ⟨by kernel_rfl, ?_⟩) hHeld ?_
            rotate_left
            · intro w' hSw
              (try dsimp only at hSw)
              (try simp only [List.getElem_toArray]); (try simp only [List.getElem_cons_succ]); (try simp only [List.getElem_cons_zero])
              go_simp
              try with_reducible rfl
            (try simp only [Act.put]); (try simp only [List.getElem_toArray]); (try simp only [List.getElem_cons_succ]); (try simp only [List.getElem_cons_zero]); (try simp only [List.setIfInBounds_toArray]); (try simp only [List.set_cons_succ]); (try simp only [List.set_cons_zero])
            refine wpAnyH_take (i := 12) (v := ?_) rfl (by kernel_rfl) (by kernel_rfl) (by kernel_rfl) (fun _ _ _ h => h) (Or.inl ⟨by kernel_rfl, ?_⟩) hHeld ?_
            rotate_left
            · intro w' hSw
              (try dsimp only at hSw)
              (try simp only [List.getElem_toArray]); (try simp only [List.getElem_cons_succ]); (try simp only [List.getElem_cons_zero])
              go_simp
              try with_reducible rfl
            (try simp only [Act.put]); (try simp only [List.getElem_toArray]); (try simp only [List.getElem_cons_succ]); (try simp only [List.getElem_cons_zero]); (try simp only [List.setIfInBounds_toArray]); (try simp only [List.set_cons_succ]); (try simp only [List.set_cons_zero])
            refine wpAnyH_done (by kernel_rfl) ?_ _
            clear hHeld hGd ryd
            have row8e := row8d.keep k5 id
            have k8e := k8.trans k5.nix
            have kFe := kF0.trans k5
            clear row8d k8 kF0 k5 kd
            refine wpIn_cond_false rfl (wpIn_skip ?_)
            change Code.wpIn _ _ _ _ _ _ _
            have n0 := row8e.cell 0
            have nf := row8e.frozen 0
            (try simp only [List.getElem?_cons_zero] at n0)
            refine wpIn_seq (region_in (by kernel_rfl) (fun _ _ h => h) ?_)
            go_wp2_with fail
            clear n0 nf
            have kS : Keep (· = cN) w5 (w5.setCell ⟨cN, 0, none⟩ (.int .i64 ((k : Int) + 1))) := (Keep.refl (· = cN) w5).setCell (p := ⟨cN, 0, none⟩) (fun _ => rfl) _
            have row8f : RowIs (w5.setCell ⟨cN, 0, none⟩ (.int .i64 ((k : Int) + 1))) cN 3 [.int .i64 ((k : Int) + 1)] := row8e.set 0 (.int .i64 ((k : Int) + 1))
            have k8f := k8e.trans kS
            have kFf : Keep (Free wA.heap.size w3.heap.size w4.heap.size) W2 (w5.setCell ⟨cN, 0, none⟩ (.int .i64 ((k : Int) + 1))) := kFe.nix.trans (kS.mono (fun b (h : b = cN) => ⟨by omega, by omega, by omega⟩))
            clear row8e k8e kFe kS
            generalize w5.setCell ⟨cN, 0, none⟩ (.int .i64 ((k : Int) + 1)) = w9 at *
            have n0 := row8f.cell 0
            have t0 := (rowTa.keep k8f (by omega)).cell 0
            (try simp only [List.getElem?_cons_zero] at n0 t0)
            refine wpIn_seq (region_in (by kernel_rfl) (fun _ _ h => h) ?_)
            by_cases hst : k + 1 = sv
            · have heq : (((k : Int) + 1) == (sv : Int)) = true := by simp only [beq_iff_eq]; omega
              go_wp2_with fail
              refine wpIn_cond_true rfl ?_
              refine wpIn_exit ?_
              have hC : CntI cN wA (fun k => (k : Int)) (k + 1) w9 := ⟨row8f, k8f⟩
              rw [hst] at hC
              have hF : Keep (Free wA.heap.size w3.heap.size w4.heap.size) W2 w9 ∧ (Code.exit 4 = Code.exit 4 ∧ sv ≠ 0 ∧ sv ≤ ys.length ∧ CntI cN wA (fun k => (k : Int)) sv w9) := ⟨kFf, rfl, by omega, by omega, hC⟩
              exact hF
            · have heq : (((k : Int) + 1) == (sv : Int)) = false := by simp only [beq_eq_false_iff_ne]; omega
              go_wp2_with fail
              refine wpIn_cond_false rfl (wpIn_skip ?_)
              exact ⟨kFf, ⟨row8f, k8f⟩, by omega⟩
          case fin =>
            rintro Wz ⟨n, ⟨rowNz, kz⟩, hn⟩ hK
            replace rowNz : RowIs Wz cN 3 [.int .i64 (n : Int)] := rowNz
            have rowT := rowTa.keep kz (by omega)
            have rowB := rowBa.keep kz (by omega)
            have row12 := row12a.keep kz (by omega)
            have hP := Lib.hid ((rList_lawful rGPair_lawful).keep hPa.out kz (fun b hb e => by omega))
            have HT := HTa.later (kz.mono (T := Off w3.heap.size w4.heap.size) (fun b hb => by intro h; omega))
            have kk := kka.then kz (fun i hi e => by have := HC0.out; omega)
            have hzs := kz.size
            have hqz : w6.heap.size ≤ Wz.heap.size := by omega
            have n0 := rowNz.cell 0
            have t0 := rowT.cell 0
            have s0 := row12.cell 0
            (try simp only [List.getElem?_cons_zero] at n0 t0 s0)
            have hmx : max (sv : Int) 0 = (sv : Int) := by omega
            have hKb := (kz.block D1 (by omega) (by omega)).trans hKa
            clear rowTa rowBa row12a hPa HTa kka rowN rowNz kz
            rcases (show (sv < ys.length ∧ n = sv) ∨ (ys.length ≤ sv ∧ n = ys.length) ∨ (sv < ys.length ∧ sv = 0 ∧ n = ys.length ∧ n ≠ sv) by omega) with ⟨hlv, hns⟩ | ⟨hlv, hnl⟩ | ⟨hlv, hs0, hnl, hn0⟩
            · have hne : ((n : Int) != (sv : Int)) = false := by simp [hns]
              clear hn hns
              have b0 := rowB.cell 0
              (try simp only [List.getElem?_cons_zero] at b0)
              have bf := rowB.frozen 0
              go_wp2_with fail
              rw [rounds_succ]
              go_wp2_with fail
              have rowE : RowIs (Wz.setCell ⟨c0 + 1 + 1 + 1, 0, none⟩ (.bool true)) (c0 + 1 + 1 + 1) 4 [.bool true] := rowB.set 0 (.bool true)
              have kS : Keep (· = c0 + 1 + 1 + 1) Wz (Wz.setCell ⟨c0 + 1 + 1 + 1, 0, none⟩ (.bool true)) := (Keep.refl (· = c0 + 1 + 1 + 1) Wz).setCell (p := ⟨c0 + 1 + 1 + 1, 0, none⟩) (fun _ => rfl) _
              have hK2s := (kS.block wA.heap.size (Array.getElem?_eq_some_iff.1 hK).1 (by omega)).trans hK
              have hK1s := (kS.block D1 (Array.getElem?_eq_some_iff.1 hKb).1 (by omega)).trans hKb
              generalize Wz.setCell ⟨c0 + 1 + 1 + 1, 0, none⟩ (.bool true) = wz at *
              have kp1 := Keep.put wz wA.heap.size (.deferred none)
              have hK1t := (kp1.block D1 (Array.getElem?_eq_some_iff.1 hK1s).1 (by omega)).trans hK1s
              have kp2 := Keep.put (wz.putObj wA.heap.size (.deferred none)) D1 (.deferred none)
              have rowZ := (rowE.keep kp1 (by omega)).keep kp2 (by omega)
              have hC0 := HC0.out
              refine ⟨by simp, .inl ⟨_, _, rfl, run_takeDeferred hK2s, by simp, .inl ⟨_, _, rfl, run_takeDeferred hK1t, ?_⟩⟩⟩
              exact ⟨_, results_cell_bool rfl _ _ (c0 + 1 + 1 + 1) _ rfl Try.underlying4 (rowZ.cell 0), rfl, ((kk.then kS (fun i hi e => by omega)).then kp1 (fun i hi e => by omega)).then kp2 (fun i hi e => by omega)⟩
            · have hlv2 : ¬ sv < ys.length := by omega
              have hne : ((n : Int) != (ys.length : Int)) = false := by simp [hnl]
              clear hn hnl
              have b0 := rowB.cell 0
              (try simp only [List.getElem?_cons_zero] at b0)
              have bf := rowB.frozen 0
              go_wp2_with fail
              rw [rounds_succ]
              go_wp2_with fail
              have rowE : RowIs (Wz.setCell ⟨c0 + 1 + 1 + 1, 0, none⟩ (.bool true)) (c0 + 1 + 1 + 1) 4 [.bool true] := rowB.set 0 (.bool true)
              have kS : Keep (· = c0 + 1 + 1 + 1) Wz (Wz.setCell ⟨c0 + 1 + 1 + 1, 0, none⟩ (.bool true)) := (Keep.refl (· = c0 + 1 + 1 + 1) Wz).setCell (p := ⟨c0 + 1 + 1 + 1, 0, none⟩) (fun _ => rfl) _
              have hK2s := (kS.block wA.heap.size (Array.getElem?_eq_some_iff.1 hK).1 (by omega)).trans hK
              have hK1s := (kS.block D1 (Array.getElem?_eq_some_iff.1 hKb).1 (by omega)).trans hKb
              generalize Wz.setCell ⟨c0 + 1 + 1 + 1, 0, none⟩ (.bool true) = wz at *
              have kp1 := Keep.put wz wA.heap.size (.deferred none)
              have hK1t := (kp1.block D1 (Array.getElem?_eq_some_iff.1 hK1s).1 (by omega)).trans hK1s
              have kp2 := Keep.put (wz.putObj wA.heap.size (.deferred none)) D1 (.deferred none)
              have rowZ := (rowE.keep kp1 (by omega)).keep kp2 (by omega)
              have hC0 := HC0.out
              refine ⟨by simp, .inl ⟨_, _, rfl, run_takeDeferred hK2s, by simp, .inl ⟨_, _, rfl, run_takeDeferred hK1t, ?_⟩⟩⟩
              exact ⟨_, results_cell_bool rfl _ _ (c0 + 1 + 1 + 1) _ rfl Try.underlying4 (rowZ.cell 0), rfl, ((kk.then kS (fun i hi e => by omega)).then kp1 (fun i hi e => by omega)).then kp2 (fun i hi e => by omega)⟩
            · have hne0 : ((n : Int) != (sv : Int)) = true := by simp only [bne_iff_ne]; omega
              have hsz : ((sv : Int) != 0) = false := by simp [hs0]
              have hne : ((n : Int) != (ys.length : Int)) = false := by simp [hnl]
              clear hn hs0 hnl hn0
              have b0 := rowB.cell 0
              (try simp only [List.getElem?_cons_zero] at b0)
              have bf := rowB.frozen 0
              go_wp2_with fail
              rw [rounds_succ]
              go_wp2_with fail
              have rowE : RowIs (Wz.setCell ⟨c0 + 1 + 1 + 1, 0, none⟩ (.bool true)) (c0 + 1 + 1 + 1) 4 [.bool true] := rowB.set 0 (.bool true)
              have kS : Keep (· = c0 + 1 + 1 + 1) Wz (Wz.setCell ⟨c0 + 1 + 1 + 1, 0, none⟩ (.bool true)) := (Keep.refl (· = c0 + 1 + 1 + 1) Wz).setCell (p := ⟨c0 + 1 + 1 + 1, 0, none⟩) (fun _ => rfl) _
              have hK2s := (kS.block wA.heap.size (Array.getElem?_eq_some_iff.1 hK).1 (by omega)).trans hK
              have hK1s := (kS.block D1 (Array.getElem?_eq_some_iff.1 hKb).1 (by omega)).trans hKb
              generalize Wz.setCell ⟨c0 + 1 + 1 + 1, 0, none⟩ (.bool true) = wz at *
              have kp1 := Keep.put wz wA.heap.size (.deferred none)
              have hK1t := (kp1.block D1 (Array.getElem?_eq_some_iff.1 hK1s).1 (by omega)).trans hK1s
              have kp2 := Keep.put (wz.putObj wA.heap.size (.deferred none)) D1 (.deferred none)
              have rowZ := (rowE.keep kp1 (by omega)).keep kp2 (by omega)
              have hC0 := HC0.out
              refine ⟨by simp, .inl ⟨_, _, rfl, run_takeDeferred hK2s, by simp, .inl ⟨_, _, rfl, run_takeDeferred hK1t, ?_⟩⟩⟩
              exact ⟨_, results_cell_bool rfl _ _ (c0 + 1 + 1 + 1) _ rfl Try.underlying4 (rowZ.cell 0), rfl, ((kk.then kS (fun i hi e => by omega)).then kp1 (fun i hi e => by omega)).then kp2 (fun i hi e => by omega)⟩
        · have hlv2 : ¬ sv < ys.length := by omega
          have hne : ((n : Int) != (ys.length : Int)) = false := by simp [hnl]
          clear hn hnl
          go_wp2_with fail
          have hD6 : w6.heap.size ≤ wA.heap.size := by omega
          obtain ⟨D1, hD1⟩ : ∃ d, wA.heap.size = d := ⟨_, rfl⟩
          rw [hD1] at hK hD6 ⊢
          have hDz : D1 < Wz.heap.size := (Array.getElem?_eq_some_iff.1 hK).1
          have HK1 := Lib.hid hK
          clear hD1 hK HsA hcNA hn2A hzs n0 t0 s0 hmx hne hlv
          (try clear hsz)
          (try clear hne0)
          (try clear hlv2)
          clear hs67
          have hs67 := hqz
          clear hqz
          rw [rounds_succ]
          go_upto_region 19 with fail
          have kA : Keep Nix Wz (Wz.alloc (.cells #[.int .i64 0] 3)) := (Keep.refl Nix Wz).alloc _
          have rowN := RowIs.alloc Wz #[.int .i64 0] 3
          have hsA : (Wz.alloc (.cells #[.int .i64 0] 3)).heap.size = Wz.heap.size + 1 := World.size_alloc ..
          have rowTa := rowT.keep kA id
          have rowBa := rowB.keep kA id
          have row12a := row12.keep kA id
          have hPa := Lib.hid ((rList_lawful rGPair_lawful).nix hP.out kA)
          have HTa := HT.later kA.nix
          have kka := kk.trans kA
          have hKa := (kA.block D1 hDz id).trans HK1.out
          clear rowT rowB row12 hP HT kk kA
          generalize Wz.alloc (.cells #[.int .i64 0] 3) = wA at *
          obtain ⟨cN, hcN⟩ : ∃ c, Wz.heap.size = c := ⟨_, rfl⟩
          have hDN : D1 < cN := by rw [← hcN]; exact hDz
          rw [hcN] at rowN hsA hs67 ⊢
          clear hcN
          have hcNA : cN < wA.heap.size := by omega
          have hn2A : w4.heap.size ≤ wA.heap.size := by omega
          have HsA := Lib.hid hsA
          clear hsA
          go_wp2_with fail
          refine range_fin 4 (xs := ys) rfl (enters_of Try.func37 (by kernel_rfl) rfl) HTa hn2A (fun k W => CntI cN wA (fun k => (k : Int)) k W ∧ (sv = 0 ∨ k < sv)) (fun c W => c = .exit 4 ∧ sv ≠ 0 ∧ sv ≤ ys.length ∧ CntI cN wA (fun k => (k : Int)) sv W) (fun W => ∃ n : Nat, CntI cN wA (fun k => (k : Int)) n W ∧ (n = ys.length ∧ (sv = 0 ∨ n < sv) ∨ n = sv ∧ sv ≠ 0 ∧ n ≤ ys.length)) (fun k A B h kk => ⟨cntI_keep h.1 kk rfl hcNA, h.2⟩) (fun c A B h kk => ⟨h.1, h.2.1, h.2.2.1, cntI_keep h.2.2.2 kk rfl hcNA⟩) ⟨⟨rowN, Keep.refl _ _⟩, by omega⟩ (fun _ _ h => h) (fun W h => ⟨_, h.1, .inl ⟨rfl, h.2⟩⟩) (fun c W h => ⟨h.1, _, h.2.2.2, .inr ⟨rfl, h.2.1, h.2.2.1⟩⟩) ?round ?fin
          case round =>
            rintro k hk cn Wp W ⟨⟨row8p, k8p⟩, hkv⟩ kN hszp hcnp
            obtain ⟨x, hx⟩ : ∃ x, ys[k] = x := ⟨_, rfl⟩
            have hcnx : OwnP W Wp.heap.size cn x := by rw [← hx]; exact hcnp
            have HX := Lib.hid hx
            have hcn := hcnx
            obtain ⟨aK, cK, aV, cV, rfl, -, -, -, -, -, -⟩ := hcn
            refine region_in (by kernel_rfl) (fun _ _ h => h) ?_
            have kP : Keep Nix W (W.alloc (.cells #[.slice aK x.fKey.length cK, .slice aV x.fValue.length cV, .int .i64 x.fVersion] 29)) := (Keep.refl Nix W).alloc _
            have rowP := RowIs.alloc W #[.slice aK x.fKey.length cK, .slice aV x.fValue.length cV, .int .i64 x.fVersion] 29
            clear hcnp
            go_wp2_with fail
            refine ⟨kP.nix, fun W2 k2 hs22 => ?_⟩
            clear hs22
            have hNs := kN.size
            have hPs := kP.size
            have hk2s := k2.size
            have kBk : Keep (Book wA.heap.size) Wp W2 := (kN.trans kP).nix.trans (k2.mono (fun b hb => .inr hb))
            have hbk : ∀ b, Book wA.heap.size b → b < wA.heap.size + 2 ∧ wA.heap.size ≤ b := fun b hb => by rcases hb with h | h <;> omega
            replace row8p := row8p.keep kBk (fun h => by have := hbk _ h; omega)
            have k8 := k8p.then kBk (fun i hi h => by have := hbk i h; omega)
            have k2' : Keep (Book wA.heap.size) W W2 := kP.nix.trans (k2.mono (fun b hb => .inr hb))
            have hG := rGPair_lawful.keep hcnx.gp k2' (fun b hb h => by have := hbk b h; have := hb.1; omega)
            have hPL := (rList_lawful rGPair_lawful).keep hPa.out k8 (fun b hb h => by omega)
            obtain ⟨b, o, pK, cPK, pV, cPV, rfl, hbw, hbc, ry, y0, y1, y2⟩ := at_pair hPL k hk
            rw [HX.out] at ry y0 y1 y2
            have s0 := (row12a.keep k8 (by omega)).cell 0
            (try simp only [List.getElem?_cons_zero] at s0)
            replace rowP := rowP.keep k2 (by omega)
            have p0 := rowP.cell 0
            (try simp only [List.getElem?_cons_zero] at p0)
            have p1 := rowP.cell 1
            (try simp only [List.getElem?_cons_succ] at p1); (try simp only [List.getElem?_cons_zero] at p1)
            have p2 := rowP.cell 2
            (try simp only [List.getElem?_cons_succ] at p2); (try simp only [List.getElem?_cons_zero] at p2)
            have hWW2 : W.heap.size < W2.heap.size := rowP.lt
            clear kBk k2' k2 kP kN hx hcnx hPL
            replace row8p : RowIs W2 cN 3 [.int .i64 (k : Int)] := row8p
            have n0 := row8p.cell 0
            (try simp only [List.getElem?_cons_zero] at n0)
            have hck : (k : Int) < (ys.length : Int) := by omega
            have hck2 : ¬ (ys.length : Int) ≤ (k : Int) := by omega
            have hki0 : (0 : Int) ≤ (k : Int) := by omega
            refine wpIn_block (wpIn_seq (wpIn_seq ?_))
            have kd : Keep Nix W2 W2.drew := (Keep.refl Nix W2).drew
            refine region_in_held (S := (fun w' => w'.cell? ⟨cN, 0, none⟩ = some (.int .i64 (k : Int)) ∧ w'.cell? ⟨c12, 0, none⟩ = some (.slice (some ⟨b, o, none⟩) ys.length cP) ∧ w'.cell? ⟨W.heap.size, 0, none⟩ = some (.slice aK x.fKey.length cK) ∧ w'.cell? ⟨W.heap.size, 1, none⟩ = some (.slice aV x.fValue.length cV) ∧ w'.cell? ⟨W.heap.size, 2, none⟩ = some (.int .i64 x.fVersion) ∧ w'.cell? ⟨b, o + k * 3, none⟩ = some (.slice pK x.fKey.length cPK) ∧ w'.cell? ⟨b, o + k * 3 + 1, none⟩ = some (.slice pV x.fValue.length cPV) ∧ w'.cell? ⟨b, o + k * 3 + 2, none⟩ = some (.int .i64 x.fVersion))) (by kernel_rfl) (by exact fun _ _ h => h) (by kernel_rfl) (⟨n0, s0, p0, p1, p2, y0, y1, y2⟩) (fun hHeld => ?_)
            clear n0 s0 p0 p1 p2 y0 y1 y2
            have hGd := rGPair_lawful.nix hG kd
            have ryd := rGPair_lawful.nix ry kd
            have row8d := row8p.keep kd id
            have hWW := Nat.lt_of_lt_of_le hWW2 kd.size
            have hbd : b < W2.drew.heap.size := Nat.lt_of_lt_of_le (rList_lt hPa.out hk) (Nat.le_trans k8.size kd.size)
            replace k8 := k8.trans kd.nix
            clear hG ry rowP row8p hWW2
            have kF0 : Keep Nix W2 W2.drew := kd
            generalize hWd : W2.drew = wd at *
            refine wpAnyH_take (i := 0) (v := ?_) rfl (by kernel_rfl) (by kernel_rfl) (by kernel_rfl) (fun _ _ _ h => h) (Or.inl ⟨by kernel_rfl, ?_⟩) hHeld ?_
            rotate_left
            · intro w' hSw
              (try dsimp only at hSw)
              (try simp only [List.getElem_toArray]); (try simp only [List.getElem_cons_succ]); (try simp only [List.getElem_cons_zero])
              go_simp
              try with_reducible rfl
            (try simp only [Act.put]); (try simp only [List.getElem_toArray]); (try simp only [List.getElem_cons_succ]); (try simp only [List.getElem_cons_zero]); (try simp only [List.setIfInBounds_toArray]); (try simp only [List.set_cons_succ]); (try simp only [List.set_cons_zero])
            refine wpAnyH_take (i := 1) (v := ?_) rfl (by kernel_rfl) (by kernel_rfl) (by kernel_rfl) (fun _ _ _ h => h) (Or.inl ⟨by kernel_rfl, ?_⟩) hHeld ?_
            rotate_left
            · intro w' hSw
              (try dsimp only at hSw)
              (try simp only [List.getElem_toArray]); (try simp only [List.getElem_cons_succ]); (try simp only [List.getElem_cons_zero])
              go_simp
              try with_reducible rfl
            (try simp only [Act.put]); (try simp only [List.getElem_toArray]); (try simp only [List.getElem_cons_succ]); (try simp only [List.getElem_cons_zero]); (try simp only [List.setIfInBounds_toArray]); (try simp only [List.set_cons_succ]); (try simp only [List.set_cons_zero])
            refine wpAnyH_take (i := 2) (v := ?_) rfl (by kernel_rfl) (by kernel_rfl) (by kernel_rfl) (fun _ _ _ h => h) (Or.inl ⟨by kernel_rfl, ?_⟩) hHeld ?_
            rotate_left
            · intro w' hSw
              (try dsimp only at hSw)
              (try simp only [List.getElem_toArray]); (try simp only [List.getElem_cons_succ]); (try simp only [List.getElem_cons_zero])
              go_simp
              try with_reducible rfl
            (try simp only [Act.put]); (try simp only [List.getElem_toArray]); (try simp only [List.getElem_cons_succ]); (try simp only [List.getElem_cons_zero]); (try simp only [List.setIfInBounds_toArray]); (try simp only [List.set_cons_succ]); (try simp only [List.set_cons_zero])
            refine wpAnyH_take (i := 3) (v := ?_) rfl (by kernel_rfl) (by kernel_rfl) (by kernel_rfl) (fun _ _ _ h => h) (Or.inl ⟨by kernel_rfl, ?_⟩) hHeld ?_
            rotate_left
            · intro w' hSw
              (try dsimp only at hSw)
              (try simp only [List.getElem_toArray]); (try simp only [List.getElem_cons_succ]); (try simp only [List.getElem_cons_zero])
              go_simp
              try with_reducible rfl
            (try simp only [Act.put]); (try simp only [List.getElem_toArray]); (try simp only [List.getElem_cons_succ]); (try simp only [List.getElem_cons_zero]); (try simp only [List.setIfInBounds_toArray]); (try simp only [List.set_cons_succ]); (try simp only [List.set_cons_zero])
            refine wpAnyH_take (i := 4) (v := ?_) rfl (by kernel_rfl) (by kernel_rfl) (by kernel_rfl) (fun _ _ _ h => h) (Or.inl ⟨by kernel_rfl, ?_⟩) hHeld ?_
            rotate_left
            · intro w' hSw
              (try dsimp only at hSw)
              (try simp only [List.getElem_toArray]); (try simp only [List.getElem_cons_succ]); (try simp only [List.getElem_cons_zero])
              go_simp
              try with_reducible rfl
            (try simp only [Act.put]); (try simp only [List.getElem_toArray]); (try simp only [List.getElem_cons_succ]); (try simp only [List.getElem_cons_zero]); (try simp only [List.setIfInBounds_toArray]); (try simp only [List.set_cons_succ]); (try simp only [List.set_cons_zero])
            refine wpAnyH_take (i := 5) (v := ?_) rfl (by kernel_rfl) (by kernel_rfl) (by kernel_rfl) (fun _ _ _ h => h) (Or.inl ⟨by kernel_rfl, ?_⟩) hHeld ?_
            rotate_left
            · intro w' hSw
              (try dsimp only at hSw)
              (try simp only [List.getElem_toArray]); (try simp only [List.getElem_cons_succ]); (try simp only [List.getElem_cons_zero])
              go_simp
              try with_reducible rfl
            (try simp only [Act.put]); (try simp only [List.getElem_toArray]); (try simp only [List.getElem_cons_succ]); (try simp only [List.getElem_cons_zero]); (try simp only [List.setIfInBounds_toArray]); (try simp only [List.set_cons_succ]); (try simp only [List.set_cons_zero])
            refine wpAnyH_take (i := 6) (v := ?_) rfl (by kernel_rfl) (by kernel_rfl) (by kernel_rfl) (fun _ _ _ h => h) (Or.inl ⟨by kernel_rfl, ?_⟩) hHeld ?_
            rotate_left
            · intro w' hSw
              (try dsimp only at hSw)
              (try simp only [List.getElem_toArray]); (try simp only [List.getElem_cons_succ]); (try simp only [List.getElem_cons_zero])
              go_simp
              try with_reducible rfl
            (try simp only [Act.put]); (try simp only [List.getElem_toArray]); (try simp only [List.getElem_cons_succ]); (try simp only [List.getElem_cons_zero]); (try simp only [List.setIfInBounds_toArray]); (try simp only [List.set_cons_succ]); (try simp only [List.set_cons_zero])
            refine wpAnyH_take (i := 7) (v := ?_) rfl (by kernel_rfl) (by kernel_rfl) (by kernel_rfl) (fun _ _ _ h => h) (Or.inl ⟨by kernel_rfl, ?_⟩) hHeld ?_
            rotate_left
            · intro w' hSw
              (try dsimp only at hSw)
              (try simp only [List.getElem_toArray]); (try simp only [List.getElem_cons_succ]); (try simp only [List.getElem_cons_zero])
              go_simp
              try with_reducible rfl
            (try simp only [Act.put]); (try simp only [List.getElem_toArray]); (try simp only [List.getElem_cons_succ]); (try simp only [List.getElem_cons_zero]); (try simp only [List.setIfInBounds_toArray]); (try simp only [List.set_cons_succ]); (try simp only [List.set_cons_zero])
            refine wpAnyH_take (i := 8) (v := ?_) rfl (by kernel_rfl) (by kernel_rfl) (by kernel_rfl) (fun _ _ _ h => h) (Or.inl ⟨by kernel_rfl, ?_⟩) hHeld ?_
            rotate_left
            · intro w' hSw
              (try dsimp only at hSw)
              (try simp only [List.getElem_toArray]); (try simp only [List.getElem_cons_succ]); (try simp only [List.getElem_cons_zero])
              go_simp
              try with_reducible rfl
            (try simp only [Act.put]); (try simp only [List.getElem_toArray]); (try simp only [List.getElem_cons_succ]); (try simp only [List.getElem_cons_zero]); (try simp only [List.setIfInBounds_toArray]); (try simp only [List.set_cons_succ]); (try simp only [List.set_cons_zero])
            refine wpAnyH_take (i := 9) (v := ?_) rfl (by kernel_rfl) (by kernel_rfl) (by kernel_rfl) (fun _ _ _ h => h) (Or.inl ⟨by kernel_rfl, ?_⟩) hHeld ?_
            rotate_left
            · intro w' hSw
              (try dsimp only at hSw)
              (try simp only [List.getElem_toArray]); (try simp only [List.getElem_cons_succ]); (try simp only [List.getElem_cons_zero])
              go_simp
              try with_reducible rfl
            (try simp only [Act.put]); (try simp only [List.getElem_toArray]); (try simp only [List.getElem_cons_succ]); (try simp only [List.getElem_cons_zero]); (try simp only [List.setIfInBounds_toArray]); (try simp only [List.set_cons_succ]); (try simp only [List.set_cons_zero])
            refine wpAnyH_ready (rs := [10]) (by kernel_rfl) (by simp) ?_
            refine AllReadyH.cons rfl (fun K hK => ?_) AllReadyH.nil
            rw [if_pos (by kernel_rfl)]
            go_simp
            go_fit (sPair_c wd x _ _ hGd ryd)
            rintro e w5 ⟨rfl, k5⟩
            go_wp2_with fail
            have h81 := row8d.lt
            have h71 : c12 < wd.heap.size := by omega
            refine hK.out _ _ (⟨(k5.cell (p := ⟨cN, 0, none⟩) h81 id).trans hHeld.1, (k5.cell (p := ⟨c12, 0, none⟩) h71 id).trans hHeld.2.1, (k5.cell (p := ⟨W.heap.size, 0, none⟩) hWW id).trans hHeld.2.2.1, (k5.cell (p := ⟨W.heap.size, 1, none⟩) hWW id).trans hHeld.2.2.2.1, (k5.cell (p := ⟨W.heap.size, 2, none⟩) hWW id).trans hHeld.2.2.2.2.1, (k5.cell (p := ⟨b, o + k * 3, none⟩) hbd id).trans hHeld.2.2.2.2.2.1, (k5.cell (p := ⟨b, o + k * 3 + 1, none⟩) hbd id).trans hHeld.2.2.2.2.2.2.1, (k5.cell (p := ⟨b, o + k * 3 + 2, none⟩) hbd id).trans hHeld.2.2.2.2.2.2.2⟩) (fun hHeld => ?_)
            clear hK K
            (try simp only [Act.put]); (try simp only [List.getElem_toArray]); (try simp only [List.getElem_cons_succ]); (try simp only [List.getElem_cons_zero]); (try simp only [List.setIfInBounds_toArray]); (try simp only [List.set_cons_succ]); (try simp only [List.set_cons_zero])
            refine wpAnyH_take (i := 11) (v := ?_) rfl (by kernel_rfl) (by kernel_rfl) (by kernel_rfl) (fun _ _ _ h => h) (Or.inl ⟨by kernel_rfl, ?_⟩) hHeld ?_
            rotate_left
            · intro w' hSw
              (try dsimp only at hSw)
              (try simp only [List.getElem_toArray]); (try simp only [List.getElem_cons_succ]); (try simp only [List.getElem_cons_zero])
              go_simp
              try with_reducible rfl
            (try simp only [Act.put]); (try simp only [List.getElem_toArray]); (try simp only [List.getElem_cons_succ]); (try simp only [List.getElem_cons_zero]); (try simp only [List.setIfInBounds_toArray]); (try simp only [List.set_cons_succ]); (try simp only [List.set_cons_zero])
            refine wpAnyH_take (i := 12) (v := ?_) rfl (by kernel_rfl) (by kernel_rfl) (by kernel_rfl) (fun _ _ _ h => h) (Or.inl ⟨by kernel_rfl, ?_⟩) hHeld ?_
            rotate_left
            · intro w' hSw
              (try dsimp only at hSw)
              (try simp only [List.getElem_toArray]); (try simp only [List.getElem_cons_succ]); (try simp only [List.getElem_cons_zero])
              go_simp
              try with_reducible rfl
            (try simp only [Act.put]); (try simp only [List.getElem_toArray]); (try simp only [List.getElem_cons_succ]); (try simp only [List.getElem_cons_zero]); (try simp only [List.setIfInBounds_toArray]); (try simp only [List.set_cons_succ]); (try simp only [List.set_cons_zero])
            refine wpAnyH_done (by kernel_rfl) ?_ _
            clear hHeld hGd ryd
            have row8e := row8d.keep k5 id
            have k8e := k8.trans k5.nix
            have kFe := kF0.trans k5
            clear row8d k8 kF0 k5 kd
            refine wpIn_cond_false rfl (wpIn_skip ?_)
            change Code.wpIn _ _ _ _ _ _ _
            have n0 := row8e.cell 0
            have nf := row8e.frozen 0
            (try simp only [List.getElem?_cons_zero] at n0)
            refine wpIn_seq (region_in (by kernel_rfl) (fun _ _ h => h) ?_)
            go_wp2_with fail
            clear n0 nf
            have kS : Keep (· = cN) w5 (w5.setCell ⟨cN, 0, none⟩ (.int .i64 ((k : Int) + 1))) := (Keep.refl (· = cN) w5).setCell (p := ⟨cN, 0, none⟩) (fun _ => rfl) _
            have row8f : RowIs (w5.setCell ⟨cN, 0, none⟩ (.int .i64 ((k : Int) + 1))) cN 3 [.int .i64 ((k : Int) + 1)] := row8e.set 0 (.int .i64 ((k : Int) + 1))
            have k8f := k8e.trans kS
            have kFf : Keep (Free wA.heap.size w3.heap.size w4.heap.size) W2 (w5.setCell ⟨cN, 0, none⟩ (.int .i64 ((k : Int) + 1))) := kFe.nix.trans (kS.mono (fun b (h : b = cN) => ⟨by omega, by omega, by omega⟩))
            clear row8e k8e kFe kS
            generalize w5.setCell ⟨cN, 0, none⟩ (.int .i64 ((k : Int) + 1)) = w9 at *
            have n0 := row8f.cell 0
            have t0 := (rowTa.keep k8f (by omega)).cell 0
            (try simp only [List.getElem?_cons_zero] at n0 t0)
            refine wpIn_seq (region_in (by kernel_rfl) (fun _ _ h => h) ?_)
            by_cases hst : k + 1 = sv
            · have heq : (((k : Int) + 1) == (sv : Int)) = true := by simp only [beq_iff_eq]; omega
              go_wp2_with fail
              refine wpIn_cond_true rfl ?_
              refine wpIn_exit ?_
              have hC : CntI cN wA (fun k => (k : Int)) (k + 1) w9 := ⟨row8f, k8f⟩
              rw [hst] at hC
              have hF : Keep (Free wA.heap.size w3.heap.size w4.heap.size) W2 w9 ∧ (Code.exit 4 = Code.exit 4 ∧ sv ≠ 0 ∧ sv ≤ ys.length ∧ CntI cN wA (fun k => (k : Int)) sv w9) := ⟨kFf, rfl, by omega, by omega, hC⟩
              exact hF
            · have heq : (((k : Int) + 1) == (sv : Int)) = false := by simp only [beq_eq_false_iff_ne]; omega
              go_wp2_with fail
              refine wpIn_cond_false rfl (wpIn_skip ?_)
              exact ⟨kFf, ⟨row8f, k8f⟩, by omega⟩
          case fin =>
            rintro Wz ⟨n, ⟨rowNz, kz⟩, hn⟩ hK
            replace rowNz : RowIs Wz cN 3 [.int .i64 (n : Int)] := rowNz
            have rowT := rowTa.keep kz (by omega)
            have rowB := rowBa.keep kz (by omega)
            have row12 := row12a.keep kz (by omega)
            have hP := Lib.hid ((rList_lawful rGPair_lawful).keep hPa.out kz (fun b hb e => by omega))
            have HT := HTa.later (kz.mono (T := Off w3.heap.size w4.heap.size) (fun b hb => by intro h; omega))
            have kk := kka.then kz (fun i hi e => by have := HC0.out; omega)
            have hzs := kz.size
            have hqz : w6.heap.size ≤ Wz.heap.size := by omega
            have n0 := rowNz.cell 0
            have t0 := rowT.cell 0
            have s0 := row12.cell 0
            (try simp only [List.getElem?_cons_zero] at n0 t0 s0)
            have hmx : max (sv : Int) 0 = (sv : Int) := by omega
            have hKb := (kz.block D1 (by omega) (by omega)).trans hKa
            clear rowTa rowBa row12a hPa HTa kka rowN rowNz kz
            rcases (show (sv < ys.length ∧ n = sv) ∨ (ys.length ≤ sv ∧ n = ys.length) ∨ (sv < ys.length ∧ sv = 0 ∧ n = ys.length ∧ n ≠ sv) by omega) with ⟨hlv, hns⟩ | ⟨hlv, hnl⟩ | ⟨hlv, hs0, hnl, hn0⟩
            · have hne : ((n : Int) != (sv : Int)) = false := by simp [hns]
              clear hn hns
              have b0 := rowB.cell 0
              (try simp only [List.getElem?_cons_zero] at b0)
              have bf := rowB.frozen 0
              go_wp2_with fail
              rw [rounds_succ]
              go_wp2_with fail
              have rowE : RowIs (Wz.setCell ⟨c0 + 1 + 1 + 1, 0, none⟩ (.bool true)) (c0 + 1 + 1 + 1) 4 [.bool true] := rowB.set 0 (.bool true)
              have kS : Keep (· = c0 + 1 + 1 + 1) Wz (Wz.setCell ⟨c0 + 1 + 1 + 1, 0, none⟩ (.bool true)) := (Keep.refl (· = c0 + 1 + 1 + 1) Wz).setCell (p := ⟨c0 + 1 + 1 + 1, 0, none⟩) (fun _ => rfl) _
              have hK2s := (kS.block wA.heap.size (Array.getElem?_eq_some_iff.1 hK).1 (by omega)).trans hK
              have hK1s := (kS.block D1 (Array.getElem?_eq_some_iff.1 hKb).1 (by omega)).trans hKb
              generalize Wz.setCell ⟨c0 + 1 + 1 + 1, 0, none⟩ (.bool true) = wz at *
              have kp1 := Keep.put wz wA.heap.size (.deferred none)
              have hK1t := (kp1.block D1 (Array.getElem?_eq_some_iff.1 hK1s).1 (by omega)).trans hK1s
              have kp2 := Keep.put (wz.putObj wA.heap.size (.deferred none)) D1 (.deferred none)
              have rowZ := (rowE.keep kp1 (by omega)).keep kp2 (by omega)
              have hC0 := HC0.out
              refine ⟨by simp, .inl ⟨_, _, rfl, run_takeDeferred hK2s, by simp, .inl ⟨_, _, rfl, run_takeDeferred hK1t, ?_⟩⟩⟩
              exact ⟨_, results_cell_bool rfl _ _ (c0 + 1 + 1 + 1) _ rfl Try.underlying4 (rowZ.cell 0), rfl, ((kk.then kS (fun i hi e => by omega)).then kp1 (fun i hi e => by omega)).then kp2 (fun i hi e => by omega)⟩
            · have hlv2 : ¬ sv < ys.length := by omega
              have hne : ((n : Int) != (ys.length : Int)) = false := by simp [hnl]
              clear hn hnl
              have b0 := rowB.cell 0
              (try simp only [List.getElem?_cons_zero] at b0)
              have bf := rowB.frozen 0
              go_wp2_with fail
              rw [rounds_succ]
              go_wp2_with fail
              have rowE : RowIs (Wz.setCell ⟨c0 + 1 + 1 + 1, 0, none⟩ (.bool true)) (c0 + 1 + 1 + 1) 4 [.bool true] := rowB.set 0 (.bool true)
              have kS : Keep (· = c0 + 1 + 1 + 1) Wz (Wz.setCell ⟨c0 + 1 + 1 + 1, 0, none⟩ (.bool true)) := (Keep.refl (· = c0 + 1 + 1 + 1) Wz).setCell (p := ⟨c0 + 1 + 1 + 1, 0, none⟩) (fun _ => rfl) _
              have hK2s := (kS.block wA.heap.size (Array.getElem?_eq_some_iff.1 hK).1 (by omega)).trans hK
              have hK1s := (kS.block D1 (Array.getElem?_eq_some_iff.1 hKb).1 (by omega)).trans hKb
              generalize Wz.setCell ⟨c0 + 1 + 1 + 1, 0, none⟩ (.bool true) = wz at *
              have kp1 := Keep.put wz wA.heap.size (.deferred none)
              have hK1t := (kp1.block D1 (Array.getElem?_eq_some_iff.1 hK1s).1 (by omega)).trans hK1s
              have kp2 := Keep.put (wz.putObj wA.heap.size (.deferred none)) D1 (.deferred none)
              have rowZ := (rowE.keep kp1 (by omega)).keep kp2 (by omega)
              have hC0 := HC0.out
              refine ⟨by simp, .inl ⟨_, _, rfl, run_takeDeferred hK2s, by simp, .inl ⟨_, _, rfl, run_takeDeferred hK1t, ?_⟩⟩⟩
              exact ⟨_, results_cell_bool rfl _ _ (c0 + 1 + 1 + 1) _ rfl Try.underlying4 (rowZ.cell 0), rfl, ((kk.then kS (fun i hi e => by omega)).then kp1 (fun i hi e => by omega)).then kp2 (fun i hi e => by omega)⟩
            · have hne0 : ((n : Int) != (sv : Int)) = true := by simp only [bne_iff_ne]; omega
              have hsz : ((sv : Int) != 0) = false := by simp [hs0]
              have hne : ((n : Int) != (ys.length : Int)) = false := by simp [hnl]
              clear hn hs0 hnl hn0
              have b0 := rowB.cell 0
              (try simp only [List.getElem?_cons_zero] at b0)
              have bf := rowB.frozen 0
              go_wp2_with fail
              rw [rounds_succ]
              go_wp2_with fail
              have rowE : RowIs (Wz.setCell ⟨c0 + 1 + 1 + 1, 0, none⟩ (.bool true)) (c0 + 1 + 1 + 1) 4 [.bool true] := rowB.set 0 (.bool true)
              have kS : Keep (· = c0 + 1 + 1 + 1) Wz (Wz.setCell ⟨c0 + 1 + 1 + 1, 0, none⟩ (.bool true)) := (Keep.refl (· = c0 + 1 + 1 + 1) Wz).setCell (p := ⟨c0 + 1 + 1 + 1, 0, none⟩) (fun _ => rfl) _
              have hK2s := (kS.block wA.heap.size (Array.getElem?_eq_some_iff.1 hK).1 (by omega)).trans hK
              have hK1s := (kS.block D1 (Array.getElem?_eq_some_iff.1 hKb).1 (by omega)).trans hKb
              generalize Wz.setCell ⟨c0 + 1 + 1 + 1, 0, none⟩ (.bool true) = wz at *
              have kp1 := Keep.put wz wA.heap.size (.deferred none)
              have hK1t := (kp1.block D1 (Array.getElem?_eq_some_iff.1 hK1s).1 (by omega)).trans hK1s
              have kp2 := Keep.put (wz.putObj wA.heap.size (.deferred none)) D1 (.deferred none)
              have rowZ := (rowE.keep kp1 (by omega)).keep kp2 (by omega)
              have hC0 := HC0.out
              refine ⟨by simp, .inl ⟨_, _, rfl, run_takeDeferred hK2s, by simp, .inl ⟨_, _, rfl, run_takeDeferred hK1t, ?_⟩⟩⟩
              exact ⟨_, results_cell_bool rfl _ _ (c0 + 1 + 1 + 1) _ rfl Try.underlying4 (rowZ.cell 0), rfl, ((kk.then kS (fun i hi e => by omega)).then kp1 (fun i hi e => by omega)).then kp2 (fun i hi e => by omega)⟩
        · have hne0 : ((n : Int) != (sv : Int)) = true := by simp only [bne_iff_ne]; omega
          have hsz : ((sv : Int) != 0) = false := by simp [hs0]
          have hne : ((n : Int) != (ys.length : Int)) = false := by simp [hnl]
          clear hn hs0 hnl hn0
          go_wp2_with fail
          have hD6 : w6.heap.size ≤ wA.heap.size := by omega
          obtain ⟨D1, hD1⟩ : ∃ d, wA.heap.size = d := ⟨_, rfl⟩
          rw [hD1] at hK hD6 ⊢
          have hDz : D1 < Wz.heap.size := (Array.getElem?_eq_some_iff.1 hK).1
          have HK1 := Lib.hid hK
          clear hD1 hK HsA hcNA hn2A hzs n0 t0 s0 hmx hne hlv
          (try clear hsz)
          (try clear hne0)
          (try clear hlv2)
          clear hs67
          have hs67 := hqz
          clear hqz
          rw [rounds_succ]
          go_upto_region 19 with fail
          have kA : Keep Nix Wz (Wz.alloc (.cells #[.int .i64 0] 3)) := (Keep.refl Nix Wz).alloc _
          have rowN := RowIs.alloc Wz #[.int .i64 0] 3
          have hsA : (Wz.alloc (.cells #[.int .i64 0] 3)).heap.size = Wz.heap.size + 1 := World.size_alloc ..
          have rowTa := rowT.keep kA id
          have rowBa := rowB.keep kA id
          have row12a := row12.keep kA id
          have hPa := Lib.hid ((rList_lawful rGPair_lawful).nix hP.out kA)
          have HTa := HT.later kA.nix
          have kka := kk.trans kA
          have hKa := (kA.block D1 hDz id).trans HK1.out
          clear rowT rowB row12 hP HT kk kA
          generalize Wz.alloc (.cells #[.int .i64 0] 3) = wA at *
          obtain ⟨cN, hcN⟩ : ∃ c, Wz.heap.size = c := ⟨_, rfl⟩
          have hDN : D1 < cN := by rw [← hcN]; exact hDz
          rw [hcN] at rowN hsA hs67 ⊢
          clear hcN
          have hcNA : cN < wA.heap.size := by omega
          have hn2A : w4.heap.size ≤ wA.heap.size := by omega
          have HsA := Lib.hid hsA
          clear hsA
          go_wp2_with fail
          refine range_fin 4 (xs := ys) rfl (enters_of Try.func37 (by kernel_rfl) rfl) HTa hn2A (fun k W => CntI cN wA (fun k => (k : Int)) k W ∧ (sv = 0 ∨ k < sv)) (fun c W => c = .exit 4 ∧ sv ≠ 0 ∧ sv ≤ ys.length ∧ CntI cN wA (fun k => (k : Int)) sv W) (fun W => ∃ n : Nat, CntI cN wA (fun k => (k : Int)) n W ∧ (n = ys.length ∧ (sv = 0 ∨ n < sv) ∨ n = sv ∧ sv ≠ 0 ∧ n ≤ ys.length)) (fun k A B h kk => ⟨cntI_keep h.1 kk rfl hcNA, h.2⟩) (fun c A B h kk => ⟨h.1, h.2.1, h.2.2.1, cntI_keep h.2.2.2 kk rfl hcNA⟩) ⟨⟨rowN, Keep.refl _ _⟩, by omega⟩ (fun _ _ h => h) (fun W h => ⟨_, h.1, .inl ⟨rfl, h.2⟩⟩) (fun c W h => ⟨h.1, _, h.2.2.2, .inr ⟨rfl, h.2.1, h.2.2.1⟩⟩) ?round ?fin
          case round =>
            rintro k hk cn Wp W ⟨⟨row8p, k8p⟩, hkv⟩ kN hszp hcnp
            obtain ⟨x, hx⟩ : ∃ x, ys[k] = x := ⟨_, rfl⟩
            have hcnx : OwnP W Wp.heap.size cn x := by rw [← hx]; exact hcnp
            have HX := Lib.hid hx
            have hcn := hcnx
            obtain ⟨aK, cK, aV, cV, rfl, -, -, -, -, -, -⟩ := hcn
            refine region_in (by kernel_rfl) (fun _ _ h => h) ?_
            have kP : Keep Nix W (W.alloc (.cells #[.slice aK x.fKey.length cK, .slice aV x.fValue.length cV, .int .i64 x.fVersion] 29)) := (Keep.refl Nix W).alloc _
            have rowP := RowIs.alloc W #[.slice aK x.fKey.length cK, .slice aV x.fValue.length cV, .int .i64 x.fVersion] 29
            clear hcnp
            go_wp2_with fail
            refine ⟨kP.nix, fun W2 k2 hs22 => ?_⟩
            clear hs22
            have hNs := kN.size
            have hPs := kP.size
            have hk2s := k2.size
            have kBk : Keep (Book wA.heap.size) Wp W2 := (kN.trans kP).nix.trans (k2.mono (fun b hb => .inr hb))
            have hbk : ∀ b, Book wA.heap.size b → b < wA.heap.size + 2 ∧ wA.heap.size ≤ b := fun b hb => by rcases hb with h | h <;> omega
            replace row8p := row8p.keep kBk (fun h => by have := hbk _ h; omega)
            have k8 := k8p.then kBk (fun i hi h => by have := hbk i h; omega)
            have k2' : Keep (Book wA.heap.size) W W2 := kP.nix.trans (k2.mono (fun b hb => .inr hb))
            have hG := rGPair_lawful.keep hcnx.gp k2' (fun b hb h => by have := hbk b h; have := hb.1; omega)
            have hPL := (rList_lawful rGPair_lawful).keep hPa.out k8 (fun b hb h => by omega)
            obtain ⟨b, o, pK, cPK, pV, cPV, rfl, hbw, hbc, ry, y0, y1, y2⟩ := at_pair hPL k hk
            rw [HX.out] at ry y0 y1 y2
            have s0 := (row12a.keep k8 (by omega)).cell 0
            (try simp only [List.getElem?_cons_zero] at s0)
            replace rowP := rowP.keep k2 (by omega)
            have p0 := rowP.cell 0
            (try simp only [List.getElem?_cons_zero] at p0)
            have p1 := rowP.cell 1
            (try simp only [List.getElem?_cons_succ] at p1); (try simp only [List.getElem?_cons_zero] at p1)
            have p2 := rowP.cell 2
            (try simp only [List.getElem?_cons_succ] at p2); (try simp only [List.getElem?_cons_zero] at p2)
            have hWW2 : W.heap.size < W2.heap.size := rowP.lt
            clear kBk k2' k2 kP kN hx hcnx hPL
            replace row8p : RowIs W2 cN 3 [.int .i64 (k : Int)] := row8p
            have n0 := row8p.cell 0
            (try simp only [List.getElem?_cons_zero] at n0)
            have hck : (k : Int) < (ys.length : Int) := by omega
            have hck2 : ¬ (ys.length : Int) ≤ (k : Int) := by omega
            have hki0 : (0 : Int) ≤ (k : Int) := by omega
            refine wpIn_block (wpIn_seq (wpIn_seq ?_))
            have kd : Keep Nix W2 W2.drew := (Keep.refl Nix W2).drew
            refine region_in_held (S := (fun w' => w'.cell? ⟨cN, 0, none⟩ = some (.int .i64 (k : Int)) ∧ w'.cell? ⟨c12, 0, none⟩ = some (.slice (some ⟨b, o, none⟩) ys.length cP) ∧ w'.cell? ⟨W.heap.size, 0, none⟩ = some (.slice aK x.fKey.length cK) ∧ w'.cell? ⟨W.heap.size, 1, none⟩ = some (.slice aV x.fValue.length cV) ∧ w'.cell? ⟨W.heap.size, 2, none⟩ = some (.int .i64 x.fVersion) ∧ w'.cell? ⟨b, o + k * 3, none⟩ = some (.slice pK x.fKey.length cPK) ∧ w'.cell? ⟨b, o + k * 3 + 1, none⟩ = some (.slice pV x.fValue.length cPV) ∧ w'.cell? ⟨b, o + k * 3 + 2, none⟩ = some (.int .i64 x.fVersion))) (by kernel_rfl) (by exact fun _ _ h => h) (by kernel_rfl) (⟨n0, s0, p0, p1, p2, y0, y1, y2⟩) (fun hHeld => ?_)
            clear n0 s0 p0 p1 p2 y0 y1 y2
            have hGd := rGPair_lawful.nix hG kd
            have ryd := rGPair_lawful.nix ry kd
            have row8d := row8p.keep kd id
            have hWW := Nat.lt_of_lt_of_le hWW2 kd.size
            have hbd : b < W2.drew.heap.size := Nat.lt_of_lt_of_le (rList_lt hPa.out hk) (Nat.le_trans k8.size kd.size)
            replace k8 := k8.trans kd.nix
            clear hG ry rowP row8p hWW2
            have kF0 : Keep Nix W2 W2.drew := kd
            generalize hWd : W2.drew = wd at *
            refine wpAnyH_take (i := 0) (v := ?_) rfl (by kernel_rfl) (by kernel_rfl) (by kernel_rfl) (fun _ _ _ h => h) (Or.inl ⟨by kernel_rfl, ?_⟩) hHeld ?_
            rotate_left
            · intro w' hSw
              (try dsimp only at hSw)
              (try simp only [List.getElem_toArray]); (try simp only [List.getElem_cons_succ]); (try simp only [List.getElem_cons_zero])
              go_simp
              try with_reducible rfl
            (try simp only [Act.put]); (try simp only [List.getElem_toArray]); (try simp only [List.getElem_cons_succ]); (try simp only [List.getElem_cons_zero]); (try simp only [List.setIfInBounds_toArray]); (try simp only [List.set_cons_succ]); (try simp only [List.set_cons_zero])
            refine wpAnyH_take (i := 1) (v := ?_) rfl (by kernel_rfl) (by kernel_rfl) (by kernel_rfl) (fun _ _ _ h => h) (Or.inl ⟨by kernel_rfl, ?_⟩) hHeld ?_
            rotate_left
            · intro w' hSw
              (try dsimp only at hSw)
              (try simp only [List.getElem_toArray]); (try simp only [List.getElem_cons_succ]); (try simp only [List.getElem_cons_zero])
              go_simp
              try with_reducible rfl
            (try simp only [Act.put]); (try simp only [List.getElem_toArray]); (try simp only [List.getElem_cons_succ]); (try simp only [List.getElem_cons_zero]); (try simp only [List.setIfInBounds_toArray]); (try simp only [List.set_cons_succ]); (try simp only [List.set_cons_zero])
            refine wpAnyH_take (i := 2) (v := ?_) rfl (by kernel_rfl) (by kernel_rfl) (by kernel_rfl) (fun _ _ _ h => h) (Or.inl ⟨by kernel_rfl, ?_⟩) hHeld ?_
            rotate_left
            · intro w' hSw
              (try dsimp only at hSw)
              (try simp only [List.getElem_toArray]); (try simp only [List.getElem_cons_succ]); (try simp only [List.getElem_cons_zero])
              go_simp
              try with_reducible rfl
            (try simp only [Act.put]); (try simp only [List.getElem_toArray]); (try simp only [List.getElem_cons_succ]); (try simp only [List.getElem_cons_zero]); (try simp only [List.setIfInBounds_toArray]); (try simp only [List.set_cons_succ]); (try simp only [List.set_cons_zero])
            refine wpAnyH_take (i := 3) (v := ?_) rfl (by kernel_rfl) (by kernel_rfl) (by kernel_rfl) (fun _ _ _ h => h) (Or.inl ⟨by kernel_rfl, ?_⟩) hHeld ?_
            rotate_left
            · intro w' hSw
              (try dsimp only at hSw)
              (try simp only [List.getElem_toArray]); (try simp only [List.getElem_cons_succ]); (try simp only [List.getElem_cons_zero])
              go_simp
              try with_reducible rfl
            (try simp only [Act.put]); (try simp only [List.getElem_toArray]); (try simp only [List.getElem_cons_succ]); (try simp only [List.getElem_cons_zero]); (try simp only [List.setIfInBounds_toArray]); (try simp only [List.set_cons_succ]); (try simp only [List.set_cons_zero])
            refine wpAnyH_take (i := 4) (v := ?_) rfl (by kernel_rfl) (by kernel_rfl) (by kernel_rfl) (fun _ _ _ h => h) (Or.inl ⟨by kernel_rfl, ?_⟩) hHeld ?_
            rotate_left
            · intro w' hSw
              (try dsimp only at hSw)
              (try simp only [List.getElem_toArray]); (try simp only [List.getElem_cons_succ]); (try simp only [List.getElem_cons_zero])
              go_simp
              try with_reducible rfl
            (try simp only [Act.put]); (try simp only [List.getElem_toArray]); (try simp only [List.getElem_cons_succ]); (try simp only [List.getElem_cons_zero]); (try simp only [List.setIfInBounds_toArray]); (try simp only [List.set_cons_succ]); (try simp only [List.set_cons_zero])
            refine wpAnyH_take (i := 5) (v := ?_) rfl (by kernel_rfl) (by kernel_rfl) (by kernel_rfl) (fun _ _ _ h => h) (Or.inl ⟨by kernel_rfl, ?_⟩) hHeld ?_
            rotate_left
            · intro w' hSw
              (try dsimp only at hSw)
              (try simp only [List.getElem_toArray]); (try simp only [List.getElem_cons_succ]); (try simp only [List.getElem_cons_zero])
              go_simp
              try with_reducible rfl
            (try simp only [Act.put]); (try simp only [List.getElem_toArray]); (try simp only [List.getElem_cons_succ]); (try simp only [List.getElem_cons_zero]); (try simp only [List.setIfInBounds_toArray]); (try simp only [List.set_cons_succ]); (try simp only [List.set_cons_zero])
            refine wpAnyH_take (i := 6) (v := ?_) rfl (by kernel_rfl) (by kernel_rfl) (by kernel_rfl) (fun _ _ _ h => h) (Or.inl ⟨by kernel_rfl, ?_⟩) hHeld ?_
            rotate_left
            · intro w' hSw
              (try dsimp only at hSw)
              (try simp only [List.getElem_toArray]); (try simp only [List.getElem_cons_succ]); (try simp only [List.getElem_cons_zero])
              go_simp
              try with_reducible rfl
            (try simp only [Act.put]); (try simp only [List.getElem_toArray]); (try simp only [List.getElem_cons_succ]); (try simp only [List.getElem_cons_zero]); (try simp only [List.setIfInBounds_toArray]); (try simp only [List.set_cons_succ]); (try simp only [List.set_cons_zero])
            refine wpAnyH_take (i := 7) (v := ?_) rfl (by kernel_rfl) (by kernel_rfl) (by kernel_rfl) (fun _ _ _ h => h) (Or.inl ⟨by kernel_rfl, ?_⟩) hHeld ?_
            rotate_left
            · intro w' hSw
              (try dsimp only at hSw)
              (try simp only [List.getElem_toArray]); (try simp only [List.getElem_cons_succ]); (try simp only [List.getElem_cons_zero])
              go_simp
              try with_reducible rfl
            (try simp only [Act.put]); (try simp only [List.getElem_toArray]); (try simp only [List.getElem_cons_succ]); (try simp only [List.getElem_cons_zero]); (try simp only [List.setIfInBounds_toArray]); (try simp only [List.set_cons_succ]); (try simp only [List.set_cons_zero])
            refine wpAnyH_take (i := 8) (v := ?_) rfl (by kernel_rfl) (by kernel_rfl) (by kernel_rfl) (fun _ _ _ h => h) (Or.inl ⟨by kernel_rfl, ?_⟩) hHeld ?_
            rotate_left
            · intro w' hSw
              (try dsimp only at hSw)
              (try simp only [List.getElem_toArray]); (try simp only [List.getElem_cons_succ]); (try simp only [List.getElem_cons_zero])
              go_simp
              try with_reducible rfl
            (try simp only [Act.put]); (try simp only [List.getElem_toArray]); (try simp only [List.getElem_cons_succ]); (try simp only [List.getElem_cons_zero]); (try simp only [List.setIfInBounds_toArray]); (try simp only [List.set_cons_succ]); (try simp only [List.set_cons_zero])
            refine wpAnyH_take (i := 9) (v := ?_) rfl (by kernel_rfl) (by kernel_rfl) (by kernel_rfl) (fun _ _ _ h => h) (Or.inl ⟨by kernel_rfl, ?_⟩) hHeld ?_
            rotate_left
            · intro w' hSw
              (try dsimp only at hSw)
              (try simp only [List.getElem_toArray]); (try simp only [List.getElem_cons_succ]); (try simp only [List.getElem_cons_zero])
              go_simp
              try with_reducible rfl
            (try simp only [Act.put]); (try simp only [List.getElem_toArray]); (try simp only [List.getElem_cons_succ]); (try simp only [List.getElem_cons_zero]); (try simp only [List.setIfInBounds_toArray]); (try simp only [List.set_cons_succ]); (try simp only [List.set_cons_zero])
            refine wpAnyH_ready (rs := [10]) (by kernel_rfl) (by simp) ?_
            refine AllReadyH.cons rfl (fun K hK => ?_) AllReadyH.nil
            rw [if_pos (by kernel_rfl)]
            go_simp
            go_fit (sPair_c wd x _ _ hGd ryd)
            rintro e w5 ⟨rfl, k5⟩
            go_wp2_with fail
            have h81 := row8d.lt
            have h71 : c12 < wd.heap.size := by omega
            refine hK.out _ _ (⟨(k5.cell (p := ⟨cN, 0, none⟩) h81 id).trans hHeld.1, (k5.cell (p := ⟨c12, 0, none⟩) h71 id).trans hHeld.2.1, (k5.cell (p := ⟨W.heap.size, 0, none⟩) hWW id).trans hHeld.2.2.1, (k5.cell (p := ⟨W.heap.size, 1, none⟩) hWW id).trans hHeld.2.2.2.1, (k5.cell (p := ⟨W.heap.size, 2, none⟩) hWW id).trans hHeld.2.2.2.2.1, (k5.cell (p := ⟨b, o + k * 3, none⟩) hbd id).trans hHeld.2.2.2.2.2.1, (k5.cell (p := ⟨b, o + k * 3 + 1, none⟩) hbd id).trans hHeld.2.2.2.2.2.2.1, (k5.cell (p := ⟨b, o + k * 3 + 2, none⟩) hbd id).trans hHeld.2.2.2.2.2.2.2⟩) (fun hHeld => ?_)
            clear hK K
            (try simp only [Act.put]); (try simp only [List.getElem_toArray]); (try simp only [List.getElem_cons_succ]); (try simp only [List.getElem_cons_zero]); (try simp only [List.setIfInBounds_toArray]); (try simp only [List.set_cons_succ]); (try simp only [List.set_cons_zero])
            refine wpAnyH_take (i := 11) (v := ?_) rfl (by kernel_rfl) (by kernel_rfl) (by kernel_rfl) (fun _ _ _ h => h) (Or.inl ⟨by kernel_rfl, ?_⟩) hHeld ?_
            rotate_left
            · intro w' hSw
              (try dsimp only at hSw)
              (try simp only [List.getElem_toArray]); (try simp only [List.getElem_cons_succ]); (try simp only [List.getElem_cons_zero])
              go_simp
              try with_reducible rfl
            (try simp only [Act.put]); (try simp only [List.getElem_toArray]); (try simp only [List.getElem_cons_succ]); (try simp only [List.getElem_cons_zero]); (try simp only [List.setIfInBounds_toArray]); (try simp only [List.set_cons_succ]); (try simp only [List.set_cons_zero])
            refine wpAnyH_take (i := 12) (v := ?_) rfl (by kernel_rfl) (by kernel_rfl) (by kernel_rfl) (fun _ _ _ h => h) (Or.inl ⟨by kernel_rfl, ?_⟩) hHeld ?_
            rotate_left
            · intro w' hSw
              (try dsimp only at hSw)
              (try simp only [List.getElem_toArray]); (try simp only [List.getElem_cons_succ]); (try simp only [List.getElem_cons_zero])
              go_simp
              try with_reducible rfl
            (try simp only [Act.put]); (try simp only [List.getElem_toArray]); (try simp only [List.getElem_cons_succ]); (try simp only [List.getElem_cons_zero]); (try simp only [List.setIfInBounds_toArray]); (try simp only [List.set_cons_succ]); (try simp only [List.set_cons_zero])
            refine wpAnyH_done (by kernel_rfl) ?_ _
            clear hHeld hGd ryd
            have row8e := row8d.keep k5 id
            have k8e := k8.trans k5.nix
            have kFe := kF0.trans k5
            clear row8d k8 kF0 k5 kd
            refine wpIn_cond_false rfl (wpIn_skip ?_)
            change Code.wpIn _ _ _ _ _ _ _
            have n0 := row8e.cell 0
            have nf := row8e.frozen 0
            (try simp only [List.getElem?_cons_zero] at n0)
            refine wpIn_seq (region_in (by kernel_rfl) (fun _ _ h => h) ?_)
            go_wp2_with fail
            clear n0 nf
            have kS : Keep (· = cN) w5 (w5.setCell ⟨cN, 0, none⟩ (.int .i64 ((k : Int) + 1))) := (Keep.refl (· = cN) w5).setCell (p := ⟨cN, 0, none⟩) (fun _ => rfl) _
            have row8f : RowIs (w5.setCell ⟨cN, 0, none⟩ (.int .i64 ((k : Int) + 1))) cN 3 [.int .i64 ((k : Int) + 1)] := row8e.set 0 (.int .i64 ((k : Int) + 1))
            have k8f := k8e.trans kS
            have kFf : Keep (Free wA.heap.size w3.heap.size w4.heap.size) W2 (w5.setCell ⟨cN, 0, none⟩ (.int .i64 ((k : Int) + 1))) := kFe.nix.trans (kS.mono (fun b (h : b = cN) => ⟨by omega, by omega, by omega⟩))
            clear row8e k8e kFe kS
            generalize w5.setCell ⟨cN, 0, none⟩ (.int .i64 ((k : Int) + 1)) = w9 at *
            have n0 := row8f.cell 0
            have t0 := (rowTa.keep k8f (by omega)).cell 0
            (try simp only [List.getElem?_cons_zero] at n0 t0)
            refine wpIn_seq (region_in (by kernel_rfl) (fun _ _ h => h) ?_)
            by_cases hst : k + 1 = sv
            · have heq : (((k : Int) + 1) == (sv : Int)) = true := by simp only [beq_iff_eq]; omega
              go_wp2_with fail
              refine wpIn_cond_true rfl ?_
              refine wpIn_exit ?_
              have hC : CntI cN wA (fun k => (k : Int)) (k + 1) w9 := ⟨row8f, k8f⟩
              rw [hst] at hC
              have hF : Keep (Free wA.heap.size w3.heap.size w4.heap.size) W2 w9 ∧ (Code.exit 4 = Code.exit 4 ∧ sv ≠ 0 ∧ sv ≤ ys.length ∧ CntI cN wA (fun k => (k : Int)) sv w9) := ⟨kFf, rfl, by omega, by omega, hC⟩
              exact hF
            · have heq : (((k : Int) + 1) == (sv : Int)) = false := by simp only [beq_eq_false_iff_ne]; omega
              go_wp2_with fail
              refine wpIn_cond_false rfl (wpIn_skip ?_)
              exact ⟨kFf, ⟨row8f, k8f⟩, by omega⟩
          case fin =>
            rintro Wz ⟨n, ⟨rowNz, kz⟩, hn⟩ hK
            replace rowNz : RowIs Wz cN 3 [.int .i64 (n : Int)] := rowNz
            have rowT := rowTa.keep kz (by omega)
            have rowB := rowBa.keep kz (by omega)
            have row12 := row12a.keep kz (by omega)
            have hP := Lib.hid ((rList_lawful rGPair_lawful).keep hPa.out kz (fun b hb e => by omega))
            have HT := HTa.later (kz.mono (T := Off w3.heap.size w4.heap.size) (fun b hb => by intro h; omega))
            have kk := kka.then kz (fun i hi e => by have := HC0.out; omega)
            have hzs := kz.size
            have hqz : w6.heap.size ≤ Wz.heap.size := by omega
            have n0 := rowNz.cell 0
            have t0 := rowT.cell 0
            have s0 := row12.cell 0
            (try simp only [List.getElem?_cons_zero] at n0 t0 s0)
            have hmx : max (sv : Int) 0 = (sv : Int) := by omega
            have hKb := (kz.block D1 (by omega) (by omega)).trans hKa
            clear rowTa rowBa row12a hPa HTa kka rowN rowNz kz
            rcases (show (sv < ys.length ∧ n = sv) ∨ (ys.length ≤ sv ∧ n = ys.length) ∨ (sv < ys.length ∧ sv = 0 ∧ n = ys.length ∧ n ≠ sv) by omega) with ⟨hlv, hns⟩ | ⟨hlv, hnl⟩ | ⟨hlv, hs0, hnl, hn0⟩
            · have hne : ((n : Int) != (sv : Int)) = false := by simp [hns]
              clear hn hns
              have b0 := rowB.cell 0
              (try simp only [List.getElem?_cons_zero] at b0)
              have bf := rowB.frozen 0
              go_wp2_with fail
              rw [rounds_succ]
              go_wp2_with fail
              have rowE : RowIs (Wz.setCell ⟨c0 + 1 + 1 + 1, 0, none⟩ (.bool true)) (c0 + 1 + 1 + 1) 4 [.bool true] := rowB.set 0 (.bool true)
              have kS : Keep (· = c0 + 1 + 1 + 1) Wz (Wz.setCell ⟨c0 + 1 + 1 + 1, 0, none⟩ (.bool true)) := (Keep.refl (· = c0 + 1 + 1 + 1) Wz).setCell (p := ⟨c0 + 1 + 1 + 1, 0, none⟩) (fun _ => rfl) _
              have hK2s := (kS.block wA.heap.size (Array.getElem?_eq_some_iff.1 hK).1 (by omega)).trans hK
              have hK1s := (kS.block D1 (Array.getElem?_eq_some_iff.1 hKb).1 (by omega)).trans hKb
              generalize Wz.setCell ⟨c0 + 1 + 1 + 1, 0, none⟩ (.bool true) = wz at *
              have kp1 := Keep.put wz wA.heap.size (.deferred none)
              have hK1t := (kp1.block D1 (Array.getElem?_eq_some_iff.1 hK1s).1 (by omega)).trans hK1s
              have kp2 := Keep.put (wz.putObj wA.heap.size (.deferred none)) D1 (.deferred none)
              have rowZ := (rowE.keep kp1 (by omega)).keep kp2 (by omega)
              have hC0 := HC0.out
              refine ⟨by simp, .inl ⟨_, _, rfl, run_takeDeferred hK2s, by simp, .inl ⟨_, _, rfl, run_takeDeferred hK1t, ?_⟩⟩⟩
              exact ⟨_, results_cell_bool rfl _ _ (c0 + 1 + 1 + 1) _ rfl Try.underlying4 (rowZ.cell 0), rfl, ((kk.then kS (fun i hi e => by omega)).then kp1 (fun i hi e => by omega)).then kp2 (fun i hi e => by omega)⟩
            · have hlv2 : ¬ sv < ys.length := by omega
              have hne : ((n : Int) != (ys.length : Int)) = false := by simp [hnl]
              clear hn hnl
              have b0 := rowB.cell 0
              (try simp only [List.getElem?_cons_zero] at b0)
              have bf := rowB.frozen 0
              go_wp2_with fail
              rw [rounds_succ]
              go_wp2_with fail
              have rowE : RowIs (Wz.setCell ⟨c0 + 1 + 1 + 1, 0, none⟩ (.bool true)) (c0 + 1 + 1 + 1) 4 [.bool true] := rowB.set 0 (.bool true)
              have kS : Keep (· = c0 + 1 + 1 + 1) Wz (Wz.setCell ⟨c0 + 1 + 1 + 1, 0, none⟩ (.bool true)) := (Keep.refl (· = c0 + 1 + 1 + 1) Wz).setCell (p := ⟨c0 + 1 + 1 + 1, 0, none⟩) (fun _ => rfl) _
              have hK2s := (kS.block wA.heap.size (Array.getElem?_eq_some_iff.1 hK).1 (by omega)).trans hK
              have hK1s := (kS.block D1 (Array.getElem?_eq_some_iff.1 hKb).1 (by omega)).trans hKb
              generalize Wz.setCell ⟨c0 + 1 + 1 + 1, 0, none⟩ (.bool true) = wz at *
              have kp1 := Keep.put wz wA.heap.size (.deferred none)
              have hK1t := (kp1.block D1 (Array.getElem?_eq_some_iff.1 hK1s).1 (by omega)).trans hK1s
              have kp2 := Keep.put (wz.putObj wA.heap.size (.deferred none)) D1 (.deferred none)
              have rowZ := (rowE.keep kp1 (by omega)).keep kp2 (by omega)
              have hC0 := HC0.out
              refine ⟨by simp, .inl ⟨_, _, rfl, run_takeDeferred hK2s, by simp, .inl ⟨_, _, rfl, run_takeDeferred hK1t, ?_⟩⟩⟩
              exact ⟨_, results_cell_bool rfl _ _ (c0 + 1 + 1 + 1) _ rfl Try.underlying4 (rowZ.cell 0), rfl, ((kk.then kS (fun i hi e => by omega)).then kp1 (fun i hi e => by omega)).then kp2 (fun i hi e => by omega)⟩
            · have hne0 : ((n : Int) != (sv : Int)) = true := by simp only [bne_iff_ne]; omega
              have hsz : ((sv : Int) != 0) = false := by simp [hs0]
              have hne : ((n : Int) != (ys.length : Int)) = false := by simp [hnl]
              clear hn hs0 hnl hn0
              have b0 := rowB.cell 0
              (try simp only [List.getElem?_cons_zero] at b0)
              have bf := rowB.frozen 0
              go_wp2_with fail
              rw [rounds_succ]
              go_wp2_with fail
              have rowE : RowIs (Wz.setCell ⟨c0 + 1 + 1 + 1, 0, none⟩ (.bool true)) (c0 + 1 + 1 + 1) 4 [.bool true] := rowB.set 0 (.bool true)
              have kS : Keep (· = c0 + 1 + 1 + 1) Wz (Wz.setCell ⟨c0 + 1 + 1 + 1, 0, none⟩ (.bool true)) := (Keep.refl (· = c0 + 1 + 1 + 1) Wz).setCell (p := ⟨c0 + 1 + 1 + 1, 0, none⟩) (fun _ => rfl) _
              have hK2s := (kS.block wA.heap.size (Array.getElem?_eq_some_iff.1 hK).1 (by omega)).trans hK
              have hK1s := (kS.block D1 (Array.getElem?_eq_some_iff.1 hKb).1 (by omega)).trans hKb
              generalize Wz.setCell ⟨c0 + 1 + 1 + 1, 0, none⟩ (.bool true) = wz at *
              have kp1 := Keep.put wz wA.heap.size (.deferred none)
              have hK1t := (kp1.block D1 (Array.getElem?_eq_some_iff.1 hK1s).1 (by omega)).trans hK1s
              have kp2 := Keep.put (wz.putObj wA.heap.size (.deferred none)) D1 (.deferred none)
              have rowZ := (rowE.keep kp1 (by omega)).keep kp2 (by omega)
              have hC0 := HC0.out
              refine ⟨by simp, .inl ⟨_, _, rfl, run_takeDeferred hK2s, by simp, .inl ⟨_, _, rfl, run_takeDeferred hK1t, ?_⟩⟩⟩
              exact ⟨_, results_cell_bool rfl _ _ (c0 + 1 + 1 + 1) _ rfl Try.underlying4 (rowZ.cell 0), rfl, ((kk.then kS (fun i hi e => by omega)).then kp1 (fun i hi e => by omega)).then kp2 (fun i hi e => by omega)⟩
namespace pagesStop
theorem walk {m0 m1 m2 m3 : Nat} (W : World) (v0 v1 v2 v3 : Value) (h0 : Arg Try.prog W m0 22 v0) (h1 : Arg Try.prog W m1 37 v1) (h2 : Arg Try.prog W m2 3 v2) (h3 : Arg Try.prog W m3 29 v3) :
    Calls Try.prog 5 #[v0, v1, v2, v3] W fun e w' => e = .returned (.bool true) ∧ Keep Nix W w' := by
  obtain ⟨a, n, cap, rfl, h5⟩ := h0.slice Try.underlying22
  obtain ⟨l, hl, -⟩ := h5.toList (R := rGPair) (sz := 3) (by' := 56) (fun x : GPair => x.size) Try.underlying22 (by kernel_rfl) (by kernel_rfl) (by decide) (by decide) (fun h => redGPair h)
  obtain ⟨rfl, -, -⟩ := rList_len hl
  obtain ⟨csS, rfl, k⟩ := h1.struct Try.underlying37
  obtain ⟨s, hs, -⟩ := redGSpan k
  obtain ⟨st, rfl, -⟩ := h2.int Try.underlying3
  obtain ⟨csp, rfl, k⟩ := h3.struct Try.underlying29
  obtain ⟨x, hx, -⟩ := redGPair k
  exact stop_walk W a cap l s csS st x csp hl hs hx
end pagesStop
end Go.Proofs.Ythkocgpbpgfocaa
