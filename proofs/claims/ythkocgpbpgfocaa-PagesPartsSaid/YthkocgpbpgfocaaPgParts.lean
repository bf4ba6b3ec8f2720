/- THE LAW PagesParts, walked. Printed by mac.py. -/
import Derived.Test.YthkocgpbpgfocaaPgO
namespace Go.Proofs.Ythkocgpbpgfocaa
open Go.RowKit

theorem part_to {at_ : List UInt8} (ht : at_ ≠ []) (l : List GPair) : partF ⟨[], at_⟩ l = l.filter (fun x => ltB x.fKey at_) ∧ restF ⟨[], at_⟩ l = l.filter (fun x => !ltB x.fKey at_) := by
  have e : ∀ k, withinF ⟨[], at_⟩ k = ltB k at_ := fun k => by
    unfold withinF
    cases at_ with
    | nil => exact absurd rfl ht
    | cons a t => rw [ltB_nil]; rfl
  constructor
  · unfold partF; simp only [e]
  · unfold restF; simp only [e]
theorem part_from (at_ : List UInt8) (l : List GPair) : partF ⟨at_, []⟩ (l.filter (fun x => !ltB x.fKey at_)) = l.filter (fun x => !ltB x.fKey at_) ∧ restF ⟨at_, []⟩ (l.filter (fun x => !ltB x.fKey at_)) = [] := by
  have e : ∀ k, withinF ⟨at_, []⟩ k = !ltB k at_ := fun k => by unfold withinF; simp
  constructor
  · unfold partF
    simp only [e]
    exact List.filter_eq_self.2 (fun x hx => (List.mem_filter.1 hx).2)
  · unfold restF
    simp only [e]
    exact List.filter_eq_nil_iff.2 (fun x hx => by have := (List.mem_filter.1 hx).2; rw [this]; decide)
set_option maxRecDepth 100000 in
set_option maxHeartbeats 4000000 in
theorem parts_walk (W : World) (a0 aT : Option Addr) (cap cT : Nat) (l : List GPair) (at_ : List UInt8) (hl : rList rGPair W (· < W.heap.size) [.slice a0 l.length cap] l) (ht : Lies W (· < W.heap.size) aT (at_.map bv)) (htc : at_.length ≤ cT) (htf : at_.length ≤ far) :
    Calls Try.prog 6 #[.slice a0 l.length cap, .slice aT at_.length cT] W fun e w' => e = .returned (.bool true) ∧ Keep Nix W w' := by
  have HL := Lib.hid hl
  have HT : Hid (Lies W (· < W.heap.size) aT (at_.map bv) ∧ at_.length ≤ cT ∧ at_.length ≤ far) := ⟨ht, htc, htf⟩
  clear hl ht htc htf
  go_enter Try.func6, Try.ntmps6
  go_wp2_with fail
  go_fit (new_m W)
  rintro e w1 ⟨rfl, MM, k1⟩
  go_wp2_with fail
  go_fit (awake_c w1)
  rintro e w2 ⟨rfl, k2⟩
  replace MM := MM.nix k2
  have kk := k1.trans k2
  have hgm := MM.lt _ rfl
  clear k1 k2
  obtain ⟨gm, hgW⟩ : ∃ gm, W.heap.size = gm := ⟨_, rfl⟩
  rw [hgW] at MM ⊢
  have HGW := Lib.hid (Nat.le_of_eq hgW)
  clear hgW hgm
  rcases Int.lt_or_le 80 (l.length : Int) with h80 | h80
  · clear MM
    go_wp2_with fail
    go_fit (awake_c w2)
    rintro e w4 ⟨rfl, k4⟩
    go_wp2_with fail
    go_ret
    exact ⟨rfl, kk.trans k4⟩
  rcases Nat.eq_zero_or_pos at_.length with ht0 | ht0
  · have htz : ((at_.length : Int) == 0) = true := by rw [ht0]; rfl
    clear MM ht0
    go_wp2_with fail
    go_fit (awake_c w2)
    rintro e w4 ⟨rfl, k4⟩
    go_wp2_with fail
    go_ret
    exact ⟨rfl, kk.trans k4⟩
  have htz : ((at_.length : Int) == 0) = false := by simp only [beq_eq_false_iff_ne]; omega
  have HST := Lib.hid (Filled.start MM HGW.out kk)
  clear MM kk
  go_wp2_with fail
  go_loopw [6, 7] (fun u v wr => ∃ (i : Nat) (O : Nat → Prop) (lm : List GPair) (aA : Option Addr) (cA : Nat), i ≤ l.length ∧ u = .slice aA lm.length cA ∧ v = .int .i64 i ∧ Filled W gm i wr O lm aA cA) (fun _ v _ => l.length - (intOf v).toNat)
  case atStart => exact ⟨0, _, _, _, _, by omega, rfl, rfl, HST.out⟩
  case round =>
    clear HST
    obtain ⟨i, O, lm, aA, cA, hi, rfl, rfl, F⟩ := hrel
    by_cases hlt : i < l.length
    · have hi0 : (0 : Int) ≤ (i : Int) := by omega
      have hi1 : (i : Int) < (l.length : Int) := by omega
      have hkk := F.kk
      obtain ⟨b, o, aK, cK, aV, cV, rfl, hbw, -, rx, x0, x1, x2⟩ := at_pair HL.out i hlt
      obtain ⟨x, hx⟩ : ∃ x, l[i] = x := ⟨_, rfl⟩
      rw [hx] at rx x0 x1 x2
      have HX0 := Lib.hid x0
      have HX1 := Lib.hid x1
      have HX2 := Lib.hid x2
      have HRX := Lib.hid rx
      replace x0 := (hkk.cell (p := ⟨b, o + i * 3, none⟩) hbw id).trans x0
      replace x1 := (hkk.cell (p := ⟨b, o + i * 3 + 1, none⟩) hbw id).trans x1
      replace x2 := (hkk.cell (p := ⟨b, o + i * 3 + 2, none⟩) hbw id).trans x2
      have hlm : lm.length ≤ 100 := by have := F.len; omega
      have hput := put_m O gm lm x _ wr F.map (by omega) (rGPair_lawful.nix rx hkk)
      have HFF := Lib.hid F
      clear hx rx hkk F
      go_wp2_with fail
      go_fit hput
      clear hput
      rintro e w2 ⟨rfl, O2, M2, hO2, k2⟩
      obtain ⟨S2, hfar2, kk2⟩ := HFF.out.more M2 hO2 k2
      have hlen2 := len_mayPut lm x
      have hFl := HFF.out.len
      have hri := HFF.out.map.rising
      replace x0 := (kk2.cell (p := ⟨b, o + i * 3, none⟩) hbw id).trans HX0.out
      replace x1 := (kk2.cell (p := ⟨b, o + i * 3 + 1, none⟩) hbw id).trans HX1.out
      replace x2 := (kk2.cell (p := ⟨b, o + i * 3 + 2, none⟩) hbw id).trans HX2.out
      have HRI := Lib.hid hri
      clear hO2 k2 hri
      by_cases hm : mayF x = 0
      · have hmp : mayPut lm x = putS lm x := by unfold mayPut; rw [if_pos hm]
        rw [hmp] at M2 hlen2
        rw [hm]
        have hps := putS_c lm x aA cA [.slice aK x.fKey.length cK, .slice aV x.fValue.length cV, .int .i64 x.fVersion] w2 S2 (rGPair_lawful.nix HRX.out kk2) HRI.out (by omega)
        have HM2 := Lib.hid M2
        have HF2 := Lib.hid hfar2
        clear M2 S2 hmp hm hfar2
        go_wp2_with fail
        go_fit hps
        clear hps
        rintro e w3 ⟨a3, c3, css, rfl, own, els, k3⟩
        have S3 := SideL.of (O := O2) own els (by unfold far; omega) (fun b hb h => by
          rcases hb with hb | hb
          · exact hb.2
          · intro h2; have := HF2.out b h2; have hb' : b < W.heap.size := hb; omega) (fun b hb => HM2.out.lt b hb) k3.size
        have HF3 : Hid (Filled W gm (i + 1) w3 O2 (putS lm x) a3 c3) := ⟨HM2.out.nix k3, S3, HF2.out, by omega, kk2.trans k3⟩
        clear own els S3 k3 x0 x1 x2 kk2 HFF
        go_wp2_with fail
        go_roundw
        case rel => exact ⟨i + 1, O2, _, a3, c3, by omega, rfl, by go_num, HF3.out⟩
        case measure => simp [intOf]; omega
      · have hmp : mayPut lm x = lm := by unfold mayPut; rw [if_neg hm]
        rw [hmp] at M2
        have hm2 : (mayF x == 0) = false := by simp only [beq_eq_false_iff_ne]; exact hm
        have HF3 : Hid (Filled W gm (i + 1) w2 O2 lm aA cA) := ⟨M2, S2, hfar2, by omega, kk2⟩
        generalize mayF x = mx at *
        clear M2 S2 hfar2 hmp hm x0 x1 x2 kk2 HFF
        go_wp2_with fail
        go_roundw
        case rel => exact ⟨i + 1, O2, _, aA, cA, by omega, rfl, by go_num, HF3.out⟩
        case measure => simp [intOf]; omega
    · obtain rfl : i = l.length := by omega
      have hO := F.map.lt
      have hlm : lm.length ≤ 80 := by have := F.len; omega
      have hri := F.map.rising
      have kk := F.kk
      have S := F.side
      have hfar := F.far
      have hat : at_ ≠ [] := fun e => by rw [e] at ht0; exact absurd ht0 (by decide)
      obtain ⟨hp1, hr1⟩ := part_to hat lm
      obtain ⟨hp2, hr2⟩ := part_from at_ lm
      have hhalf := filter_halves hri at_
      generalize lm.filter (fun x => ltB x.fKey at_) = lo at *
      generalize lm.filter (fun x => !ltB x.fKey at_) = hi_ at *
      have hM := F.map
      have hlh : lo.length + hi_.length = lm.length := by rw [← hhalf, List.length_append]
      have HP1 := Lib.hid hp1
      have HR1 := Lib.hid hr1
      have HP2 := Lib.hid hp2
      have HR2 := Lib.hid hr2
      have HHALF := Lib.hid hhalf
      clear F hri hp1 hr1 hp2 hr2 hhalf hlt
      go_wp2_with fail
      go_fit (fork_m O gm lm wr hM (by omega))
      rintro e w3 ⟨gf, Of, rfl, MF, hOf, k3⟩
      have hM3 := hM.nix k3
      have kk3 := kk.trans k3
      have S3 := S.nix k3
      have hs3 := k3.size
      have hsp1 : rGSpan w3 (· < W.heap.size) [.slice none 0 0, .slice aT at_.length cT] ⟨[], at_⟩ := rGSpan_mk (x := ⟨[], at_⟩) w3 _ ⟨Lies.nil _ _ _, Nat.zero_le _, Nat.zero_le _⟩ ⟨HT.out.1.keep kk3 (fun _ _ h => h), HT.out.2.1, HT.out.2.2⟩
      clear hM kk S k3
      go_wp2_with fail
      go_fit (take_m O gm lm ⟨[], at_⟩ [.slice none 0 0, .slice aT at_.length cT] w3 hM3 (by omega) hsp1)
      rintro e w4 ⟨a4, c4, O4, R4, rfl, M4, L4, hR4, hO4, k4⟩
      rw [HR1.out] at M4
      rw [HP1.out] at L4 ⊢
      have S4 := S3.keep k4 hO4
      have MF4 := MF.keep k4 (fun b hb h => by have := hO b h; have := (hOf b hb).1; omega)
      have hfar4 : ∀ b, O4 b → W.heap.size ≤ b := fun b hb => by
        rcases hO4 b hb with h | h
        · exact hfar b h
        · have := kk3.size; omega
      have kk4 := kk3.then k4 (fun i hi h => by have := hfar i h; omega)
      have hdF : ∀ b, Of b → ¬ O4 b := fun b hb h => by
        have h1 := hOf b hb
        rcases hO4 b h with h | h
        · have := hO b h; omega
        · omega
      clear hM3 S3 MF hsp1 k4 kk3
      go_wp2_with fail
      go_fit (len_m O4 gm hi_ w4 M4 (by omega))
      rintro e w5 ⟨rfl, k5⟩
      replace M4 := M4.nix k5
      replace L4 := (rList_lawful rGPair_lawful).nix L4 k5
      replace S4 := S4.nix k5
      replace MF4 := MF4.nix k5
      replace kk4 := kk4.trans k5
      have hsp2 : rGSpan w5 (· < W.heap.size) [.slice aT at_.length cT, .slice none 0 0] ⟨at_, []⟩ := rGSpan_mk (x := ⟨at_, []⟩) w5 _ ⟨HT.out.1.keep kk4 (fun _ _ h => h), HT.out.2.1, HT.out.2.2⟩ ⟨Lies.nil _ _ _, Nat.zero_le _, Nat.zero_le _⟩
      clear k5
      go_wp2_with fail
      go_fit (take_m O4 gm hi_ ⟨at_, []⟩ [.slice aT at_.length cT, .slice none 0 0] w5 M4 (by omega) hsp2)
      rintro e w6 ⟨a6, c6, O6, R6, rfl, M6, L6, hR6, hO6, k6⟩
      rw [HR2.out] at M6
      rw [HP2.out] at L6 ⊢
      have S6 := S4.keep k6 hO6
      have L46 := (rList_lawful rGPair_lawful).keep L4 k6 (fun b hb h => (hR4 b hb).2.2 h)
      have MF6 := MF4.keep k6 hdF
      have kk6 := kk4.then k6 (fun i hi h => by have := hfar4 i h; omega)
      clear M4 L4 S4 MF4 kk4 hsp2 k6 hdF
      go_wp2_with fail
      go_fit (len_m O6 gm [] w6 M6 (by simp))
      rintro e w7 ⟨rfl, k7⟩
      have S7 := S6.nix k7
      have L47 := (rList_lawful rGPair_lawful).nix L46 k7
      have L67 := (rList_lawful rGPair_lawful).nix L6 k7
      have MF7 := MF6.nix k7
      have kk7 := kk6.trans k7
      clear M6 S6 L46 L6 MF6 kk6 k7
      obtain ⟨_, _, cs4, e4, hc4, li4, -, -, el4⟩ := L47
      simp only [List.cons.injEq, Value.slice.injEq, and_true, true_and] at e4
      obtain ⟨rfl, rfl⟩ := e4
      obtain ⟨_, _, cs6, e6, hc6, li6, -, -, el6⟩ := L67
      simp only [List.cons.injEq, Value.slice.injEq, and_true, true_and] at e6
      obtain ⟨rfl, rfl⟩ := e6
      have E4 : Els rGPair w7 R4 cs4 lo := ⟨hc4, el4⟩
      have E6 : Els rGPair w7 R6 cs6 hi_ := ⟨hc6, el6⟩
      have hf4 : cs4.flatten.length = lo.length * 3 := by rw [flat_len3 E4.lens3, hc4]
      have hf6 : cs6.flatten.length = hi_.length * 3 := by rw [flat_len3 E6.lens3, hc6]
      obtain ⟨a8, c8, w8, hr8, own8, k8⟩ := appN_run T_lPair 22 w7.heap.size (World.ownsRow_nil w7 w7.heap.size 29 3) cs4.flatten (m := lo.length) (c := c4) hf4 li4 (ones3 E4) (by unfold maxLen; omega) (by omega) (Nat.le_refl _)
      rw [Nat.zero_add] at hr8 own8
      rw [List.nil_append] at own8
      replace k8 : Keep Nix w7 w8 := k8.mono (fun b h => by cases h)
      obtain ⟨a9, c9, w9, hr9, own9, k9⟩ := appN_run T_lPair 22 w7.heap.size own8 cs6.flatten (m := hi_.length) (c := c6) hf6 (li6.keep k8 (fun _ _ h => h)) (ones3 E6) (by unfold maxLen; omega) (by omega) k8.size
      rw [hlh] at hr9 own9
      have hge8 : ∀ b, OwnB (.slice a8 lo.length c8) b → w7.heap.size ≤ b := fun b hb => (own8.lt b hb).1
      have k79 : Keep Nix w7 w9 := k8.then k9 (fun i hi h => by have := hge8 i h; omega)
      have E9 := (E4.mono (q := fun _ => True) rGPair_lawful (fun _ _ => trivial)).app (E6.mono (q := fun _ => True) rGPair_lawful (fun _ _ => trivial))
      have E9' := E9.keep rGPair_lawful k79 (fun _ _ h => h)
      rw [HHALF.out] at E9'
      have LX : rList rGPair w9 (fun _ => True) [.slice a9 lm.length c9] lm := ⟨a9, c9, cs4 ++ cs6, rfl, E9'.1, by rw [List.flatten_append]; exact (Lies.of_owned own9).mono (fun _ _ => trivial), by have := (owned_bounds own9).2.1; omega, by unfold far; omega, E9'.2⟩
      have LY := (rList_lawful rGPair_lawful).nix S7 k79
      have hsm := sm_Pair w9 lm a9 aA _ c9 _ cA LX LY
      have MF9 := MF7.nix k79
      have kk9 := kk7.trans k79
      clear li4 li6 el4 el6 E4 E6 E9 E9' LX LY own8 own9 k8 k9 hf4 hf6 S7 MF7 kk7 k79 hge8 hc4 hc6
      go_wp2_with (at_builtin; first | refine wpl_app_run (by kernel_rfl) _ _ rfl rfl rfl hr8 ?_ | refine wpl_app_run (by kernel_rfl) _ _ rfl rfl rfl hr9 ?_)
      go_fit hsm
      rintro e wA ⟨rfl, kA⟩
      clear hsm hr8 hr9
      go_wp2_with fail
      go_fit (len_m Of gf lm wA (MF9.nix kA) (by omega))
      rintro e wB ⟨rfl, kB⟩
      go_wp2_with fail
      go_ret
      exact ⟨rfl, (kk9.trans kA).trans kB⟩
namespace pagesParts
theorem walk {m0 m1 : Nat} (W : World) (v0 v1 : Value) (h0 : Arg Try.prog W m0 22 v0) (h1 : Arg Try.prog W m1 27 v1) :
    Calls Try.prog 6 #[v0, v1] W fun e w' => e = .returned (.bool true) ∧ Keep Nix W w' := by
  obtain ⟨a, n, cap, rfl, h3⟩ := h0.slice Try.underlying22
  obtain ⟨l, hl, -⟩ := h3.toList (R := rGPair) (sz := 3) (by' := 56) (fun x : GPair => x.size) Try.underlying22 (by kernel_rfl) (by kernel_rfl) (by decide) (by decide) (fun h => redGPair h)
  obtain ⟨rfl, -, -⟩ := rList_len hl
  obtain ⟨a2, n2, cap2, rfl, h4⟩ := h1.slice Try.underlying27
  obtain ⟨t, ht, -⟩ := h4.toBytes Try.underlying27 Try.underlying5 (by kernel_rfl) (by kernel_rfl)
  obtain ⟨_, _, e, ht1, ht2, ht3⟩ := ht
  simp only [List.cons.injEq, Value.slice.injEq, and_true] at e
  obtain ⟨rfl, rfl, rfl⟩ := e
  exact parts_walk W a a2 cap cap2 l t hl ht1 ht2 ht3
end pagesParts
end Go.Proofs.Ythkocgpbpgfocaa
