/- THE LAW RouteParts, walked. Printed by mac.py. -/
import Derived.Test.YtpblmaklbnpbfaaRtD
import Derived.Test.YtpblmaklbnpbfaaRtE
import Derived.Laws.Cover1
namespace Go.Proofs.Ytpblmaklbnpbfaa
open Go.RowKit

def toF (s : GSpan) : List UInt8 := if s.fTo = [] ∨ ltB [121] s.fTo = true then [121] else s.fTo
theorem toF_ne (s : GSpan) : toF s ≠ [] := by
  unfold toF; split
  · simp
  · rename_i h; exact fun e => h (.inl e)
theorem toF_le (s : GSpan) : ltB [121] (toF s) = false := by
  unfold toF; split
  · exact ltB_irrefl _
  · rename_i h; cases e : ltB [121] s.fTo with
    | false => rfl
    | true => exact absurd (.inr e) h
def ReadyT (W wx : World) (bs : Nat) (csr : List Value) (sF : Option Addr) (dF : Nat) (f t : List UInt8) : Prop := ∃ (aT : Option Addr) (cT : Nat), LB wx ANY aT cT t ∧ RowIs wx bs 25 csr ∧ RowIs wx (bs + 1) 29 [.slice sF f.length dF, .slice aT t.length cT] ∧ Keep Nix W wx
def SpanAt (w wx : World) (p : GSpan) (s8 s9 : Value) : Prop := ∃ bt a1 c1 a2 c2, s8 = .pointer (some ⟨bt, 0, none⟩) ∧ s9 = .bool true ∧ RowIs wx bt 29 [.slice a1 p.fFrom.length c1, .slice a2 p.fTo.length c2] ∧ LB wx ANY a1 c1 p.fFrom ∧ LB wx ANY a2 c2 p.fTo ∧ Keep Nix w wx
section
attribute [local go_sem ↓] ldz_Routes
set_option maxRecDepth 100000 in
set_option maxHeartbeats 8000000 in
theorem parts_walk (W : World) (r : GRoutes) (csr : List Value) (s : GSpan) (css : List Value) (hr : rGRoutes W (· < W.heap.size) csr r) (hs : rGSpan W (· < W.heap.size) css s) :
    Calls Try.prog 4 #[.agg csr.toArray, .agg css.toArray] W fun e w' => e = .returned (.bool true) ∧ Keep Nix W w' := by
  have HR := Lib.hid hr
  have hlr := rGRoutes_lawful.len hr
  obtain ⟨aS, cS, aC, cC, hcsr, -, -, hS, -⟩ := rGRoutes_open hr
  obtain ⟨sF, dF, sT, dT, rfl, f1, f2, -⟩ := rGSpan_open hs
  have F1 : LB W ANY sF dF s.fFrom := LB.mono f1 (fun _ _ => trivial)
  have F2 : LB W ANY sT dT s.fTo := LB.mono f2 (fun _ _ => trivial)
  have k1 := fun (w : World) (o : Obj) => (Keep.refl Nix w).alloc o
  have kk : Keep Nix W ((W.alloc (.cells csr.toArray 25)).alloc (.cells #[.slice sF s.fFrom.length dF, .slice sT s.fTo.length dT] 29)) := (k1 _ _).trans (k1 _ _)
  have row0 : RowIs ((W.alloc (.cells csr.toArray 25)).alloc (.cells #[.slice sF s.fFrom.length dF, .slice sT s.fTo.length dT] 29)) W.heap.size 25 csr := (RowIs.alloc W _ _).keep (k1 _ _) id
  have rowS : RowIs ((W.alloc (.cells csr.toArray 25)).alloc (.cells #[.slice sF s.fFrom.length dF, .slice sT s.fTo.length dT] 29)) (W.heap.size + 1) 29 [.slice sF s.fFrom.length dF, .slice sT s.fTo.length dT] := by
    have h := RowIs.alloc (W.alloc (.cells csr.toArray 25)) #[.slice sF s.fFrom.length dF, .slice sT s.fTo.length dT] 29
    simpa using h
  have HCS := Lib.hid hcsr
  have HF1 := Lib.hid F1
  have HF2 := Lib.hid F2
  clear hr hs hS hcsr f1 f2 F1 F2 k1
  go_enter Try.func4, Try.ntmps4
  go_wp2_with fail
  go_fit (awake_c _)
  rintro e w1 ⟨rfl, k1⟩
  replace row0 := row0.keep k1 id
  replace rowS := rowS.keep k1 id
  replace kk := kk.trans k1
  clear k1
  generalize hbs : W.heap.size = bs at *
  have ldR := Whole.run (P := Try.prog) S_Routes hlr row0
  go_wp2_with fail
  go_fit (small_c r csr w1 (rGRoutes_lawful.nix HR.out kk))
  rintro e w2 ⟨rfl, k1⟩
  replace row0 := row0.keep k1 id
  replace rowS := rowS.keep k1 id
  replace kk := kk.trans k1
  clear k1 ldR
  cases hv : decide ((r.fSpans.length : Int) < 30) with
  | false =>
    go_wp2_with fail
    go_fit (awake_c _)
    rintro e w3 ⟨rfl, k1⟩
    go_wp2_with fail
    go_ret
    exact ⟨rfl, kk.trans k1⟩
  | true =>
  have HSM := Lib.hid hv
  clear hv
  have ldR := Whole.run (P := Try.prog) S_Routes hlr row0
  go_wp2_with fail
  go_fit (Right_c r csr w2 (rGRoutes_lawful.nix HR.out kk))
  rintro e w3 ⟨rfl, k1⟩
  replace row0 := row0.keep k1 id
  replace rowS := rowS.keep k1 id
  replace kk := kk.trans k1
  clear k1 ldR
  cases hv : rightB r with
  | false =>
    go_wp2_with fail
    go_fit (awake_c _)
    rintro e w3 ⟨rfl, k1⟩
    go_wp2_with fail
    go_ret
    exact ⟨rfl, kk.trans k1⟩
  | true =>
  have RP := Lib.hid (rightP hv)
  have hn4 := (rightP hv).len
  have hb4 := (rightP hv).base
  clear hv HSM
  have x0 := rowS.cell 0
  (try simp only [List.getElem?_cons_zero] at x0)
  have x1 := rowS.cell 1
  (try simp only [List.getElem?_cons_succ] at x1); (try simp only [List.getElem?_cons_zero] at x1)
  by_cases hf : s.fFrom = []
  · have hn := len0 hf
    clear hf HF1 HF2
    go_wp2_with fail
    go_fit (awake_c _)
    rintro e w3 ⟨rfl, k1⟩
    go_wp2_with fail
    go_ret
    exact ⟨rfl, kk.trans k1⟩
  have hn := len1 hf
  have hn2 := len_pos hf
  obtain ⟨bF, oF, rfl, -, hbF, hcF⟩ := HF1.out.1 (by simpa using hf)
  obtain ⟨cB, hh, hcB⟩ : ∃ cB : Int, (cB = 120 → ∃ t, s.fFrom = 120 :: t) ∧ W.cell? ⟨bF, oF, none⟩ = some (.int .u8 cB) := by
    cases hq : s.fFrom with
    | nil => exact absurd hq hf
    | cons c f' =>
      refine ⟨(c.toNat : Int), fun h => ⟨f', ?_⟩, hcF 0 _ (by rw [hq]; rfl)⟩
      rw [show c = 120 from UInt8.toNat_inj.1 (by show c.toNat = 120; omega)]
  have y0 := (kk.cell (p := ⟨bF, oF, none⟩) hbF id).trans hcB
  clear hcF hcB hf
  by_cases h5 : cB = 120
  rotate_left
  · clear hh HF1 HF2
    go_wp2_with fail
    go_fit (awake_c _)
    rintro e w3 ⟨rfl, k1⟩
    go_wp2_with fail
    go_ret
    exact ⟨rfl, kk.trans k1⟩
  have HH := Lib.hid (hh h5)
  subst h5
  clear hh
  go_upto_region 3 with fail
  clear y0 hn hn2
  obtain ⟨v, hv⟩ : ∃ v, decide (s.fTo = [] ∨ ltB [121] s.fTo = true) = v := ⟨_, rfl⟩
  have HV := Lib.hid hv
  clear hv
  go_cut [48] from 13 to 151 (fun s48 wx => s48 = .bool v ∧ w3 = wx)
  case first =>
    as_aux_lemma =>
    have c1 := conv_bytes (P := Try.prog) Try.underlying23 Try.underlying5 Try.underlying9 (cap := dT) rfl (HF2.out.keep kk).1
    clear row0 rowS HR HF1 RP
    by_cases ht : s.fTo = []
    · have hn := len0 ht
      have e : v = true := by rw [← HV.out]; simp [ht]
      subst e
      clear ht HF2 HV
      go_wp2_with fail
      go_meet
      exact ⟨rfl, rfl⟩
    · have hn := len1 ht
      have e : v = ltB [121] s.fTo := by rw [← HV.out]; simp [ht]
      have hq := strB_eq s.fTo [121]
      have b1 : Op.bytesLess (strB s.fTo).toList (strB [121]).toList = ltB s.fTo [121] := by rw [strB_toList, strB_toList]
      have e2 : ltB [121] s.fTo = !(ltB s.fTo [121] || decide (s.fTo = [121])) := by
        cases h1 : ltB s.fTo [121] with
        | true => rw [ltB_asymm h1]; rfl
        | false =>
          by_cases h2 : s.fTo = [121]
          · rw [h2, ltB_irrefl]; simp
          · rw [decide_eq_false h2]
            cases h3 : ltB [121] s.fTo with
            | true => rfl
            | false => exact absurd (ltB_total h1 h3) h2
      clear ht HF2 HV
      have b2 : Op.bytesLess (strB s.fTo).toList [121] = ltB s.fTo [121] := by rw [strB_toList]
      have b3 : ((strB s.fTo).toList == [121]) = decide (s.fTo = [121]) := by rw [strB_toList, Bool.eq_iff_iff]; simp
      go_wp2_with fail
      go_meet
      exact ⟨congrArg Value.bool (by rw [e, e2]; cases ltB s.fTo [121] <;> cases decide (s.fTo = [121]) <;> rfl), rfl⟩
  case rest =>
  obtain ⟨rfl, rfl⟩ := hcut
  have et0 : ∀ g : List UInt8, toF ⟨g, s.fTo⟩ = toF s := fun _ => rfl
  clear et0
  obtain ⟨f, to0⟩ := s
  (try dsimp only at *)
  have et : toF ⟨f, to0⟩ = if v then [121] else to0 := by unfold toF; rw [← HV.out]; simp only [decide_eq_true_eq]
  go_upto_if 48 with fail
  go_cut [] from 13 to 151 (fun wx => ReadyT W wx bs csr (some ⟨bF, oF, none⟩) dF f (toF ⟨f, to0⟩))
  case first =>
    as_aux_lemma =>
    cases v with
    | true =>
      have e : toF ⟨f, to0⟩ = [121] := et
      have k1 := fun (w : World) (o : Obj) => (Keep.refl Nix w).alloc o
      have kB : Keep Nix w3 (w3.alloc (.cells #[.int .u8 121] 5)) := k1 _ _
      have rowB := RowIs.alloc w3 #[.int .u8 121] 5
      have LX := LB.row (c := 121) rowB ANY trivial
      replace row0 := row0.keep kB id
      replace rowS := rowS.keep kB id
      replace kk := kk.trans kB
      have g1 := rowS.frozen 1
      have z0 := rowS.cell 0
      (try simp only [List.getElem?_cons_zero] at z0)
      have z1 := rowS.cell 1
      (try simp only [List.getElem?_cons_succ] at z1); (try simp only [List.getElem?_cons_zero] at z1)
      have hsB : bs + 1 < w3.heap.size + 1 := by have := rowS.lt; simpa using this
      have hne : bs + 1 ≠ w3.heap.size := by
        have := x1
        intro e
        rw [e] at this
        simp [World.cell?] at this
      have kS : Keep (· = bs + 1) (w3.alloc (.cells #[.int .u8 121] 5)) ((w3.alloc (.cells #[.int .u8 121] 5)).setCell ⟨bs + 1, 1, none⟩ (.slice (some ⟨w3.heap.size, 0, none⟩) 1 1)) := (Keep.refl (· = bs + 1) _).setCell (fun _ => rfl) _
      have rowF := rowS.set 1 (.slice (some ⟨w3.heap.size, 0, none⟩) 1 1)
      have HQ : Hid (ReadyT W ((w3.alloc (.cells #[.int .u8 121] 5)).setCell ⟨bs + 1, 1, none⟩ (.slice (some ⟨w3.heap.size, 0, none⟩) 1 1)) bs csr (some ⟨bF, oF, none⟩) dF f [121]) := ⟨_, 1, ⟨LB.to (LB.row (c := 121) rowB (· = w3.heap.size) rfl) kS (fun b hb e => hne (by omega)) (fun _ _ => trivial) |>.1, Nat.le_refl _, by show 1 ≤ far; decide⟩, row0.keep kS (by omega), rowF, kk.then kS (fun i hi e => by omega)⟩
      clear rowF kS LX rowB kB k1 HF1 HF2 HR RP
      go_wp2_with fail
      go_meet
      rw [e]
      exact HQ.out
    | false =>
      have e : toF ⟨f, to0⟩ = to0 := et
      have HQ : Hid (ReadyT W w3 bs csr (some ⟨bF, oF, none⟩) dF f to0) := ⟨sT, dT, HF2.out.keep kk, row0, rowS, kk⟩
      clear HF1 HF2 HR RP
      go_wp2_with fail
      go_meet
      rw [e]
      exact HQ.out
  case rest =>
  obtain ⟨aT, cT, LT, row1, rowT, kk1⟩ := hcut
  clear row0 rowS kk x0 x1 HV et HF2
  have LF := HF1.out.keep kk1
  have I : InP r ⟨f, toF ⟨f, to0⟩⟩ := ⟨RP.out, HH.out, toF_ne _, toF_le _⟩
  obtain ⟨t, ht⟩ : ∃ t, toF ⟨f, to0⟩ = t := ⟨_, rfl⟩
  rw [ht] at LT rowT I
  have c1 := conv_bytes (P := Try.prog) Try.underlying23 Try.underlying5 Try.underlying9 (cap := cT) rfl LT.1
  have c2 := conv_bytes (P := Try.prog) Try.underlying23 Try.underlying5 Try.underlying9 (cap := dF) rfl LF.1
  have x0 := rowT.cell 0
  (try simp only [List.getElem?_cons_zero] at x0)
  have x1 := rowT.cell 1
  (try simp only [List.getElem?_cons_succ] at x1); (try simp only [List.getElem?_cons_zero] at x1)
  have ldR := Whole.run (P := Try.prog) S_Routes hlr row1
  have G : rGSpan wc ANY [.slice (some ⟨bF, oF, none⟩) f.length dF, .slice aT t.length cT] ⟨f, t⟩ := mkS LF LT
  have HG := Lib.hid G
  have HIP := Lib.hid I
  have hcall := Over_c r csr ⟨f, t⟩ [.slice (some ⟨bF, oF, none⟩) f.length dF, .slice aT t.length cT] wc (rGRoutes_lawful.nix HR.out kk1) HG.out hb4 hn4.2
  clear G I ht
  have hq := strB_eq t f
  cases hlt : ltB f t with
  | false =>
    have hno := HIP.out.over_none hlt
    rw [hno] at hcall
    have t8 : (Op.bytesLess (strB t).toList (strB f).toList || (strB t).toList == (strB f).toList) = true := by
      rw [hq, strB_toList, strB_toList]
      cases h1 : ltB t f with
      | true => rw [show Op.bytesLess t f = true from h1]; rfl
      | false => rw [ltB_total h1 hlt]; simp
    clear hno hlt hq
    go_wp2_with fail
    go_fit hcall
    rintro e w4 ⟨al, cl, rfl, -, k1⟩
    clear hcall
    go_wp2_with fail
    go_ret
    exact ⟨rfl, kk1.trans k1⟩
  | true =>
  have t8 : Op.bytesLess (strB t).toList (strB f).toList = false := by rw [strB_toList, strB_toList]; exact ltB_asymm hlt
  have t9 : ((strB t).toList == (strB f).toList) = false := by rw [hq]; exact decide_eq_false (fun e => by rw [e, ltB_irrefl] at hlt; cases hlt)
  have HLT := Lib.hid hlt
  clear hlt hq
  go_wp2_with fail
  go_fit hcall
  clear hcall
  obtain ⟨l, hl⟩ : ∃ l, overF r ⟨f, t⟩ = l := ⟨_, rfl⟩
  rw [hl]
  have HLL := Lib.hid hl
  have HN : Hid l.Nodup := by show l.Nodup; rw [← hl]; exact HIP.out.over_nodup
  clear hl t8 t9
  rintro e w4 ⟨al, cl, rfl, own, k1⟩
  have HLI : Hid (Lies w4 ANY al (ints l)) := by
    intro hx
    obtain ⟨b, off, h1, h2, h3, h4⟩ := Lies.of_owned own hx
    exact ⟨b, off, h1, trivial, h3, h4⟩
  have hl8 : l.length ≤ 8 := by
    rw [← HLL.out, overF, List.length_mergeSort, List.length_append, HIP.out.no_rows]
    have := entL_len r ⟨f, t⟩ r.fSpans
    simp only [List.length_nil]
    omega
  replace row1 := row1.keep k1 id
  replace rowT := rowT.keep k1 id
  replace kk1 := kk1.trans k1
  replace LT := LT.keep k1
  replace LF := LF.keep k1
  have G4 := rGSpan_lawful.nix HG.out k1
  clear HG
  have HG := Lib.hid G4
  clear G4
  clear own k1 x0 x1 c1 c2 ldR
  have kk4 : Keep Nix w4 w4 := Keep.refl _ _
  go_wp2_with fail
  go_loopw [5, 7] (fun ps i wr => ∃ (k : Nat) (ks : List Nat) (a : Option Addr) (cap : Nat), k ≤ l.length ∧ i = .int .i64 k ∧ ps = .slice a ks.length cap ∧ Hid (ks = [] → a = none ∧ cap = 0) ∧ Hid (rList rGSpan wr ANY [.slice a ks.length cap] (ks.map (pieceK r ⟨f, t⟩))) ∧ Hid (ks.length = k) ∧ Hid (Ks r ⟨f, t⟩ (l.take k) ks) ∧
    RowIs wr bs 25 csr ∧ RowIs wr (bs + 1) 29 [.slice (some ⟨bF, oF, none⟩) f.length dF, .slice aT t.length cT] ∧ Keep Nix w4 wr) (fun _ i _ => l.length - (intOf i).toNat)
  case atStart => exact ⟨0, [], none, 0, by omega, rfl, rfl, fun _ => ⟨rfl, rfl⟩, rList_nil _ _ _, rfl, Ks.nil _ _, row1, rowT, kk4⟩
  case round =>
    clear row1 rowT kk4
    obtain ⟨i, ks, a, cap, hi, rfl, rfl, HA, HPL, HKL, HK, row1, rowT, kk4⟩ := hrel
    by_cases hlt : i < l.length
    · have hi1 : (i : Int) < (l.length : Int) := by omega
      have hi0 : (0 : Int) ≤ (i : Int) := by omega
      have hks : ks.length ≤ 8 := by have := HKL.out; omega
      obtain ⟨k, hk, hg, hin⟩ := (HIP.out.over_mem l[i]).1 (by rw [HLL.out]; exact List.getElem_mem hlt)
      have hP1 := HIP.out.step_in HLT.out k hk hin
      have HPT : Hid (PartF r l[i] ⟨f, t⟩ = (pieceK r ⟨f, t⟩ k, true)) := by show _ = _; rw [← hg, RP.out.part_own k hk]; exact hP1.1
      have HP2 : Hid (ltB (stp r ⟨f, t⟩ k) (stp r ⟨f, t⟩ (k + 1)) = true) := hP1.2
      have HNO : Hid (k ∉ ks) := fun h => by
        rw [HK.out.mem k hk, hg] at h
        have hn := HN.out
        rw [← List.take_append_drop i l, List.nodup_append] at hn
        exact hn.2.2 _ h _ (by rw [List.drop_eq_getElem_cons hlt]; exact List.mem_cons_self ..) rfl
      have HTK : Hid (l.take (i + 1) = l.take i ++ [r.fSpans[k].fGroup]) := by show _ = _; rw [List.take_succ_eq_append_getElem hlt, hg]
      have HKK : Hid (k < r.fSpans.length ∧ inK r ⟨f, t⟩ k = true) := ⟨hk, hin⟩
      obtain ⟨bl, ol, rfl, -, hbl, hcl⟩ := HLI.out (by intro e; have := congrArg List.length e; rw [List.length_map, List.length_nil] at this; omega)
      have xi := hcl i (.int .i64 l[i]) (by simp [ints, hlt])
      clear hP1 hg hin hcl
      generalize l[i] = g at *
      go_upto_region 12 with fail
      go_cut [8, 9] from 66 to 121 (fun s8 s9 wx => SpanAt wr wx (pieceK r ⟨f, t⟩ k) s8 s9)
      case first =>
        as_aux_lemma =>
        have hRc : ∀ w', Keep Nix wr w' → rGRoutes w' (· < bs) csr r := fun w' k' => rGRoutes_lawful.nix HR.out ((kk1.trans kk4).trans k')
        have HRc := Lib.hid hRc
        have hGc : ∀ w', Keep Nix wr w' → rGSpan w' ANY [.slice (some ⟨bF, oF, none⟩) f.length dF, .slice aT t.length cT] ⟨f, t⟩ := fun w' k' => rGSpan_lawful.nix HG.out ((kk4).trans k')
        have HGc := Lib.hid hGc
        have hO : ∀ w', Keep Nix wr w' → (fun w' => (wholeSem 25 (.pointer (some ⟨bs, 0, none⟩))).run Try.prog w' = .ok (.value (.agg csr.toArray)) w' ∧ w'.cell? ⟨bs + 1, 0, none⟩ = some (.slice (some ⟨bF, oF, none⟩) f.length dF) ∧ w'.cell? ⟨bs + 1, 1, none⟩ = some (.slice aT t.length cT) ∧ w'.cell? ⟨bl, ol + i, none⟩ = some (.int .i64 g)) w' := fun w' k' => ⟨Whole.run S_Routes hlr (row1.keep k' id), (rowT.keep k' id).cell 0, (rowT.keep k' id).cell 1, ((kk4.trans k').cell (p := ⟨bl, ol + i, none⟩) hbl id).trans xi⟩
        have HO := Lib.hid hO
        have kd : Keep Nix wr wr.drew := (Keep.refl Nix wr).drew
        clear hRc hO hGc row1 rowT kk4 LT LF
        refine wp_region_held_drew (S := (fun w' => (wholeSem 25 (.pointer (some ⟨bs, 0, none⟩))).run Try.prog w' = .ok (.value (.agg csr.toArray)) w' ∧ w'.cell? ⟨bs + 1, 0, none⟩ = some (.slice (some ⟨bF, oF, none⟩) f.length dF) ∧ w'.cell? ⟨bs + 1, 1, none⟩ = some (.slice aT t.length cT) ∧ w'.cell? ⟨bl, ol + i, none⟩ = some (.int .i64 g))) (by kernel_rfl) ((HO.out _ kd)) (fun hHeld => ?_)
        generalize wr.drew = wd at *
        refine wpAnyH_take (i := 0) (v := ?_) rfl (by kernel_rfl) (by kernel_rfl) (by kernel_rfl) (fun _ _ _ h => h) (Or.inl ⟨by kernel_rfl, ?_⟩) hHeld ?_
        rotate_left
        · intro w' hSw
          (try dsimp only at hSw)
          (try simp only [List.getElem_toArray]); (try simp only [List.getElem_cons_succ]); (try simp only [List.getElem_cons_zero])
          go_simp
          try with_reducible rfl
        (try simp only [Act.put]); (try simp only [List.getElem_toArray]); (try simp only [List.getElem_cons_succ]); (try simp only [List.getElem_cons_zero]); (try simp only [List.setIfInBounds_toArray]); (try simp only [List.set_cons_succ]); (try simp only [List.set_cons_zero])
        refine wpAnyH_take (i := 1) (v := ?_) rfl (by kernel_rfl) (by kernel_rfl) (by kernel_rfl) (fun _ _ _ h => h) (Or.inl ⟨by kernel_rfl, ?_⟩) hHeld ?_
        rotate_left
        · intro w' hSw
          (try dsimp only at hSw)
          (try simp only [List.getElem_toArray]); (try simp only [List.getElem_cons_succ]); (try simp only [List.getElem_cons_zero])
          go_simp
          try with_reducible rfl
        (try simp only [Act.put]); (try simp only [List.getElem_toArray]); (try simp only [List.getElem_cons_succ]); (try simp only [List.getElem_cons_zero]); (try simp only [List.setIfInBounds_toArray]); (try simp only [List.set_cons_succ]); (try simp only [List.set_cons_zero])
        refine wpAnyH_take (i := 2) (v := ?_) rfl (by kernel_rfl) (by kernel_rfl) (by kernel_rfl) (fun _ _ _ h => h) (Or.inl ⟨by kernel_rfl, ?_⟩) hHeld ?_
        rotate_left
        · intro w' hSw
          (try dsimp only at hSw)
          (try simp only [List.getElem_toArray]); (try simp only [List.getElem_cons_succ]); (try simp only [List.getElem_cons_zero])
          go_simp
          try with_reducible rfl
        (try simp only [Act.put]); (try simp only [List.getElem_toArray]); (try simp only [List.getElem_cons_succ]); (try simp only [List.getElem_cons_zero]); (try simp only [List.setIfInBounds_toArray]); (try simp only [List.set_cons_succ]); (try simp only [List.set_cons_zero])
        refine wpAnyH_take (i := 3) (v := ?_) rfl (by kernel_rfl) (by kernel_rfl) (by kernel_rfl) (fun _ _ _ h => h) (Or.inl ⟨by kernel_rfl, ?_⟩) hHeld ?_
        rotate_left
        · intro w' hSw
          (try dsimp only at hSw)
          (try simp only [List.getElem_toArray]); (try simp only [List.getElem_cons_succ]); (try simp only [List.getElem_cons_zero])
          go_simp
          try with_reducible rfl
        (try simp only [Act.put]); (try simp only [List.getElem_toArray]); (try simp only [List.getElem_cons_succ]); (try simp only [List.getElem_cons_zero]); (try simp only [List.setIfInBounds_toArray]); (try simp only [List.set_cons_succ]); (try simp only [List.set_cons_zero])
        refine wpAnyH_take (i := 4) (v := ?_) rfl (by kernel_rfl) (by kernel_rfl) (by kernel_rfl) (fun _ _ _ h => h) (Or.inl ⟨by kernel_rfl, ?_⟩) hHeld ?_
        rotate_left
        · intro w' hSw
          (try dsimp only at hSw)
          (try simp only [List.getElem_toArray]); (try simp only [List.getElem_cons_succ]); (try simp only [List.getElem_cons_zero])
          go_simp
          try with_reducible rfl
        (try simp only [Act.put]); (try simp only [List.getElem_toArray]); (try simp only [List.getElem_cons_succ]); (try simp only [List.getElem_cons_zero]); (try simp only [List.setIfInBounds_toArray]); (try simp only [List.set_cons_succ]); (try simp only [List.set_cons_zero])
        refine wpAnyH_take (i := 5) (v := ?_) rfl (by kernel_rfl) (by kernel_rfl) (by kernel_rfl) (fun _ _ _ h => h) (Or.inl ⟨by kernel_rfl, ?_⟩) hHeld ?_
        rotate_left
        · intro w' hSw
          (try dsimp only at hSw)
          (try simp only [List.getElem_toArray]); (try simp only [List.getElem_cons_succ]); (try simp only [List.getElem_cons_zero])
          go_simp
          try with_reducible rfl
        (try simp only [Act.put]); (try simp only [List.getElem_toArray]); (try simp only [List.getElem_cons_succ]); (try simp only [List.getElem_cons_zero]); (try simp only [List.setIfInBounds_toArray]); (try simp only [List.set_cons_succ]); (try simp only [List.set_cons_zero])
        refine wpAnyH_ready (rs := [6, 10]) (by kernel_rfl) (by simp) ?_
        refine AllReadyH.cons rfl (fun K hK => ?_) (AllReadyH.cons rfl (fun K hK => ?_) AllReadyH.nil)
        · (try have hgl := rowM.lt)
          go_simp
          go_fit (Part_c r csr g ⟨f, t⟩ _ _ (HRc.out _ kd) (HGc.out _ kd))
          rw [HPT.out]
          rintro e w2 ⟨csx, rfl, rx, k2⟩
          obtain ⟨a1, c1, a2, c2, rfl, L1, L2, -⟩ := rGSpan_open rx
          have L1 : LB w2 (NewIn _ w2) a1 c1 (stp r ⟨f, t⟩ k) := L1
          have L2 : LB w2 (NewIn _ w2) a2 c2 (stp r ⟨f, t⟩ (k + 1)) := L2
          (try replace rowM := rowM.keep k2 id)
          replace kd := kd.trans k2
          clear k2 rx
          go_wp2_with fail
          refine hK.out _ _ ((HO.out _ kd)) (fun hHeld => ?_)
          clear hK K
          (try simp only [Act.put]); (try simp only [List.getElem_toArray]); (try simp only [List.getElem_cons_succ]); (try simp only [List.getElem_cons_zero]); (try simp only [List.setIfInBounds_toArray]); (try simp only [List.set_cons_succ]); (try simp only [List.set_cons_zero])
          refine wpAnyH_take (i := 7) (v := ?_) rfl (by kernel_rfl) (by kernel_rfl) (by kernel_rfl) (fun _ _ _ h => h) (Or.inl ⟨by kernel_rfl, ?_⟩) hHeld ?_
          rotate_left
          · intro w' hSw
            (try dsimp only at hSw)
            (try simp only [List.getElem_toArray]); (try simp only [List.getElem_cons_succ]); (try simp only [List.getElem_cons_zero])
            go_simp
            try with_reducible rfl
          (try simp only [Act.put]); (try simp only [List.getElem_toArray]); (try simp only [List.getElem_cons_succ]); (try simp only [List.getElem_cons_zero]); (try simp only [List.setIfInBounds_toArray]); (try simp only [List.set_cons_succ]); (try simp only [List.set_cons_zero])
          refine wpAnyH_take (i := 8) (v := ?_) rfl (by kernel_rfl) (by kernel_rfl) (by kernel_rfl) (fun _ _ _ h => h) (Or.inl ⟨by kernel_rfl, ?_⟩) hHeld ?_
          rotate_left
          · intro w' hSw
            (try dsimp only at hSw)
            (try simp only [List.getElem_toArray]); (try simp only [List.getElem_cons_succ]); (try simp only [List.getElem_cons_zero])
            go_simp
            try with_reducible rfl
          (try simp only [Act.put]); (try simp only [List.getElem_toArray]); (try simp only [List.getElem_cons_succ]); (try simp only [List.getElem_cons_zero]); (try simp only [List.setIfInBounds_toArray]); (try simp only [List.set_cons_succ]); (try simp only [List.set_cons_zero])
          refine wpAnyH_take (i := 9) (v := ?_) rfl (by kernel_rfl) (by kernel_rfl) (by kernel_rfl) (fun _ _ _ h => h) (Or.inl ⟨by kernel_rfl, ?_⟩) hHeld ?_
          rotate_left
          · intro w' hSw
            (try dsimp only at hSw)
            (try simp only [List.getElem_toArray]); (try simp only [List.getElem_cons_succ]); (try simp only [List.getElem_cons_zero])
            go_simp
            try with_reducible rfl
          (try simp only [Act.put]); (try simp only [List.getElem_toArray]); (try simp only [List.getElem_cons_succ]); (try simp only [List.getElem_cons_zero]); (try simp only [List.setIfInBounds_toArray]); (try simp only [List.set_cons_succ]); (try simp only [List.set_cons_zero])
          refine wpAnyH_ready (rs := [10]) (by kernel_rfl) (by simp) ?_
          refine AllReadyH.cons rfl (fun K hK => ?_) AllReadyH.nil
          go_simp
          obtain ⟨rowM, kA, hgm, -⟩ := kk_alloc kd #[.slice none 0 0, .slice none 0 0] 29
          have HGM := Lib.hid hgm
          (try replace L1 := LB.keep L1 ((Keep.refl Nix _).alloc (.cells #[.slice none 0 0, .slice none 0 0] 29)))
          (try replace L2 := LB.keep L2 ((Keep.refl Nix _).alloc (.cells #[.slice none 0 0, .slice none 0 0] 29)))
          replace kd := kA
          clear kA hgm
          refine hK.out _ _ ((HO.out _ kd)) (fun hHeld => ?_)
          clear hK K
          (try simp only [Act.put]); (try simp only [List.getElem_toArray]); (try simp only [List.getElem_cons_succ]); (try simp only [List.getElem_cons_zero]); (try simp only [List.setIfInBounds_toArray]); (try simp only [List.set_cons_succ]); (try simp only [List.set_cons_zero])
          first
            | generalize w2.alloc (.cells #[.slice none 0 0, .slice none 0 0] 29) = wA at *
            | generalize wd.alloc (.cells #[.slice none 0 0, .slice none 0 0] 29) = wA at *
          refine wpAnyH_ready (rs := [11]) (by kernel_rfl) (by simp) ?_
          refine AllReadyH.cons rfl (fun K hK => ?_) AllReadyH.nil
          have q0 := rowM.cell 0
          (try simp only [List.getElem?_cons_zero] at q0)
          have q1 := rowM.cell 1
          (try simp only [List.getElem?_cons_succ] at q1); (try simp only [List.getElem?_cons_zero] at q1)
          have h0 := rowM.frozen 0
          have h1 := rowM.frozen 1
          (try simp only [List.getElem_toArray]); (try simp only [List.getElem_cons_succ]); (try simp only [List.getElem_cons_zero])
          go_simp
          clear q0 q1 h0 h1
          refine hK.out _ _ ((HO.out _ (kk_cell2 kd HGM.out _ _))) (fun hHeld => ?_)
          clear hK K
          (try simp only [Act.put]); (try simp only [List.getElem_toArray]); (try simp only [List.getElem_cons_succ]); (try simp only [List.getElem_cons_zero]); (try simp only [List.setIfInBounds_toArray]); (try simp only [List.set_cons_succ]); (try simp only [List.set_cons_zero])
          refine wpAnyH_take (i := 12) (v := ?_) rfl (by kernel_rfl) (by kernel_rfl) (by kernel_rfl) (fun _ _ _ h => h) (Or.inl ⟨by kernel_rfl, ?_⟩) hHeld ?_
          rotate_left
          · intro w' hSw
            (try dsimp only at hSw)
            (try simp only [List.getElem_toArray]); (try simp only [List.getElem_cons_succ]); (try simp only [List.getElem_cons_zero])
            go_simp
            try with_reducible rfl
          (try simp only [Act.put]); (try simp only [List.getElem_toArray]); (try simp only [List.getElem_cons_succ]); (try simp only [List.getElem_cons_zero]); (try simp only [List.setIfInBounds_toArray]); (try simp only [List.set_cons_succ]); (try simp only [List.set_cons_zero])
          refine wpAnyH_done (by kernel_rfl) ?_ _
          clear hHeld
          go_wp2_with fail
          go_meet
          refine ⟨_, a1, c1, a2, c2, rfl, rfl, (rowM.set 0 _).set 1 _, ?_, ?_, kk_cell2 kd HGM.out _ _⟩
          · exact L1.to (keep2 _ _ _ _) (fun b hb e => by have h1 := hb.1; have h2 := hb.2; subst e; omega) (fun _ _ => trivial)
          · exact L2.to (keep2 _ _ _ _) (fun b hb e => by have h1 := hb.1; have h2 := hb.2; subst e; omega) (fun _ _ => trivial)
        · go_simp
          obtain ⟨rowM, kA, hgm, -⟩ := kk_alloc kd #[.slice none 0 0, .slice none 0 0] 29
          have HGM := Lib.hid hgm
          (try replace L1 := LB.keep L1 ((Keep.refl Nix _).alloc (.cells #[.slice none 0 0, .slice none 0 0] 29)))
          (try replace L2 := LB.keep L2 ((Keep.refl Nix _).alloc (.cells #[.slice none 0 0, .slice none 0 0] 29)))
          replace kd := kA
          clear kA hgm
          refine hK.out _ _ ((HO.out _ kd)) (fun hHeld => ?_)
          clear hK K
          (try simp only [Act.put]); (try simp only [List.getElem_toArray]); (try simp only [List.getElem_cons_succ]); (try simp only [List.getElem_cons_zero]); (try simp only [List.setIfInBounds_toArray]); (try simp only [List.set_cons_succ]); (try simp only [List.set_cons_zero])
          first
            | generalize w2.alloc (.cells #[.slice none 0 0, .slice none 0 0] 29) = wA at *
            | generalize wd.alloc (.cells #[.slice none 0 0, .slice none 0 0] 29) = wA at *
          refine wpAnyH_ready (rs := [6]) (by kernel_rfl) (by simp) ?_
          refine AllReadyH.cons rfl (fun K hK => ?_) AllReadyH.nil
          (try have hgl := rowM.lt)
          go_simp
          go_fit (Part_c r csr g ⟨f, t⟩ _ _ (HRc.out _ kd) (HGc.out _ kd))
          rw [HPT.out]
          rintro e w2 ⟨csx, rfl, rx, k2⟩
          obtain ⟨a1, c1, a2, c2, rfl, L1, L2, -⟩ := rGSpan_open rx
          have L1 : LB w2 (NewIn _ w2) a1 c1 (stp r ⟨f, t⟩ k) := L1
          have L2 : LB w2 (NewIn _ w2) a2 c2 (stp r ⟨f, t⟩ (k + 1)) := L2
          (try replace rowM := rowM.keep k2 id)
          replace kd := kd.trans k2
          clear k2 rx
          go_wp2_with fail
          refine hK.out _ _ ((HO.out _ kd)) (fun hHeld => ?_)
          clear hK K
          (try simp only [Act.put]); (try simp only [List.getElem_toArray]); (try simp only [List.getElem_cons_succ]); (try simp only [List.getElem_cons_zero]); (try simp only [List.setIfInBounds_toArray]); (try simp only [List.set_cons_succ]); (try simp only [List.set_cons_zero])
          refine wpAnyH_take (i := 7) (v := ?_) rfl (by kernel_rfl) (by kernel_rfl) (by kernel_rfl) (fun _ _ _ h => h) (Or.inl ⟨by kernel_rfl, ?_⟩) hHeld ?_
          rotate_left
          · intro w' hSw
            (try dsimp only at hSw)
            (try simp only [List.getElem_toArray]); (try simp only [List.getElem_cons_succ]); (try simp only [List.getElem_cons_zero])
            go_simp
            try with_reducible rfl
          (try simp only [Act.put]); (try simp only [List.getElem_toArray]); (try simp only [List.getElem_cons_succ]); (try simp only [List.getElem_cons_zero]); (try simp only [List.setIfInBounds_toArray]); (try simp only [List.set_cons_succ]); (try simp only [List.set_cons_zero])
          refine wpAnyH_take (i := 8) (v := ?_) rfl (by kernel_rfl) (by kernel_rfl) (by kernel_rfl) (fun _ _ _ h => h) (Or.inl ⟨by kernel_rfl, ?_⟩) hHeld ?_
          rotate_left
          · intro w' hSw
            (try dsimp only at hSw)
            (try simp only [List.getElem_toArray]); (try simp only [List.getElem_cons_succ]); (try simp only [List.getElem_cons_zero])
            go_simp
            try with_reducible rfl
          (try simp only [Act.put]); (try simp only [List.getElem_toArray]); (try simp only [List.getElem_cons_succ]); (try simp only [List.getElem_cons_zero]); (try simp only [List.setIfInBounds_toArray]); (try simp only [List.set_cons_succ]); (try simp only [List.set_cons_zero])
          refine wpAnyH_take (i := 9) (v := ?_) rfl (by kernel_rfl) (by kernel_rfl) (by kernel_rfl) (fun _ _ _ h => h) (Or.inl ⟨by kernel_rfl, ?_⟩) hHeld ?_
          rotate_left
          · intro w' hSw
            (try dsimp only at hSw)
            (try simp only [List.getElem_toArray]); (try simp only [List.getElem_cons_succ]); (try simp only [List.getElem_cons_zero])
            go_simp
            try with_reducible rfl
          (try simp only [Act.put]); (try simp only [List.getElem_toArray]); (try simp only [List.getElem_cons_succ]); (try simp only [List.getElem_cons_zero]); (try simp only [List.setIfInBounds_toArray]); (try simp only [List.set_cons_succ]); (try simp only [List.set_cons_zero])
          refine wpAnyH_ready (rs := [11]) (by kernel_rfl) (by simp) ?_
          refine AllReadyH.cons rfl (fun K hK => ?_) AllReadyH.nil
          have q0 := rowM.cell 0
          (try simp only [List.getElem?_cons_zero] at q0)
          have q1 := rowM.cell 1
          (try simp only [List.getElem?_cons_succ] at q1); (try simp only [List.getElem?_cons_zero] at q1)
          have h0 := rowM.frozen 0
          have h1 := rowM.frozen 1
          (try simp only [List.getElem_toArray]); (try simp only [List.getElem_cons_succ]); (try simp only [List.getElem_cons_zero])
          go_simp
          clear q0 q1 h0 h1
          refine hK.out _ _ ((HO.out _ (kk_cell2 kd HGM.out _ _))) (fun hHeld => ?_)
          clear hK K
          (try simp only [Act.put]); (try simp only [List.getElem_toArray]); (try simp only [List.getElem_cons_succ]); (try simp only [List.getElem_cons_zero]); (try simp only [List.setIfInBounds_toArray]); (try simp only [List.set_cons_succ]); (try simp only [List.set_cons_zero])
          refine wpAnyH_take (i := 12) (v := ?_) rfl (by kernel_rfl) (by kernel_rfl) (by kernel_rfl) (fun _ _ _ h => h) (Or.inl ⟨by kernel_rfl, ?_⟩) hHeld ?_
          rotate_left
          · intro w' hSw
            (try dsimp only at hSw)
            (try simp only [List.getElem_toArray]); (try simp only [List.getElem_cons_succ]); (try simp only [List.getElem_cons_zero])
            go_simp
            try with_reducible rfl
          (try simp only [Act.put]); (try simp only [List.getElem_toArray]); (try simp only [List.getElem_cons_succ]); (try simp only [List.getElem_cons_zero]); (try simp only [List.setIfInBounds_toArray]); (try simp only [List.set_cons_succ]); (try simp only [List.set_cons_zero])
          refine wpAnyH_done (by kernel_rfl) ?_ _
          clear hHeld
          go_wp2_with fail
          go_meet
          refine ⟨_, a1, c1, a2, c2, rfl, rfl, (rowM.set 0 _).set 1 _, ?_, ?_, kk_cell2 kd HGM.out _ _⟩
          · exact L1.to (keep2 _ _ _ _) (fun b hb e => by have h1 := hb.1; have h2 := hb.2; subst e; omega) (fun _ _ => trivial)
          · exact L2.to (keep2 _ _ _ _) (fun b hb e => by have h1 := hb.1; have h2 := hb.2; subst e; omega) (fun _ _ => trivial)
      case rest =>
      obtain ⟨bt, a1, c1, a2, c2, rfl, rfl, row8, L1, L2, kd⟩ := hcut
      replace row1 := row1.keep kd id
      replace rowT := rowT.keep kd id
      replace kk4 := kk4.trans kd
      have HPL2 : Hid (rList rGSpan _ ANY _ _) := (rList_lawful rGSpan_lawful).nix HPL.out kd
      clear kd xi HPT HPL
      have L1 : LB _ ANY a1 c1 (stp r ⟨f, t⟩ k) := L1
      have L2 : LB _ ANY a2 c2 (stp r ⟨f, t⟩ (k + 1)) := L2
      have row8 : RowIs _ bt 29 [.slice a1 (stp r ⟨f, t⟩ k).length c1, .slice a2 (stp r ⟨f, t⟩ (k + 1)).length c2] := row8
      obtain ⟨p1, hp1⟩ : ∃ y, stp r ⟨f, t⟩ k = y := ⟨_, rfl⟩
      obtain ⟨p2, hp2⟩ : ∃ y, stp r ⟨f, t⟩ (k + 1) = y := ⟨_, rfl⟩
      have HX1 := Lib.hid hp1
      have HX2 := Lib.hid hp2
      rw [hp1] at L1 row8 HP2
      rw [hp2] at L2 row8 HP2
      clear hp1 hp2
      have q1 := conv_bytes (P := Try.prog) Try.underlying23 Try.underlying5 Try.underlying9 (cap := c1) rfl L1.1
      have q2 := conv_bytes (P := Try.prog) Try.underlying23 Try.underlying5 Try.underlying9 (cap := c2) rfl L2.1
      have z0 := row8.cell 0
      (try simp only [List.getElem?_cons_zero] at z0)
      have z1 := row8.cell 1
      (try simp only [List.getElem?_cons_succ] at z1); (try simp only [List.getElem?_cons_zero] at z1)
      have t1 : Op.bytesLess (strB p1).toList (strB p2).toList = true := by rw [strB_toList, strB_toList]; exact HP2.out
      have t2 : Op.bytesLess p1 p2 = true := HP2.out
      go_wp2_with fail
      clear q1 q2 z0 z1 t1 t2
      go_loopw [10] (fun jv w2 => ∃ j : Nat, j ≤ ks.length ∧ jv = .int .i64 j ∧ Hid (∀ (q : Nat) (h : q < ks.length), q < j → ks[q] < k) ∧ Keep Nix wc w2) (fun jv _ => ks.length - (intOf jv).toNat)
      case atStart => exact ⟨0, by omega, rfl, fun q h hq => by omega, Keep.refl _ _⟩
      case round =>
        obtain ⟨j, hj, rfl, HLO, kn⟩ := hrel
        have hj0 : (0 : Int) ≤ (j : Int) := by omega
        have HPN : Hid (rList rGSpan wr ANY [.slice a ks.length cap] (ks.map (pieceK r ⟨f, t⟩))) := (rList_lawful rGSpan_lawful).nix HPL2.out kn
        have row8n := row8.keep kn id
        have L1n := L1.keep kn
        have L2n := L2.keep kn
        obtain ⟨v, HVV⟩ : ∃ v : Bool, Hid ((v = true ∧ ∃ h : j < ks.length, ks[j] < k) ∨ (v = false ∧ (j = ks.length ∨ ∃ h : j < ks.length, k < ks[j]))) := by
          by_cases h : j < ks.length
          · by_cases h2 : ks[j] < k
            · exact ⟨true, .inl ⟨rfl, h, h2⟩⟩
            · refine ⟨false, .inr ⟨rfl, .inr ⟨h, ?_⟩⟩⟩
              have : ks[j] ≠ k := fun e => HNO.out (by rw [← e]; exact List.getElem_mem h)
              omega
          · exact ⟨false, .inr ⟨rfl, .inl (by omega)⟩⟩
        go_upto_region 16 with fail
        go_cut [108] from 93 to 110 (fun s108 wx => s108 = .bool v ∧ Keep Nix wr wx)
        case first =>
          as_aux_lemma =>
          have kd : Keep Nix wr wr.drew := (Keep.refl Nix wr).drew
          by_cases hjl : j < ks.length
          · have hj1 : (j : Int) < (ks.length : Int) := by omega
            obtain ⟨b3, o3, _, c3, e1, -, hb3, zr, zc⟩ := rList_at rGSpan_lawful (by decide) HPN.out j (by simpa using hjl)
            simp only [List.cons.injEq, Value.slice.injEq, List.length_map, and_true] at e1
            obtain ⟨rfl, -, -⟩ := e1
            rw [List.getElem_map] at zr
            obtain ⟨a3, d3, a4, d4, rfl, L3, -, -⟩ := rGSpan_open zr
            have L3 : LB wr ANY a3 d3 (stp r ⟨f, t⟩ ks[j]) := L3
            have z3 := zc 0 _ rfl
            (try simp only [Nat.add_zero] at z3)
            have hcm := HIP.out.cmp_in HLT.out ks[j] k (HK.out.ok _ (List.getElem_mem hjl)).1 HKK.out.1 (HK.out.ok _ (List.getElem_mem hjl)).2 HKK.out.2
            rw [HX1.out] at hcm
            obtain ⟨p3, hp3⟩ : ∃ y, stp r ⟨f, t⟩ ks[j] = y := ⟨_, rfl⟩
            have z3 : wr.cell? ⟨b3, o3 + j * 2, none⟩ = some (.slice a3 (stp r ⟨f, t⟩ ks[j]).length d3) := z3
            rw [hp3] at L3 hcm z3
            clear hp3
            have hO : ∀ w', Keep Nix wr w' → (fun w' => w'.cell? ⟨b3, o3 + j * 2, none⟩ = some (.slice a3 p3.length d3) ∧ w'.cell? ⟨bt, 0, none⟩ = some (.slice a1 p1.length c1) ∧ (convert 23 9 (.slice a3 p3.length d3)).run Try.prog w' = .ok (.string (strB p3)) w' ∧ (convert 23 9 (.slice a1 p1.length c1)).run Try.prog w' = .ok (.string (strB p1)) w') w' := fun w' k' => ⟨(k'.cell (p := ⟨b3, o3 + j * 2, none⟩) hb3 id).trans z3, (row8n.keep k' id).cell 0, conv_bytes (P := Try.prog) Try.underlying23 Try.underlying5 Try.underlying9 rfl (L3.keep k').1, conv_bytes (P := Try.prog) Try.underlying23 Try.underlying5 Try.underlying9 rfl (L1n.keep k').1⟩
            have HO := Lib.hid hO
            clear hO z3 zr zc L3
            cases v with
            | true =>
              have t1 : Op.bytesLess (strB p3).toList (strB p1).toList = true := by
                rw [strB_toList, strB_toList]
                rcases HVV.out with ⟨-, h, h2⟩ | ⟨h, -⟩
                · exact hcm.trans (decide_eq_true h2)
                · cases h
              clear hcm
              refine wp_region_held_drew (S := (fun w' => w'.cell? ⟨b3, o3 + j * 2, none⟩ = some (.slice a3 p3.length d3) ∧ w'.cell? ⟨bt, 0, none⟩ = some (.slice a1 p1.length c1) ∧ (convert 23 9 (.slice a3 p3.length d3)).run Try.prog w' = .ok (.string (strB p3)) w' ∧ (convert 23 9 (.slice a1 p1.length c1)).run Try.prog w' = .ok (.string (strB p1)) w')) (by kernel_rfl) ((HO.out _ kd)) (fun hHeld => ?_)
              generalize wr.drew = wd at *
              refine wpAnyH_take (i := 0) (v := ?_) rfl (by kernel_rfl) (by kernel_rfl) (by kernel_rfl) (fun _ _ _ h => h) (Or.inl ⟨by kernel_rfl, ?_⟩) hHeld ?_
              rotate_left
              · intro w' hSw
                (try dsimp only at hSw)
                (try simp only [List.getElem_toArray]); (try simp only [List.getElem_cons_succ]); (try simp only [List.getElem_cons_zero])
                go_simp
                try with_reducible rfl
              (try simp only [Act.put]); (try simp only [List.getElem_toArray]); (try simp only [List.getElem_cons_succ]); (try simp only [List.getElem_cons_zero]); (try simp only [List.setIfInBounds_toArray]); (try simp only [List.set_cons_succ]); (try simp only [List.set_cons_zero])
              refine wpAnyH_take (i := 1) (v := ?_) rfl (by kernel_rfl) (by kernel_rfl) (by kernel_rfl) (fun _ _ _ h => h) (Or.inl ⟨by kernel_rfl, ?_⟩) hHeld ?_
              rotate_left
              · intro w' hSw
                (try dsimp only at hSw)
                (try simp only [List.getElem_toArray]); (try simp only [List.getElem_cons_succ]); (try simp only [List.getElem_cons_zero])
                go_simp
                try with_reducible rfl
              (try simp only [Act.put]); (try simp only [List.getElem_toArray]); (try simp only [List.getElem_cons_succ]); (try simp only [List.getElem_cons_zero]); (try simp only [List.setIfInBounds_toArray]); (try simp only [List.set_cons_succ]); (try simp only [List.set_cons_zero])
              refine wpAnyH_take (i := 2) (v := ?_) rfl (by kernel_rfl) (by kernel_rfl) (by kernel_rfl) (fun _ _ _ h => h) (Or.inl ⟨by kernel_rfl, ?_⟩) hHeld ?_
              rotate_left
              · intro w' hSw
                (try dsimp only at hSw)
                (try simp only [List.getElem_toArray]); (try simp only [List.getElem_cons_succ]); (try simp only [List.getElem_cons_zero])
                go_simp
                try with_reducible rfl
              (try simp only [Act.put]); (try simp only [List.getElem_toArray]); (try simp only [List.getElem_cons_succ]); (try simp only [List.getElem_cons_zero]); (try simp only [List.setIfInBounds_toArray]); (try simp only [List.set_cons_succ]); (try simp only [List.set_cons_zero])
              refine wpAnyH_take (i := 3) (v := ?_) rfl (by kernel_rfl) (by kernel_rfl) (by kernel_rfl) (fun _ _ _ h => h) (Or.inl ⟨by kernel_rfl, ?_⟩) hHeld ?_
              rotate_left
              · intro w' hSw
                (try dsimp only at hSw)
                (try simp only [List.getElem_toArray]); (try simp only [List.getElem_cons_succ]); (try simp only [List.getElem_cons_zero])
                go_simp
                try with_reducible rfl
              (try simp only [Act.put]); (try simp only [List.getElem_toArray]); (try simp only [List.getElem_cons_succ]); (try simp only [List.getElem_cons_zero]); (try simp only [List.setIfInBounds_toArray]); (try simp only [List.set_cons_succ]); (try simp only [List.set_cons_zero])
              refine wpAnyH_take (i := 4) (v := ?_) rfl (by kernel_rfl) (by kernel_rfl) (by kernel_rfl) (fun _ _ _ h => h) (Or.inl ⟨by kernel_rfl, ?_⟩) hHeld ?_
              rotate_left
              · intro w' hSw
                (try dsimp only at hSw)
                (try simp only [List.getElem_toArray]); (try simp only [List.getElem_cons_succ]); (try simp only [List.getElem_cons_zero])
                go_simp
                try with_reducible rfl
              (try simp only [Act.put]); (try simp only [List.getElem_toArray]); (try simp only [List.getElem_cons_succ]); (try simp only [List.getElem_cons_zero]); (try simp only [List.setIfInBounds_toArray]); (try simp only [List.set_cons_succ]); (try simp only [List.set_cons_zero])
              refine wpAnyH_take (i := 5) (v := ?_) rfl (by kernel_rfl) (by kernel_rfl) (by kernel_rfl) (fun _ _ _ h => h) (Or.inl ⟨by kernel_rfl, ?_⟩) hHeld ?_
              rotate_left
              · intro w' hSw
                (try dsimp only at hSw)
                (try simp only [List.getElem_toArray]); (try simp only [List.getElem_cons_succ]); (try simp only [List.getElem_cons_zero])
                go_simp
                try with_reducible rfl
              (try simp only [Act.put]); (try simp only [List.getElem_toArray]); (try simp only [List.getElem_cons_succ]); (try simp only [List.getElem_cons_zero]); (try simp only [List.setIfInBounds_toArray]); (try simp only [List.set_cons_succ]); (try simp only [List.set_cons_zero])
              refine wpAnyH_take (i := 6) (v := ?_) rfl (by kernel_rfl) (by kernel_rfl) (by kernel_rfl) (fun _ _ _ h => h) (Or.inl ⟨by kernel_rfl, ?_⟩) hHeld ?_
              rotate_left
              · intro w' hSw
                (try dsimp only at hSw)
                (try simp only [List.getElem_toArray]); (try simp only [List.getElem_cons_succ]); (try simp only [List.getElem_cons_zero])
                go_simp
                try with_reducible rfl
              (try simp only [Act.put]); (try simp only [List.getElem_toArray]); (try simp only [List.getElem_cons_succ]); (try simp only [List.getElem_cons_zero]); (try simp only [List.setIfInBounds_toArray]); (try simp only [List.set_cons_succ]); (try simp only [List.set_cons_zero])
              refine wpAnyH_take (i := 7) (v := ?_) rfl (by kernel_rfl) (by kernel_rfl) (by kernel_rfl) (fun _ _ _ h => h) (Or.inl ⟨by kernel_rfl, ?_⟩) hHeld ?_
              rotate_left
              · intro w' hSw
                (try dsimp only at hSw)
                (try simp only [List.getElem_toArray]); (try simp only [List.getElem_cons_succ]); (try simp only [List.getElem_cons_zero])
                go_simp
                try with_reducible rfl
              (try simp only [Act.put]); (try simp only [List.getElem_toArray]); (try simp only [List.getElem_cons_succ]); (try simp only [List.getElem_cons_zero]); (try simp only [List.setIfInBounds_toArray]); (try simp only [List.set_cons_succ]); (try simp only [List.set_cons_zero])
              refine wpAnyH_take (i := 8) (v := ?_) rfl (by kernel_rfl) (by kernel_rfl) (by kernel_rfl) (fun _ _ _ h => h) (Or.inl ⟨by kernel_rfl, ?_⟩) hHeld ?_
              rotate_left
              · intro w' hSw
                (try dsimp only at hSw)
                (try simp only [List.getElem_toArray]); (try simp only [List.getElem_cons_succ]); (try simp only [List.getElem_cons_zero])
                go_simp
                try with_reducible rfl
              (try simp only [Act.put]); (try simp only [List.getElem_toArray]); (try simp only [List.getElem_cons_succ]); (try simp only [List.getElem_cons_zero]); (try simp only [List.setIfInBounds_toArray]); (try simp only [List.set_cons_succ]); (try simp only [List.set_cons_zero])
              refine wpAnyH_take (i := 9) (v := ?_) rfl (by kernel_rfl) (by kernel_rfl) (by kernel_rfl) (fun _ _ _ h => h) (Or.inl ⟨by kernel_rfl, ?_⟩) hHeld ?_
              rotate_left
              · intro w' hSw
                (try dsimp only at hSw)
                (try simp only [List.getElem_toArray]); (try simp only [List.getElem_cons_succ]); (try simp only [List.getElem_cons_zero])
                go_simp
                try with_reducible rfl
              (try simp only [Act.put]); (try simp only [List.getElem_toArray]); (try simp only [List.getElem_cons_succ]); (try simp only [List.getElem_cons_zero]); (try simp only [List.setIfInBounds_toArray]); (try simp only [List.set_cons_succ]); (try simp only [List.set_cons_zero])
              refine wpAnyH_take (i := 10) (v := ?_) rfl (by kernel_rfl) (by kernel_rfl) (by kernel_rfl) (fun _ _ _ h => h) (Or.inl ⟨by kernel_rfl, ?_⟩) hHeld ?_
              rotate_left
              · intro w' hSw
                (try dsimp only at hSw)
                (try simp only [List.getElem_toArray]); (try simp only [List.getElem_cons_succ]); (try simp only [List.getElem_cons_zero])
                go_simp
                try with_reducible rfl
              (try simp only [Act.put]); (try simp only [List.getElem_toArray]); (try simp only [List.getElem_cons_succ]); (try simp only [List.getElem_cons_zero]); (try simp only [List.setIfInBounds_toArray]); (try simp only [List.set_cons_succ]); (try simp only [List.set_cons_zero])
              refine wpAnyH_take (i := 11) (v := ?_) rfl (by kernel_rfl) (by kernel_rfl) (by kernel_rfl) (fun _ _ _ h => h) (Or.inl ⟨by kernel_rfl, ?_⟩) hHeld ?_
              rotate_left
              · intro w' hSw
                (try dsimp only at hSw)
                (try simp only [List.getElem_toArray]); (try simp only [List.getElem_cons_succ]); (try simp only [List.getElem_cons_zero])
                go_simp
                try with_reducible rfl
              (try simp only [Act.put]); (try simp only [List.getElem_toArray]); (try simp only [List.getElem_cons_succ]); (try simp only [List.getElem_cons_zero]); (try simp only [List.setIfInBounds_toArray]); (try simp only [List.set_cons_succ]); (try simp only [List.set_cons_zero])
              refine wpAnyH_take (i := 12) (v := ?_) rfl (by kernel_rfl) (by kernel_rfl) (by kernel_rfl) (fun _ _ _ h => h) (Or.inl ⟨by kernel_rfl, ?_⟩) hHeld ?_
              rotate_left
              · intro w' hSw
                (try dsimp only at hSw)
                (try simp only [List.getElem_toArray]); (try simp only [List.getElem_cons_succ]); (try simp only [List.getElem_cons_zero])
                go_simp
                try with_reducible rfl
              (try simp only [Act.put]); (try simp only [List.getElem_toArray]); (try simp only [List.getElem_cons_succ]); (try simp only [List.getElem_cons_zero]); (try simp only [List.setIfInBounds_toArray]); (try simp only [List.set_cons_succ]); (try simp only [List.set_cons_zero])
              refine wpAnyH_take (i := 13) (v := ?_) rfl (by kernel_rfl) (by kernel_rfl) (by kernel_rfl) (fun _ _ _ h => h) (Or.inl ⟨by kernel_rfl, ?_⟩) hHeld ?_
              rotate_left
              · intro w' hSw
                (try dsimp only at hSw)
                (try simp only [List.getElem_toArray]); (try simp only [List.getElem_cons_succ]); (try simp only [List.getElem_cons_zero])
                go_simp
                try with_reducible rfl
              (try simp only [Act.put]); (try simp only [List.getElem_toArray]); (try simp only [List.getElem_cons_succ]); (try simp only [List.getElem_cons_zero]); (try simp only [List.setIfInBounds_toArray]); (try simp only [List.set_cons_succ]); (try simp only [List.set_cons_zero])
              refine wpAnyH_take (i := 14) (v := ?_) rfl (by kernel_rfl) (by kernel_rfl) (by kernel_rfl) (fun _ _ _ h => h) (Or.inl ⟨by kernel_rfl, ?_⟩) hHeld ?_
              rotate_left
              · intro w' hSw
                (try dsimp only at hSw)
                (try simp only [List.getElem_toArray]); (try simp only [List.getElem_cons_succ]); (try simp only [List.getElem_cons_zero])
                go_simp
                try with_reducible rfl
              (try simp only [Act.put]); (try simp only [List.getElem_toArray]); (try simp only [List.getElem_cons_succ]); (try simp only [List.getElem_cons_zero]); (try simp only [List.setIfInBounds_toArray]); (try simp only [List.set_cons_succ]); (try simp only [List.set_cons_zero])
              refine wpAnyH_take (i := 15) (v := ?_) rfl (by kernel_rfl) (by kernel_rfl) (by kernel_rfl) (fun _ _ _ h => h) (Or.inl ⟨by kernel_rfl, ?_⟩) hHeld ?_
              rotate_left
              · intro w' hSw
                (try dsimp only at hSw)
                (try simp only [List.getElem_toArray]); (try simp only [List.getElem_cons_succ]); (try simp only [List.getElem_cons_zero])
                go_simp
                try with_reducible rfl
              (try simp only [Act.put]); (try simp only [List.getElem_toArray]); (try simp only [List.getElem_cons_succ]); (try simp only [List.getElem_cons_zero]); (try simp only [List.setIfInBounds_toArray]); (try simp only [List.set_cons_succ]); (try simp only [List.set_cons_zero])
              refine wpAnyH_done (by kernel_rfl) ?_ _
              clear hHeld
              go_wp2_with fail
              go_meet
              exact ⟨rfl, kd⟩
            | false =>
              have t1 : Op.bytesLess (strB p3).toList (strB p1).toList = false := by
                rw [strB_toList, strB_toList]
                rcases HVV.out with ⟨h, -⟩ | ⟨-, h | ⟨h, h2⟩⟩
                · cases h
                · omega
                · exact hcm.trans (decide_eq_false (by omega))
              clear hcm
              refine wp_region_held_drew (S := (fun w' => w'.cell? ⟨b3, o3 + j * 2, none⟩ = some (.slice a3 p3.length d3) ∧ w'.cell? ⟨bt, 0, none⟩ = some (.slice a1 p1.length c1) ∧ (convert 23 9 (.slice a3 p3.length d3)).run Try.prog w' = .ok (.string (strB p3)) w' ∧ (convert 23 9 (.slice a1 p1.length c1)).run Try.prog w' = .ok (.string (strB p1)) w')) (by kernel_rfl) ((HO.out _ kd)) (fun hHeld => ?_)
              generalize wr.drew = wd at *
              refine wpAnyH_take (i := 0) (v := ?_) rfl (by kernel_rfl) (by kernel_rfl) (by kernel_rfl) (fun _ _ _ h => h) (Or.inl ⟨by kernel_rfl, ?_⟩) hHeld ?_
              rotate_left
              · intro w' hSw
                (try dsimp only at hSw)
                (try simp only [List.getElem_toArray]); (try simp only [List.getElem_cons_succ]); (try simp only [List.getElem_cons_zero])
                go_simp
                try with_reducible rfl
              (try simp only [Act.put]); (try simp only [List.getElem_toArray]); (try simp only [List.getElem_cons_succ]); (try simp only [List.getElem_cons_zero]); (try simp only [List.setIfInBounds_toArray]); (try simp only [List.set_cons_succ]); (try simp only [List.set_cons_zero])
              refine wpAnyH_take (i := 1) (v := ?_) rfl (by kernel_rfl) (by kernel_rfl) (by kernel_rfl) (fun _ _ _ h => h) (Or.inl ⟨by kernel_rfl, ?_⟩) hHeld ?_
              rotate_left
              · intro w' hSw
                (try dsimp only at hSw)
                (try simp only [List.getElem_toArray]); (try simp only [List.getElem_cons_succ]); (try simp only [List.getElem_cons_zero])
                go_simp
                try with_reducible rfl
              (try simp only [Act.put]); (try simp only [List.getElem_toArray]); (try simp only [List.getElem_cons_succ]); (try simp only [List.getElem_cons_zero]); (try simp only [List.setIfInBounds_toArray]); (try simp only [List.set_cons_succ]); (try simp only [List.set_cons_zero])
              refine wpAnyH_take (i := 2) (v := ?_) rfl (by kernel_rfl) (by kernel_rfl) (by kernel_rfl) (fun _ _ _ h => h) (Or.inl ⟨by kernel_rfl, ?_⟩) hHeld ?_
              rotate_left
              · intro w' hSw
                (try dsimp only at hSw)
                (try simp only [List.getElem_toArray]); (try simp only [List.getElem_cons_succ]); (try simp only [List.getElem_cons_zero])
                go_simp
                try with_reducible rfl
              (try simp only [Act.put]); (try simp only [List.getElem_toArray]); (try simp only [List.getElem_cons_succ]); (try simp only [List.getElem_cons_zero]); (try simp only [List.setIfInBounds_toArray]); (try simp only [List.set_cons_succ]); (try simp only [List.set_cons_zero])
              refine wpAnyH_take (i := 3) (v := ?_) rfl (by kernel_rfl) (by kernel_rfl) (by kernel_rfl) (fun _ _ _ h => h) (Or.inl ⟨by kernel_rfl, ?_⟩) hHeld ?_
              rotate_left
              · intro w' hSw
                (try dsimp only at hSw)
                (try simp only [List.getElem_toArray]); (try simp only [List.getElem_cons_succ]); (try simp only [List.getElem_cons_zero])
                go_simp
                try with_reducible rfl
              (try simp only [Act.put]); (try simp only [List.getElem_toArray]); (try simp only [List.getElem_cons_succ]); (try simp only [List.getElem_cons_zero]); (try simp only [List.setIfInBounds_toArray]); (try simp only [List.set_cons_succ]); (try simp only [List.set_cons_zero])
              refine wpAnyH_take (i := 4) (v := ?_) rfl (by kernel_rfl) (by kernel_rfl) (by kernel_rfl) (fun _ _ _ h => h) (Or.inl ⟨by kernel_rfl, ?_⟩) hHeld ?_
              rotate_left
              · intro w' hSw
                (try dsimp only at hSw)
                (try simp only [List.getElem_toArray]); (try simp only [List.getElem_cons_succ]); (try simp only [List.getElem_cons_zero])
                go_simp
                try with_reducible rfl
              (try simp only [Act.put]); (try simp only [List.getElem_toArray]); (try simp only [List.getElem_cons_succ]); (try simp only [List.getElem_cons_zero]); (try simp only [List.setIfInBounds_toArray]); (try simp only [List.set_cons_succ]); (try simp only [List.set_cons_zero])
              refine wpAnyH_take (i := 5) (v := ?_) rfl (by kernel_rfl) (by kernel_rfl) (by kernel_rfl) (fun _ _ _ h => h) (Or.inl ⟨by kernel_rfl, ?_⟩) hHeld ?_
              rotate_left
              · intro w' hSw
                (try dsimp only at hSw)
                (try simp only [List.getElem_toArray]); (try simp only [List.getElem_cons_succ]); (try simp only [List.getElem_cons_zero])
                go_simp
                try with_reducible rfl
              (try simp only [Act.put]); (try simp only [List.getElem_toArray]); (try simp only [List.getElem_cons_succ]); (try simp only [List.getElem_cons_zero]); (try simp only [List.setIfInBounds_toArray]); (try simp only [List.set_cons_succ]); (try simp only [List.set_cons_zero])
              refine wpAnyH_take (i := 6) (v := ?_) rfl (by kernel_rfl) (by kernel_rfl) (by kernel_rfl) (fun _ _ _ h => h) (Or.inl ⟨by kernel_rfl, ?_⟩) hHeld ?_
              rotate_left
              · intro w' hSw
                (try dsimp only at hSw)
                (try simp only [List.getElem_toArray]); (try simp only [List.getElem_cons_succ]); (try simp only [List.getElem_cons_zero])
                go_simp
                try with_reducible rfl
              (try simp only [Act.put]); (try simp only [List.getElem_toArray]); (try simp only [List.getElem_cons_succ]); (try simp only [List.getElem_cons_zero]); (try simp only [List.setIfInBounds_toArray]); (try simp only [List.set_cons_succ]); (try simp only [List.set_cons_zero])
              refine wpAnyH_take (i := 7) (v := ?_) rfl (by kernel_rfl) (by kernel_rfl) (by kernel_rfl) (fun _ _ _ h => h) (Or.inl ⟨by kernel_rfl, ?_⟩) hHeld ?_
              rotate_left
              · intro w' hSw
                (try dsimp only at hSw)
                (try simp only [List.getElem_toArray]); (try simp only [List.getElem_cons_succ]); (try simp only [List.getElem_cons_zero])
                go_simp
                try with_reducible rfl
              (try simp only [Act.put]); (try simp only [List.getElem_toArray]); (try simp only [List.getElem_cons_succ]); (try simp only [List.getElem_cons_zero]); (try simp only [List.setIfInBounds_toArray]); (try simp only [List.set_cons_succ]); (try simp only [List.set_cons_zero])
              refine wpAnyH_take (i := 8) (v := ?_) rfl (by kernel_rfl) (by kernel_rfl) (by kernel_rfl) (fun _ _ _ h => h) (Or.inl ⟨by kernel_rfl, ?_⟩) hHeld ?_
              rotate_left
              · intro w' hSw
                (try dsimp only at hSw)
                (try simp only [List.getElem_toArray]); (try simp only [List.getElem_cons_succ]); (try simp only [List.getElem_cons_zero])
                go_simp
                try with_reducible rfl
              (try simp only [Act.put]); (try simp only [List.getElem_toArray]); (try simp only [List.getElem_cons_succ]); (try simp only [List.getElem_cons_zero]); (try simp only [List.setIfInBounds_toArray]); (try simp only [List.set_cons_succ]); (try simp only [List.set_cons_zero])
              refine wpAnyH_take (i := 9) (v := ?_) rfl (by kernel_rfl) (by kernel_rfl) (by kernel_rfl) (fun _ _ _ h => h) (Or.inl ⟨by kernel_rfl, ?_⟩) hHeld ?_
              rotate_left
              · intro w' hSw
                (try dsimp only at hSw)
                (try simp only [List.getElem_toArray]); (try simp only [List.getElem_cons_succ]); (try simp only [List.getElem_cons_zero])
                go_simp
                try with_reducible rfl
              (try simp only [Act.put]); (try simp only [List.getElem_toArray]); (try simp only [List.getElem_cons_succ]); (try simp only [List.getElem_cons_zero]); (try simp only [List.setIfInBounds_toArray]); (try simp only [List.set_cons_succ]); (try simp only [List.set_cons_zero])
              refine wpAnyH_take (i := 10) (v := ?_) rfl (by kernel_rfl) (by kernel_rfl) (by kernel_rfl) (fun _ _ _ h => h) (Or.inl ⟨by kernel_rfl, ?_⟩) hHeld ?_
              rotate_left
              · intro w' hSw
                (try dsimp only at hSw)
                (try simp only [List.getElem_toArray]); (try simp only [List.getElem_cons_succ]); (try simp only [List.getElem_cons_zero])
                go_simp
                try with_reducible rfl
              (try simp only [Act.put]); (try simp only [List.getElem_toArray]); (try simp only [List.getElem_cons_succ]); (try simp only [List.getElem_cons_zero]); (try simp only [List.setIfInBounds_toArray]); (try simp only [List.set_cons_succ]); (try simp only [List.set_cons_zero])
              refine wpAnyH_take (i := 11) (v := ?_) rfl (by kernel_rfl) (by kernel_rfl) (by kernel_rfl) (fun _ _ _ h => h) (Or.inl ⟨by kernel_rfl, ?_⟩) hHeld ?_
              rotate_left
              · intro w' hSw
                (try dsimp only at hSw)
                (try simp only [List.getElem_toArray]); (try simp only [List.getElem_cons_succ]); (try simp only [List.getElem_cons_zero])
                go_simp
                try with_reducible rfl
              (try simp only [Act.put]); (try simp only [List.getElem_toArray]); (try simp only [List.getElem_cons_succ]); (try simp only [List.getElem_cons_zero]); (try simp only [List.setIfInBounds_toArray]); (try simp only [List.set_cons_succ]); (try simp only [List.set_cons_zero])
              refine wpAnyH_take (i := 12) (v := ?_) rfl (by kernel_rfl) (by kernel_rfl) (by kernel_rfl) (fun _ _ _ h => h) (Or.inl ⟨by kernel_rfl, ?_⟩) hHeld ?_
              rotate_left
              · intro w' hSw
                (try dsimp only at hSw)
                (try simp only [List.getElem_toArray]); (try simp only [List.getElem_cons_succ]); (try simp only [List.getElem_cons_zero])
                go_simp
                try with_reducible rfl
              (try simp only [Act.put]); (try simp only [List.getElem_toArray]); (try simp only [List.getElem_cons_succ]); (try simp only [List.getElem_cons_zero]); (try simp only [List.setIfInBounds_toArray]); (try simp only [List.set_cons_succ]); (try simp only [List.set_cons_zero])
              refine wpAnyH_take (i := 13) (v := ?_) rfl (by kernel_rfl) (by kernel_rfl) (by kernel_rfl) (fun _ _ _ h => h) (Or.inl ⟨by kernel_rfl, ?_⟩) hHeld ?_
              rotate_left
              · intro w' hSw
                (try dsimp only at hSw)
                (try simp only [List.getElem_toArray]); (try simp only [List.getElem_cons_succ]); (try simp only [List.getElem_cons_zero])
                go_simp
                try with_reducible rfl
              (try simp only [Act.put]); (try simp only [List.getElem_toArray]); (try simp only [List.getElem_cons_succ]); (try simp only [List.getElem_cons_zero]); (try simp only [List.setIfInBounds_toArray]); (try simp only [List.set_cons_succ]); (try simp only [List.set_cons_zero])
              refine wpAnyH_take (i := 14) (v := ?_) rfl (by kernel_rfl) (by kernel_rfl) (by kernel_rfl) (fun _ _ _ h => h) (Or.inl ⟨by kernel_rfl, ?_⟩) hHeld ?_
              rotate_left
              · intro w' hSw
                (try dsimp only at hSw)
                (try simp only [List.getElem_toArray]); (try simp only [List.getElem_cons_succ]); (try simp only [List.getElem_cons_zero])
                go_simp
                try with_reducible rfl
              (try simp only [Act.put]); (try simp only [List.getElem_toArray]); (try simp only [List.getElem_cons_succ]); (try simp only [List.getElem_cons_zero]); (try simp only [List.setIfInBounds_toArray]); (try simp only [List.set_cons_succ]); (try simp only [List.set_cons_zero])
              refine wpAnyH_take (i := 15) (v := ?_) rfl (by kernel_rfl) (by kernel_rfl) (by kernel_rfl) (fun _ _ _ h => h) (Or.inl ⟨by kernel_rfl, ?_⟩) hHeld ?_
              rotate_left
              · intro w' hSw
                (try dsimp only at hSw)
                (try simp only [List.getElem_toArray]); (try simp only [List.getElem_cons_succ]); (try simp only [List.getElem_cons_zero])
                go_simp
                try with_reducible rfl
              (try simp only [Act.put]); (try simp only [List.getElem_toArray]); (try simp only [List.getElem_cons_succ]); (try simp only [List.getElem_cons_zero]); (try simp only [List.setIfInBounds_toArray]); (try simp only [List.set_cons_succ]); (try simp only [List.set_cons_zero])
              refine wpAnyH_done (by kernel_rfl) ?_ _
              clear hHeld
              go_wp2_with fail
              go_meet
              exact ⟨rfl, kd⟩
          · have hj1 : (ks.length : Int) ≤ (j : Int) := by omega
            have hj2 : decide ((j : Int) < (ks.length : Int)) = false := decide_eq_false (by omega)
            have hj3 : ¬ j < ks.length := hjl
            have e : v = false := by
              rcases HVV.out with ⟨-, h, -⟩ | ⟨h, -⟩
              · exact absurd h hjl
              · exact h
            subst e
            have HO : Hid (∀ w' : World, Keep Nix wr w' → True) := fun _ _ => trivial
            clear hjl
            refine wp_region_held_drew (S := (fun _ => True)) (by kernel_rfl) ((HO.out _ kd)) (fun hHeld => ?_)
            generalize wr.drew = wd at *
            refine wpAnyH_take (i := 0) (v := ?_) rfl (by kernel_rfl) (by kernel_rfl) (by kernel_rfl) (fun _ _ _ h => h) (Or.inl ⟨by kernel_rfl, ?_⟩) hHeld ?_
            rotate_left
            · intro w' hSw
              (try dsimp only at hSw)
              (try simp only [List.getElem_toArray]); (try simp only [List.getElem_cons_succ]); (try simp only [List.getElem_cons_zero])
              go_simp
              try with_reducible rfl
            (try simp only [Act.put]); (try simp only [List.getElem_toArray]); (try simp only [List.getElem_cons_succ]); (try simp only [List.getElem_cons_zero]); (try simp only [List.setIfInBounds_toArray]); (try simp only [List.set_cons_succ]); (try simp only [List.set_cons_zero])
            refine wpAnyH_take (i := 1) (v := ?_) rfl (by kernel_rfl) (by kernel_rfl) (by kernel_rfl) (fun _ _ _ h => h) (Or.inl ⟨by kernel_rfl, ?_⟩) hHeld ?_
            rotate_left
            · intro w' hSw
              (try dsimp only at hSw)
              (try simp only [List.getElem_toArray]); (try simp only [List.getElem_cons_succ]); (try simp only [List.getElem_cons_zero])
              go_simp
              try with_reducible rfl
            (try simp only [Act.put]); (try simp only [List.getElem_toArray]); (try simp only [List.getElem_cons_succ]); (try simp only [List.getElem_cons_zero]); (try simp only [List.setIfInBounds_toArray]); (try simp only [List.set_cons_succ]); (try simp only [List.set_cons_zero])
            refine wpAnyH_take (i := 2) (v := ?_) rfl (by kernel_rfl) (by kernel_rfl) (by kernel_rfl) (fun _ _ _ h => h) (Or.inl ⟨by kernel_rfl, ?_⟩) hHeld ?_
            rotate_left
            · intro w' hSw
              (try dsimp only at hSw)
              (try simp only [List.getElem_toArray]); (try simp only [List.getElem_cons_succ]); (try simp only [List.getElem_cons_zero])
              go_simp
              try with_reducible rfl
            (try simp only [Act.put]); (try simp only [List.getElem_toArray]); (try simp only [List.getElem_cons_succ]); (try simp only [List.getElem_cons_zero]); (try simp only [List.setIfInBounds_toArray]); (try simp only [List.set_cons_succ]); (try simp only [List.set_cons_zero])
            refine wpAnyH_take (i := 3) (v := ?_) rfl (by kernel_rfl) (by kernel_rfl) (by kernel_rfl) (fun _ _ _ h => h) (Or.inl ⟨by kernel_rfl, ?_⟩) hHeld ?_
            rotate_left
            · intro w' hSw
              (try dsimp only at hSw)
              (try simp only [List.getElem_toArray]); (try simp only [List.getElem_cons_succ]); (try simp only [List.getElem_cons_zero])
              go_simp
              try with_reducible rfl
            (try simp only [Act.put]); (try simp only [List.getElem_toArray]); (try simp only [List.getElem_cons_succ]); (try simp only [List.getElem_cons_zero]); (try simp only [List.setIfInBounds_toArray]); (try simp only [List.set_cons_succ]); (try simp only [List.set_cons_zero])
            refine wpAnyH_take (i := 4) (v := ?_) rfl (by kernel_rfl) (by kernel_rfl) (by kernel_rfl) (fun _ _ _ h => h) (Or.inl ⟨by kernel_rfl, ?_⟩) hHeld ?_
            rotate_left
            · intro w' hSw
              (try dsimp only at hSw)
              (try simp only [List.getElem_toArray]); (try simp only [List.getElem_cons_succ]); (try simp only [List.getElem_cons_zero])
              go_simp
              try with_reducible rfl
            (try simp only [Act.put]); (try simp only [List.getElem_toArray]); (try simp only [List.getElem_cons_succ]); (try simp only [List.getElem_cons_zero]); (try simp only [List.setIfInBounds_toArray]); (try simp only [List.set_cons_succ]); (try simp only [List.set_cons_zero])
            refine wpAnyH_take (i := 5) (v := undef) rfl (by kernel_rfl) (by kernel_rfl) (by kernel_rfl) (fun _ _ _ h => h) (Or.inr ⟨by kernel_rfl, rfl⟩) hHeld ?_
            (try simp only [Act.put]); (try simp only [List.getElem_toArray]); (try simp only [List.getElem_cons_succ]); (try simp only [List.getElem_cons_zero]); (try simp only [List.setIfInBounds_toArray]); (try simp only [List.set_cons_succ]); (try simp only [List.set_cons_zero])
            refine wpAnyH_take (i := 6) (v := undef) rfl (by kernel_rfl) (by kernel_rfl) (by kernel_rfl) (fun _ _ _ h => h) (Or.inr ⟨by kernel_rfl, rfl⟩) hHeld ?_
            (try simp only [Act.put]); (try simp only [List.getElem_toArray]); (try simp only [List.getElem_cons_succ]); (try simp only [List.getElem_cons_zero]); (try simp only [List.setIfInBounds_toArray]); (try simp only [List.set_cons_succ]); (try simp only [List.set_cons_zero])
            refine wpAnyH_take (i := 7) (v := undef) rfl (by kernel_rfl) (by kernel_rfl) (by kernel_rfl) (fun _ _ _ h => h) (Or.inr ⟨by kernel_rfl, rfl⟩) hHeld ?_
            (try simp only [Act.put]); (try simp only [List.getElem_toArray]); (try simp only [List.getElem_cons_succ]); (try simp only [List.getElem_cons_zero]); (try simp only [List.setIfInBounds_toArray]); (try simp only [List.set_cons_succ]); (try simp only [List.set_cons_zero])
            refine wpAnyH_take (i := 8) (v := undef) rfl (by kernel_rfl) (by kernel_rfl) (by kernel_rfl) (fun _ _ _ h => h) (Or.inr ⟨by kernel_rfl, rfl⟩) hHeld ?_
            (try simp only [Act.put]); (try simp only [List.getElem_toArray]); (try simp only [List.getElem_cons_succ]); (try simp only [List.getElem_cons_zero]); (try simp only [List.setIfInBounds_toArray]); (try simp only [List.set_cons_succ]); (try simp only [List.set_cons_zero])
            refine wpAnyH_take (i := 9) (v := undef) rfl (by kernel_rfl) (by kernel_rfl) (by kernel_rfl) (fun _ _ _ h => h) (Or.inr ⟨by kernel_rfl, rfl⟩) hHeld ?_
            (try simp only [Act.put]); (try simp only [List.getElem_toArray]); (try simp only [List.getElem_cons_succ]); (try simp only [List.getElem_cons_zero]); (try simp only [List.setIfInBounds_toArray]); (try simp only [List.set_cons_succ]); (try simp only [List.set_cons_zero])
            refine wpAnyH_take (i := 10) (v := undef) rfl (by kernel_rfl) (by kernel_rfl) (by kernel_rfl) (fun _ _ _ h => h) (Or.inr ⟨by kernel_rfl, rfl⟩) hHeld ?_
            (try simp only [Act.put]); (try simp only [List.getElem_toArray]); (try simp only [List.getElem_cons_succ]); (try simp only [List.getElem_cons_zero]); (try simp only [List.setIfInBounds_toArray]); (try simp only [List.set_cons_succ]); (try simp only [List.set_cons_zero])
            refine wpAnyH_take (i := 11) (v := undef) rfl (by kernel_rfl) (by kernel_rfl) (by kernel_rfl) (fun _ _ _ h => h) (Or.inr ⟨by kernel_rfl, rfl⟩) hHeld ?_
            (try simp only [Act.put]); (try simp only [List.getElem_toArray]); (try simp only [List.getElem_cons_succ]); (try simp only [List.getElem_cons_zero]); (try simp only [List.setIfInBounds_toArray]); (try simp only [List.set_cons_succ]); (try simp only [List.set_cons_zero])
            refine wpAnyH_take (i := 12) (v := undef) rfl (by kernel_rfl) (by kernel_rfl) (by kernel_rfl) (fun _ _ _ h => h) (Or.inr ⟨by kernel_rfl, rfl⟩) hHeld ?_
            (try simp only [Act.put]); (try simp only [List.getElem_toArray]); (try simp only [List.getElem_cons_succ]); (try simp only [List.getElem_cons_zero]); (try simp only [List.setIfInBounds_toArray]); (try simp only [List.set_cons_succ]); (try simp only [List.set_cons_zero])
            refine wpAnyH_take (i := 13) (v := undef) rfl (by kernel_rfl) (by kernel_rfl) (by kernel_rfl) (fun _ _ _ h => h) (Or.inr ⟨by kernel_rfl, rfl⟩) hHeld ?_
            (try simp only [Act.put]); (try simp only [List.getElem_toArray]); (try simp only [List.getElem_cons_succ]); (try simp only [List.getElem_cons_zero]); (try simp only [List.setIfInBounds_toArray]); (try simp only [List.set_cons_succ]); (try simp only [List.set_cons_zero])
            refine wpAnyH_take (i := 14) (v := undef) rfl (by kernel_rfl) (by kernel_rfl) (by kernel_rfl) (fun _ _ _ h => h) (Or.inr ⟨by kernel_rfl, rfl⟩) hHeld ?_
            (try simp only [Act.put]); (try simp only [List.getElem_toArray]); (try simp only [List.getElem_cons_succ]); (try simp only [List.getElem_cons_zero]); (try simp only [List.setIfInBounds_toArray]); (try simp only [List.set_cons_succ]); (try simp only [List.set_cons_zero])
            refine wpAnyH_take (i := 15) (v := ?_) rfl (by kernel_rfl) (by kernel_rfl) (by kernel_rfl) (fun _ _ _ h => h) (Or.inl ⟨by kernel_rfl, ?_⟩) hHeld ?_
            rotate_left
            · intro w' hSw
              (try dsimp only at hSw)
              (try simp only [List.getElem_toArray]); (try simp only [List.getElem_cons_succ]); (try simp only [List.getElem_cons_zero])
              go_simp
              try with_reducible rfl
            (try simp only [Act.put]); (try simp only [List.getElem_toArray]); (try simp only [List.getElem_cons_succ]); (try simp only [List.getElem_cons_zero]); (try simp only [List.setIfInBounds_toArray]); (try simp only [List.set_cons_succ]); (try simp only [List.set_cons_zero])
            refine wpAnyH_done (by kernel_rfl) ?_ _
            clear hHeld
            go_wp2_with fail
            go_meet
            exact ⟨rfl, kd⟩
        case rest =>
        obtain ⟨rfl, kd⟩ := hcut
        have kn2 := kn.trans kd
        cases v with
        | true =>
          have HLO2 : Hid (∀ (q : Nat) (h : q < ks.length), q < j + 1 → ks[q] < k) := fun q h hq => by
            rcases HVV.out with ⟨-, h1, h2⟩ | ⟨h, -⟩
            · by_cases e : q = j
              · subst e; exact h2
              · exact HLO.out q h (by omega)
            · cases h
          have hj2 : j < ks.length := by
            rcases HVV.out with ⟨-, h1, -⟩ | ⟨h, -⟩
            · exact h1
            · cases h
          have hj3 : (j : Int) < (ks.length : Int) := by omega
          clear HPN row8n L1n L2n HVV
          go_wp2_with fail
          go_roundw
          case rel => exact ⟨j + 1, by omega, by go_num, HLO2, kn2⟩
          case measure => simp [intOf]; omega
        | false =>
          have HHI : Hid (∀ h : j < ks.length, k < ks[j]) := fun h => by
            rcases HVV.out with ⟨h1, -⟩ | ⟨-, h1 | ⟨h1, h2⟩⟩
            · cases h1
            · omega
            · exact h2
          have HPE := (rList_lawful rGSpan_lawful).nix HPL2.out kn2
          replace row8 := row8.keep kn2 id
          replace row1 := row1.keep kn2 id
          replace rowT := rowT.keep kn2 id
          replace kk4 := kk4.trans kn2
          replace L1 := L1.keep kn2
          replace L2 := L2.keep kn2
          clear HPN row8n L1n L2n HVV HPL2 kn kd kn2
          obtain ⟨a', cap', css, e1, hlen, hli, hcap, -, hR⟩ := HPE
          simp only [List.cons.injEq, Value.slice.injEq, List.length_map, and_true] at e1
          obtain ⟨rfl, -, rfl⟩ := e1
          have hE : Els rGSpan _ ANY css (ks.map (pieceK r ⟨f, t⟩)) := ⟨hlen, hR⟩
          rw [List.length_map] at hlen hcap
          have HE := Lib.hid hE
          clear hE hR
          have hl2 := HE.out.lens rGSpan_lawful
          have hlT : ((css.take j).flatten).length = j * 2 := by rw [flat_len (fun c hc => hl2 c (List.mem_of_mem_take hc)), List.length_take]; congr 1; omega
          have hlD : ((css.drop j).flatten).length = (ks.length - j) * 2 := by rw [flat_len (fun c hc => hl2 c (List.mem_of_mem_drop hc)), List.length_drop, hlen]
          have hfl : css.flatten = (css.take j).flatten ++ (css.drop j).flatten := by rw [← List.flatten_append, List.take_append_drop]
          have honD : ∀ u ∈ (css.drop j).flatten, u.oneCell' = true := fun u hu => by
            obtain ⟨c, hc, huc⟩ := List.mem_flatten.1 hu
            obtain ⟨q, hq, rfl⟩ := List.mem_iff_getElem.1 (List.mem_of_mem_drop hc)
            have hqx : q < (ks.map (pieceK r ⟨f, t⟩)).length := by rw [← HE.out.1]; exact hq
            have := rGSpan_ones (HE.out.2 q _ _ (List.getElem?_eq_getElem hq) (List.getElem?_eq_getElem hqx))
            exact List.all_eq_true.1 this u huc
          rw [hfl] at hli
          have LA1 := lies_take hli
          have HLT2 := Lib.hid hlT
          have HLD := Lib.hid hlD
          have HON := Lib.hid honD
          have HLEN := Lib.hid hlen
          go_upto_region 18 with fail
          have hO : ∀ w', Keep Nix wc w' → (fun w' => w'.cell? ⟨bt, 0, none⟩ = some (.slice a1 p1.length c1) ∧ w'.cell? ⟨bt, 1, none⟩ = some (.slice a2 p2.length c2)) w' := fun w' k' => ⟨(row8.keep k' id).cell 0, (row8.keep k' id).cell 1⟩
          have HO := Lib.hid hO
          have kd : Keep Nix wc wc.drew := (Keep.refl Nix wc).drew
          have HL1 := Lib.hid L1
          have HL2 := Lib.hid L2
          have HLA1 := Lib.hid LA1
          have HLI2 := Lib.hid hli
          clear hO hl2 hfl honD hlT hlD hlen row8 L1 L2 LA1 hli LF LT
          rcases Nat.eq_zero_or_pos ks.length with hz | hz
          · obtain rfl : ks = [] := List.eq_nil_of_length_eq_zero hz
            have hz0 : ([] : List Nat).length = 0 := rfl
            obtain ⟨rfl, rfl⟩ := HA.out rfl
            obtain rfl : j = 0 := by simpa using hj
            have LA2 : Hid (Lies wc ANY none (css.drop 0).flatten) := by
              show Lies _ _ _ _
              rw [show (css.drop 0).flatten = [] from List.eq_nil_of_length_eq_zero (by simpa using HLD.out)]
              exact fun h => absurd rfl h
            clear hz hj
            refine wp_region_held_drew (S := (fun w' => w'.cell? ⟨bt, 0, none⟩ = some (.slice a1 p1.length c1) ∧ w'.cell? ⟨bt, 1, none⟩ = some (.slice a2 p2.length c2))) (by kernel_rfl) ((HO.out _ kd)) (fun hHeld => ?_)
            generalize wc.drew = wd at *
            refine wpAnyH_take (i := 0) (v := ?_) rfl (by kernel_rfl) (by kernel_rfl) (by kernel_rfl) (fun _ _ _ h => h) (Or.inl ⟨by kernel_rfl, ?_⟩) hHeld ?_
            rotate_left
            · intro w' hSw
              (try dsimp only at hSw)
              (try simp only [List.getElem_toArray]); (try simp only [List.getElem_cons_succ]); (try simp only [List.getElem_cons_zero])
              go_simp
              try with_reducible rfl
            (try simp only [Act.put]); (try simp only [List.getElem_toArray]); (try simp only [List.getElem_cons_succ]); (try simp only [List.getElem_cons_zero]); (try simp only [List.setIfInBounds_toArray]); (try simp only [List.set_cons_succ]); (try simp only [List.set_cons_zero])
            refine wpAnyH_take (i := 1) (v := ?_) rfl (by kernel_rfl) (by kernel_rfl) (by kernel_rfl) (fun _ _ _ h => h) (Or.inl ⟨by kernel_rfl, ?_⟩) hHeld ?_
            rotate_left
            · intro w' hSw
              (try dsimp only at hSw)
              (try simp only [List.getElem_toArray]); (try simp only [List.getElem_cons_succ]); (try simp only [List.getElem_cons_zero])
              go_simp
              try with_reducible rfl
            (try simp only [Act.put]); (try simp only [List.getElem_toArray]); (try simp only [List.getElem_cons_succ]); (try simp only [List.getElem_cons_zero]); (try simp only [List.setIfInBounds_toArray]); (try simp only [List.set_cons_succ]); (try simp only [List.set_cons_zero])
            refine wpAnyH_take (i := 2) (v := ?_) rfl (by kernel_rfl) (by kernel_rfl) (by kernel_rfl) (fun _ _ _ h => h) (Or.inl ⟨by kernel_rfl, ?_⟩) hHeld ?_
            rotate_left
            · intro w' hSw
              (try dsimp only at hSw)
              (try simp only [List.getElem_toArray]); (try simp only [List.getElem_cons_succ]); (try simp only [List.getElem_cons_zero])
              go_simp
              try with_reducible rfl
            (try simp only [Act.put]); (try simp only [List.getElem_toArray]); (try simp only [List.getElem_cons_succ]); (try simp only [List.getElem_cons_zero]); (try simp only [List.setIfInBounds_toArray]); (try simp only [List.set_cons_succ]); (try simp only [List.set_cons_zero])
            refine wpAnyH_take (i := 3) (v := ?_) rfl (by kernel_rfl) (by kernel_rfl) (by kernel_rfl) (fun _ _ _ h => h) (Or.inl ⟨by kernel_rfl, ?_⟩) hHeld ?_
            rotate_left
            · intro w' hSw
              (try dsimp only at hSw)
              (try simp only [List.getElem_toArray]); (try simp only [List.getElem_cons_succ]); (try simp only [List.getElem_cons_zero])
              go_simp
              try with_reducible rfl
            (try simp only [Act.put]); (try simp only [List.getElem_toArray]); (try simp only [List.getElem_cons_succ]); (try simp only [List.getElem_cons_zero]); (try simp only [List.setIfInBounds_toArray]); (try simp only [List.set_cons_succ]); (try simp only [List.set_cons_zero])
            refine wpAnyH_take (i := 4) (v := ?_) rfl (by kernel_rfl) (by kernel_rfl) (by kernel_rfl) (fun _ _ _ h => h) (Or.inl ⟨by kernel_rfl, ?_⟩) hHeld ?_
            rotate_left
            · intro w' hSw
              (try dsimp only at hSw)
              (try simp only [List.getElem_toArray]); (try simp only [List.getElem_cons_succ]); (try simp only [List.getElem_cons_zero])
              go_simp
              try with_reducible rfl
            (try simp only [Act.put]); (try simp only [List.getElem_toArray]); (try simp only [List.getElem_cons_succ]); (try simp only [List.getElem_cons_zero]); (try simp only [List.setIfInBounds_toArray]); (try simp only [List.set_cons_succ]); (try simp only [List.set_cons_zero])
            refine wpAnyH_take (i := 6) (v := ?_) rfl (by kernel_rfl) (by kernel_rfl) (by kernel_rfl) (fun _ _ _ h => h) (Or.inl ⟨by kernel_rfl, ?_⟩) hHeld ?_
            rotate_left
            · intro w' hSw
              (try dsimp only at hSw)
              (try simp only [List.getElem_toArray]); (try simp only [List.getElem_cons_succ]); (try simp only [List.getElem_cons_zero])
              go_simp
              try with_reducible rfl
            (try simp only [Act.put]); (try simp only [List.getElem_toArray]); (try simp only [List.getElem_cons_succ]); (try simp only [List.getElem_cons_zero]); (try simp only [List.setIfInBounds_toArray]); (try simp only [List.set_cons_succ]); (try simp only [List.set_cons_zero])
            refine wpAnyH_take (i := 7) (v := ?_) rfl (by kernel_rfl) (by kernel_rfl) (by kernel_rfl) (fun _ _ _ h => h) (Or.inl ⟨by kernel_rfl, ?_⟩) hHeld ?_
            rotate_left
            · intro w' hSw
              (try dsimp only at hSw)
              (try simp only [List.getElem_toArray]); (try simp only [List.getElem_cons_succ]); (try simp only [List.getElem_cons_zero])
              go_simp
              try with_reducible rfl
            (try simp only [Act.put]); (try simp only [List.getElem_toArray]); (try simp only [List.getElem_cons_succ]); (try simp only [List.getElem_cons_zero]); (try simp only [List.setIfInBounds_toArray]); (try simp only [List.set_cons_succ]); (try simp only [List.set_cons_zero])
            refine wpAnyH_take (i := 8) (v := ?_) rfl (by kernel_rfl) (by kernel_rfl) (by kernel_rfl) (fun _ _ _ h => h) (Or.inl ⟨by kernel_rfl, ?_⟩) hHeld ?_
            rotate_left
            · intro w' hSw
              (try dsimp only at hSw)
              (try simp only [List.getElem_toArray]); (try simp only [List.getElem_cons_succ]); (try simp only [List.getElem_cons_zero])
              go_simp
              try with_reducible rfl
            (try simp only [Act.put]); (try simp only [List.getElem_toArray]); (try simp only [List.getElem_cons_succ]); (try simp only [List.getElem_cons_zero]); (try simp only [List.setIfInBounds_toArray]); (try simp only [List.set_cons_succ]); (try simp only [List.set_cons_zero])
            refine wpAnyH_ready (rs := [5]) (by kernel_rfl) (by simp) ?_
            refine AllReadyH.cons rfl (fun K hK => ?_) AllReadyH.nil
            go_simp
            have rowP := RowIs.alloc wd #[.slice a1 p1.length c1, .slice a2 p2.length c2] 29
            have kA : Keep Nix wd (wd.alloc (.cells #[.slice a1 p1.length c1, .slice a2 p2.length c2] 29)) := (Keep.refl Nix wd).alloc _
            replace kd := kd.trans kA
            clear kA
            refine hK.out _ _ ((HO.out _ kd)) (fun hHeld => ?_)
            clear hK K
            (try simp only [Act.put]); (try simp only [List.getElem_toArray]); (try simp only [List.getElem_cons_succ]); (try simp only [List.getElem_cons_zero]); (try simp only [List.setIfInBounds_toArray]); (try simp only [List.set_cons_succ]); (try simp only [List.set_cons_zero])
            refine wpAnyH_ready (rs := [9]) (by kernel_rfl) (by simp) ?_
            refine AllReadyH.cons rfl (fun K hK => ?_) AllReadyH.nil
            obtain ⟨a9, c9, w9, hrun, L9, k9⟩ := app_one T_lSpan 41 0 0 [.slice a1 p1.length c1, .slice a2 p2.length c2] (css.drop 0).flatten rfl HLD.out rowP (LA2.out.keep kd (fun _ _ h => h)) HON.out (by omega) (by decide) (by decide)
            refine step_app (by kernel_rfl) _ _ rfl rfl rfl hrun ?_
            (try simp only [List.getElem_toArray]); (try simp only [List.getElem_cons_succ]); (try simp only [List.getElem_cons_zero])
            have kd9 := kd.trans k9
            refine hK.out _ _ ((HO.out _ kd9)) (fun hHeld => ?_)
            clear hK K
            (try simp only [Act.put]); (try simp only [List.getElem_toArray]); (try simp only [List.getElem_cons_succ]); (try simp only [List.getElem_cons_zero]); (try simp only [List.setIfInBounds_toArray]); (try simp only [List.set_cons_succ]); (try simp only [List.set_cons_zero])
            refine wpAnyH_ready (rs := [10]) (by kernel_rfl) (by simp) ?_
            refine AllReadyH.cons rfl (fun K hK => ?_) AllReadyH.nil
            obtain ⟨gN, cN, wN, hrunN, LN, hcN, kN⟩ := app_new T_lSpan 41 0 (1 + 0) c9 (css.take 0).flatten ([.slice a1 p1.length c1, .slice a2 p2.length c2] ++ (css.drop 0).flatten) HLT2.out (by rw [List.length_append, HLD.out]; show 2 + 0 * 2 = (1 + 0) * 2; omega) (HLA1.out.keep kd9 (fun _ _ h => h)) L9 (by
              intro u hu
              rw [List.mem_append] at hu
              rcases hu with hu | hu
              · exact List.all_eq_true.1 (show ([.slice a1 p1.length c1, .slice a2 p2.length c2] : List Value).all Value.oneCell' = true from rfl) u hu
              · exact HON.out u hu) (by omega) (by omega) (by decide) (by decide)
            refine step_app (by kernel_rfl) _ _ rfl rfl rfl hrunN ?_
            (try simp only [List.getElem_toArray]); (try simp only [List.getElem_cons_succ]); (try simp only [List.getElem_cons_zero])
            have kdN := kd9.trans kN
            refine hK.out _ _ ((HO.out _ kdN)) (fun hHeld => ?_)
            clear hK K
            (try simp only [Act.put]); (try simp only [List.getElem_toArray]); (try simp only [List.getElem_cons_succ]); (try simp only [List.getElem_cons_zero]); (try simp only [List.setIfInBounds_toArray]); (try simp only [List.set_cons_succ]); (try simp only [List.set_cons_zero])
            refine wpAnyH_take (i := 11) (v := ?_) rfl (by kernel_rfl) (by kernel_rfl) (by kernel_rfl) (fun _ _ _ h => h) (Or.inl ⟨by kernel_rfl, ?_⟩) hHeld ?_
            rotate_left
            · intro w' hSw
              (try dsimp only at hSw)
              (try simp only [List.getElem_toArray]); (try simp only [List.getElem_cons_succ]); (try simp only [List.getElem_cons_zero])
              go_simp
              try with_reducible rfl
            (try simp only [Act.put]); (try simp only [List.getElem_toArray]); (try simp only [List.getElem_cons_succ]); (try simp only [List.getElem_cons_zero]); (try simp only [List.setIfInBounds_toArray]); (try simp only [List.set_cons_succ]); (try simp only [List.set_cons_zero])
            refine wpAnyH_done (by kernel_rfl) ?_ _
            clear hHeld
            have hPK : rGSpan wN ANY [.slice a1 p1.length c1, .slice a2 p2.length c2] (pieceK r ⟨f, t⟩ k) := by
              show rGSpan _ _ _ ⟨stp r ⟨f, t⟩ k, stp r ⟨f, t⟩ (k + 1)⟩
              rw [HX1.out, HX2.out]
              exact mkS (HL1.out.keep kdN) (HL2.out.keep kdN)
            have hEN := (HE.out.keep rGSpan_lawful kdN (fun _ _ h => h)).ins hPK 0
            have hlenN : (insK ([] : List Nat) 0 k).length = 0 + (1 + 0) := by unfold insK; rw [List.length_append, List.length_take, List.length_cons, List.length_drop]; omega
            have HPN2 : Hid (rList rGSpan wN ANY [.slice (some ⟨gN, 0, none⟩) (insK ([] : List Nat) 0 k).length cN] ((insK ([] : List Nat) 0 k).map (pieceK r ⟨f, t⟩))) := by
              refine ⟨some ⟨gN, 0, none⟩, cN, css.take 0 ++ [.slice a1 p1.length c1, .slice a2 p2.length c2] :: css.drop 0, by rw [List.length_map], ?_, ?_, by rw [List.length_map, hlenN]; exact hcN, by rw [List.length_map, hlenN]; unfold far; omega, ?_⟩
              · rw [hEN.1, List.length_map]; unfold insK; simp only [List.length_append, List.length_cons, List.length_take, List.length_drop, List.length_map]
              · rw [List.flatten_append, List.flatten_cons]; exact LN.mono (fun _ _ => trivial)
              · have e : (insK ([] : List Nat) 0 k).map (pieceK r ⟨f, t⟩) = (([] : List Nat).map (pieceK r ⟨f, t⟩)).take 0 ++ pieceK r ⟨f, t⟩ k :: (([] : List Nat).map (pieceK r ⟨f, t⟩)).drop 0 := by unfold insK; rw [List.map_append, List.map_cons, List.map_take, List.map_drop]
                rw [e]
                exact hEN.2
            have HKS : Hid (Ks r ⟨f, t⟩ (l.take (i + 1)) (insK ([] : List Nat) 0 k)) := by
              show Ks _ _ _ _
              rw [HTK.out]
              exact HK.out.ins HIP.out k HKK.out.1 HKK.out.2 0 (by omega) HLO.out HHI.out
            have HKLN : Hid ((insK ([] : List Nat) 0 k).length = i + 1) := by show _ = _; rw [hlenN]; have := HKL.out; omega
            have HAN : Hid (insK ([] : List Nat) 0 k = [] → (some ⟨gN, 0, none⟩ : Option Addr) = none ∧ cN = 0) := fun e => by rw [e] at hlenN; have : ([] : List Nat).length = 0 := rfl; omega
            replace row1 := row1.keep kdN id
            replace rowT := rowT.keep kdN id
            replace kk4 := kk4.trans kdN
            have HLEQ := Lib.hid hlenN
            clear hEN hPK hlenN LN hcN kN kdN kd9 k9 L9 rowP hrun hrunN kd
            go_wp2_with fail
            go_roundw
            case rel => exact ⟨i + 1, insK ([] : List Nat) 0 k, some ⟨gN, 0, none⟩, cN, by omega, by go_num, by rw [HLEQ.out], HAN, HPN2, HKLN, HKS, row1, rowT, kk4⟩
            case measure => simp [intOf]; omega
          · obtain ⟨b, o, rfl, -, -, -⟩ := HLI2.out (by
              intro e
              have := congrArg List.length e
              rw [List.length_append, HLT2.out, HLD.out, List.length_nil] at this
              omega)
            obtain ⟨A2, hA, hL⟩ : ∃ A2, (if cap = j then (some ⟨b, o, none⟩ : Option Addr) else some ⟨b, o + j * 2, none⟩) = A2 ∧ Lies wc ANY A2 (css.drop j).flatten := by
              by_cases h : cap = j
              · refine ⟨_, rfl, ?_⟩
                rw [show (css.drop j).flatten = [] from List.eq_nil_of_length_eq_zero (by rw [HLD.out]; omega)]
                exact fun h => absurd rfl h
              · refine ⟨_, rfl, ?_⟩
                rw [if_neg h]
                have := lies_drop HLI2.out
                rw [HLT2.out] at this
                exact this
            have LA2 := Lib.hid hL
            have hjc : (j : Int) ≤ (cap : Int) := by omega
            have hjl : (j : Int) ≤ (ks.length : Int) := by omega
            have hjn : j ≤ cap := by omega
            clear hL hz
            refine wp_region_held_drew (S := (fun w' => w'.cell? ⟨bt, 0, none⟩ = some (.slice a1 p1.length c1) ∧ w'.cell? ⟨bt, 1, none⟩ = some (.slice a2 p2.length c2))) (by kernel_rfl) ((HO.out _ kd)) (fun hHeld => ?_)
            generalize wc.drew = wd at *
            refine wpAnyH_take (i := 0) (v := ?_) rfl (by kernel_rfl) (by kernel_rfl) (by kernel_rfl) (fun _ _ _ h => h) (Or.inl ⟨by kernel_rfl, ?_⟩) hHeld ?_
            rotate_left
            · intro w' hSw
              (try dsimp only at hSw)
              (try simp only [List.getElem_toArray]); (try simp only [List.getElem_cons_succ]); (try simp only [List.getElem_cons_zero])
              go_simp
              try with_reducible rfl
            (try simp only [Act.put]); (try simp only [List.getElem_toArray]); (try simp only [List.getElem_cons_succ]); (try simp only [List.getElem_cons_zero]); (try simp only [List.setIfInBounds_toArray]); (try simp only [List.set_cons_succ]); (try simp only [List.set_cons_zero])
            refine wpAnyH_take (i := 1) (v := ?_) rfl (by kernel_rfl) (by kernel_rfl) (by kernel_rfl) (fun _ _ _ h => h) (Or.inl ⟨by kernel_rfl, ?_⟩) hHeld ?_
            rotate_left
            · intro w' hSw
              (try dsimp only at hSw)
              (try simp only [List.getElem_toArray]); (try simp only [List.getElem_cons_succ]); (try simp only [List.getElem_cons_zero])
              go_simp
              try with_reducible rfl
            (try simp only [Act.put]); (try simp only [List.getElem_toArray]); (try simp only [List.getElem_cons_succ]); (try simp only [List.getElem_cons_zero]); (try simp only [List.setIfInBounds_toArray]); (try simp only [List.set_cons_succ]); (try simp only [List.set_cons_zero])
            refine wpAnyH_take (i := 2) (v := ?_) rfl (by kernel_rfl) (by kernel_rfl) (by kernel_rfl) (fun _ _ _ h => h) (Or.inl ⟨by kernel_rfl, ?_⟩) hHeld ?_
            rotate_left
            · intro w' hSw
              (try dsimp only at hSw)
              (try simp only [List.getElem_toArray]); (try simp only [List.getElem_cons_succ]); (try simp only [List.getElem_cons_zero])
              go_simp
              try with_reducible rfl
            (try simp only [Act.put]); (try simp only [List.getElem_toArray]); (try simp only [List.getElem_cons_succ]); (try simp only [List.getElem_cons_zero]); (try simp only [List.setIfInBounds_toArray]); (try simp only [List.set_cons_succ]); (try simp only [List.set_cons_zero])
            refine wpAnyH_take (i := 3) (v := ?_) rfl (by kernel_rfl) (by kernel_rfl) (by kernel_rfl) (fun _ _ _ h => h) (Or.inl ⟨by kernel_rfl, ?_⟩) hHeld ?_
            rotate_left
            · intro w' hSw
              (try dsimp only at hSw)
              (try simp only [List.getElem_toArray]); (try simp only [List.getElem_cons_succ]); (try simp only [List.getElem_cons_zero])
              go_simp
              try with_reducible rfl
            (try simp only [Act.put]); (try simp only [List.getElem_toArray]); (try simp only [List.getElem_cons_succ]); (try simp only [List.getElem_cons_zero]); (try simp only [List.setIfInBounds_toArray]); (try simp only [List.set_cons_succ]); (try simp only [List.set_cons_zero])
            refine wpAnyH_take (i := 4) (v := ?_) rfl (by kernel_rfl) (by kernel_rfl) (by kernel_rfl) (fun _ _ _ h => h) (Or.inl ⟨by kernel_rfl, ?_⟩) hHeld ?_
            rotate_left
            · intro w' hSw
              (try dsimp only at hSw)
              (try simp only [List.getElem_toArray]); (try simp only [List.getElem_cons_succ]); (try simp only [List.getElem_cons_zero])
              go_simp
              try with_reducible rfl
            (try simp only [Act.put]); (try simp only [List.getElem_toArray]); (try simp only [List.getElem_cons_succ]); (try simp only [List.getElem_cons_zero]); (try simp only [List.setIfInBounds_toArray]); (try simp only [List.set_cons_succ]); (try simp only [List.set_cons_zero])
            refine wpAnyH_take (i := 6) (v := ?_) rfl (by kernel_rfl) (by kernel_rfl) (by kernel_rfl) (fun _ _ _ h => h) (Or.inl ⟨by kernel_rfl, ?_⟩) hHeld ?_
            rotate_left
            · intro w' hSw
              (try dsimp only at hSw)
              (try simp only [List.getElem_toArray]); (try simp only [List.getElem_cons_succ]); (try simp only [List.getElem_cons_zero])
              go_simp
              try with_reducible rfl
            (try simp only [Act.put]); (try simp only [List.getElem_toArray]); (try simp only [List.getElem_cons_succ]); (try simp only [List.getElem_cons_zero]); (try simp only [List.setIfInBounds_toArray]); (try simp only [List.set_cons_succ]); (try simp only [List.set_cons_zero])
            refine wpAnyH_take (i := 7) (v := ?_) rfl (by kernel_rfl) (by kernel_rfl) (by kernel_rfl) (fun _ _ _ h => h) (Or.inl ⟨by kernel_rfl, ?_⟩) hHeld ?_
            rotate_left
            · intro w' hSw
              (try dsimp only at hSw)
              (try simp only [List.getElem_toArray]); (try simp only [List.getElem_cons_succ]); (try simp only [List.getElem_cons_zero])
              go_simp
              try with_reducible rfl
            (try simp only [Act.put]); (try simp only [List.getElem_toArray]); (try simp only [List.getElem_cons_succ]); (try simp only [List.getElem_cons_zero]); (try simp only [List.setIfInBounds_toArray]); (try simp only [List.set_cons_succ]); (try simp only [List.set_cons_zero])
            refine wpAnyH_take (i := 8) (v := ?_) rfl (by kernel_rfl) (by kernel_rfl) (by kernel_rfl) (fun _ _ _ h => h) (Or.inl ⟨by kernel_rfl, ?_⟩) hHeld ?_
            rotate_left
            · intro w' hSw
              (try dsimp only at hSw)
              (try simp only [List.getElem_toArray]); (try simp only [List.getElem_cons_succ]); (try simp only [List.getElem_cons_zero])
              go_simp
              try with_reducible rfl
            (try simp only [Act.put]); (try simp only [List.getElem_toArray]); (try simp only [List.getElem_cons_succ]); (try simp only [List.getElem_cons_zero]); (try simp only [List.setIfInBounds_toArray]); (try simp only [List.set_cons_succ]); (try simp only [List.set_cons_zero])
            refine wpAnyH_ready (rs := [5]) (by kernel_rfl) (by simp) ?_
            refine AllReadyH.cons rfl (fun K hK => ?_) AllReadyH.nil
            go_simp
            have rowP := RowIs.alloc wd #[.slice a1 p1.length c1, .slice a2 p2.length c2] 29
            have kA : Keep Nix wd (wd.alloc (.cells #[.slice a1 p1.length c1, .slice a2 p2.length c2] 29)) := (Keep.refl Nix wd).alloc _
            replace kd := kd.trans kA
            clear kA
            refine hK.out _ _ ((HO.out _ kd)) (fun hHeld => ?_)
            clear hK K
            (try simp only [Act.put]); (try simp only [List.getElem_toArray]); (try simp only [List.getElem_cons_succ]); (try simp only [List.getElem_cons_zero]); (try simp only [List.setIfInBounds_toArray]); (try simp only [List.set_cons_succ]); (try simp only [List.set_cons_zero])
            refine wpAnyH_ready (rs := [9]) (by kernel_rfl) (by simp) ?_
            refine AllReadyH.cons rfl (fun K hK => ?_) AllReadyH.nil
            obtain ⟨a9, c9, w9, hrun, L9, k9⟩ := app_one T_lSpan 41 (ks.length - j) (cap - j) [.slice a1 p1.length c1, .slice a2 p2.length c2] (css.drop j).flatten rfl HLD.out rowP (LA2.out.keep kd (fun _ _ h => h)) HON.out (by omega) (by decide) (by decide)
            refine step_app (by kernel_rfl) _ _ rfl rfl rfl hrun ?_
            (try simp only [List.getElem_toArray]); (try simp only [List.getElem_cons_succ]); (try simp only [List.getElem_cons_zero])
            have kd9 := kd.trans k9
            refine hK.out _ _ ((HO.out _ kd9)) (fun hHeld => ?_)
            clear hK K
            (try simp only [Act.put]); (try simp only [List.getElem_toArray]); (try simp only [List.getElem_cons_succ]); (try simp only [List.getElem_cons_zero]); (try simp only [List.setIfInBounds_toArray]); (try simp only [List.set_cons_succ]); (try simp only [List.set_cons_zero])
            refine wpAnyH_ready (rs := [10]) (by kernel_rfl) (by simp) ?_
            refine AllReadyH.cons rfl (fun K hK => ?_) AllReadyH.nil
            obtain ⟨gN, cN, wN, hrunN, LN, hcN, kN⟩ := app_new T_lSpan 41 j (1 + (ks.length - j)) c9 (css.take j).flatten ([.slice a1 p1.length c1, .slice a2 p2.length c2] ++ (css.drop j).flatten) HLT2.out (by rw [List.length_append, HLD.out]; show 2 + (ks.length - j) * 2 = (1 + (ks.length - j)) * 2; omega) (HLA1.out.keep kd9 (fun _ _ h => h)) L9 (by
              intro u hu
              rw [List.mem_append] at hu
              rcases hu with hu | hu
              · exact List.all_eq_true.1 (show ([.slice a1 p1.length c1, .slice a2 p2.length c2] : List Value).all Value.oneCell' = true from rfl) u hu
              · exact HON.out u hu) (by omega) (by omega) (by decide) (by decide)
            refine step_app (by kernel_rfl) _ _ rfl rfl rfl hrunN ?_
            (try simp only [List.getElem_toArray]); (try simp only [List.getElem_cons_succ]); (try simp only [List.getElem_cons_zero])
            have kdN := kd9.trans kN
            refine hK.out _ _ ((HO.out _ kdN)) (fun hHeld => ?_)
            clear hK K
            (try simp only [Act.put]); (try simp only [List.getElem_toArray]); (try simp only [List.getElem_cons_succ]); (try simp only [List.getElem_cons_zero]); (try simp only [List.setIfInBounds_toArray]); (try simp only [List.set_cons_succ]); (try simp only [List.set_cons_zero])
            refine wpAnyH_take (i := 11) (v := ?_) rfl (by kernel_rfl) (by kernel_rfl) (by kernel_rfl) (fun _ _ _ h => h) (Or.inl ⟨by kernel_rfl, ?_⟩) hHeld ?_
            rotate_left
            · intro w' hSw
              (try dsimp only at hSw)
              (try simp only [List.getElem_toArray]); (try simp only [List.getElem_cons_succ]); (try simp only [List.getElem_cons_zero])
              go_simp
              try with_reducible rfl
            (try simp only [Act.put]); (try simp only [List.getElem_toArray]); (try simp only [List.getElem_cons_succ]); (try simp only [List.getElem_cons_zero]); (try simp only [List.setIfInBounds_toArray]); (try simp only [List.set_cons_succ]); (try simp only [List.set_cons_zero])
            refine wpAnyH_done (by kernel_rfl) ?_ _
            clear hHeld
            have hPK : rGSpan wN ANY [.slice a1 p1.length c1, .slice a2 p2.length c2] (pieceK r ⟨f, t⟩ k) := by
              show rGSpan _ _ _ ⟨stp r ⟨f, t⟩ k, stp r ⟨f, t⟩ (k + 1)⟩
              rw [HX1.out, HX2.out]
              exact mkS (HL1.out.keep kdN) (HL2.out.keep kdN)
            have hEN := (HE.out.keep rGSpan_lawful kdN (fun _ _ h => h)).ins hPK j
            have hlenN : (insK ks j k).length = j + (1 + (ks.length - j)) := by unfold insK; rw [List.length_append, List.length_take, List.length_cons, List.length_drop]; omega
            have HPN2 : Hid (rList rGSpan wN ANY [.slice (some ⟨gN, 0, none⟩) (insK ks j k).length cN] ((insK ks j k).map (pieceK r ⟨f, t⟩))) := by
              refine ⟨some ⟨gN, 0, none⟩, cN, css.take j ++ [.slice a1 p1.length c1, .slice a2 p2.length c2] :: css.drop j, by rw [List.length_map], ?_, ?_, by rw [List.length_map, hlenN]; exact hcN, by rw [List.length_map, hlenN]; unfold far; omega, ?_⟩
              · rw [hEN.1, List.length_map]; unfold insK; simp only [List.length_append, List.length_cons, List.length_take, List.length_drop, List.length_map]
              · rw [List.flatten_append, List.flatten_cons]; exact LN.mono (fun _ _ => trivial)
              · have e : (insK ks j k).map (pieceK r ⟨f, t⟩) = (ks.map (pieceK r ⟨f, t⟩)).take j ++ pieceK r ⟨f, t⟩ k :: (ks.map (pieceK r ⟨f, t⟩)).drop j := by unfold insK; rw [List.map_append, List.map_cons, List.map_take, List.map_drop]
                rw [e]
                exact hEN.2
            have HKS : Hid (Ks r ⟨f, t⟩ (l.take (i + 1)) (insK ks j k)) := by
              show Ks _ _ _ _
              rw [HTK.out]
              exact HK.out.ins HIP.out k HKK.out.1 HKK.out.2 j (by omega) HLO.out HHI.out
            have HKLN : Hid ((insK ks j k).length = i + 1) := by show _ = _; rw [hlenN]; have := HKL.out; omega
            have HAN : Hid (insK ks j k = [] → (some ⟨gN, 0, none⟩ : Option Addr) = none ∧ cN = 0) := fun e => by rw [e] at hlenN; have : ([] : List Nat).length = 0 := rfl; omega
            replace row1 := row1.keep kdN id
            replace rowT := rowT.keep kdN id
            replace kk4 := kk4.trans kdN
            have HLEQ := Lib.hid hlenN
            clear hEN hPK hlenN LN hcN kN kdN kd9 k9 L9 rowP hrun hrunN kd
            go_wp2_with fail
            go_roundw
            case rel => exact ⟨i + 1, insK ks j k, some ⟨gN, 0, none⟩, cN, by omega, by go_num, by rw [HLEQ.out], HAN, HPN2, HKLN, HKS, row1, rowT, kk4⟩
            case measure => simp [intOf]; omega
    · obtain rfl : i = l.length := by omega
      have hK := HK.out
      rw [List.take_length, ← HLL.out] at hK
      have hch := HIP.out.chain HLT.out r.fSpans.length (Nat.le_refl _)
      rw [← Ks.all HIP.out hK, HIP.out.last] at hch
      have HCH : Hid (Chain f (ks.map (pieceK r ⟨f, t⟩)) t) := hch
      have hpos : 0 < ks.length := by
        rcases Nat.eq_zero_or_pos ks.length with h | h
        · have := HCH.out
          rw [List.eq_nil_of_length_eq_zero h] at this
          have h2 : f = t := this
          have := HLT.out
          rw [h2, ltB_irrefl] at this
          cases this
        · exact h
      have hks8 : ks.length ≤ 8 := by have := HKL.out; omega
      have LFn : LB wr ANY (some ⟨bF, oF, none⟩) dF f := LF.keep kk4
      have LTn : LB wr ANY aT cT t := LT.keep kk4
      have x0 := rowT.cell 0
      (try simp only [List.getElem?_cons_zero] at x0)
      have x1 := rowT.cell 1
      (try simp only [List.getElem?_cons_succ] at x1); (try simp only [List.getElem?_cons_zero] at x1)
      clear hK hch LF LT row1 rowT
      go_wp2_with fail
      clear x0
      go_loopw [11, 12] (fun av iv w2 => ∃ (q : Nat) (aA : Option Addr) (cA : Nat) (u : List UInt8), q ≤ ks.length ∧ iv = .int .i64 q ∧ av = .slice aA u.length cA ∧ LB w2 ANY aA cA u ∧ Hid (Chain u ((ks.map (pieceK r ⟨f, t⟩)).drop q) t) ∧ wr = w2) (fun _ iv _ => ks.length - (intOf iv).toNat)
      case atStart => exact ⟨0, _, _, f, by omega, rfl, rfl, LFn, by show Chain _ _ _; rw [List.drop_zero]; exact HCH.out, rfl⟩
      case round =>
        obtain ⟨q, aA, cA, u, hq, rfl, rfl, LA, HCQ, rfl⟩ := hrel
        by_cases hlt : q < ks.length
        · have hq1 : (q : Int) < (ks.length : Int) := by omega
          have hq0 : (0 : Int) ≤ (q : Int) := by omega
          have hqm : q < (ks.map (pieceK r ⟨f, t⟩)).length := by simpa using hlt
          obtain ⟨b3, o3, _, c3, e1, -, hb3, zr, zc⟩ := rList_at rGSpan_lawful (by decide) HPL.out q hqm
          simp only [List.cons.injEq, Value.slice.injEq, List.length_map, and_true] at e1
          obtain ⟨rfl, -, -⟩ := e1
          have hc := HCQ.out
          rw [List.drop_eq_getElem_cons hqm] at hc
          generalize (ks.map (pieceK r ⟨f, t⟩))[q] = x at zr hc
          obtain ⟨hx1, hx2⟩ := hc
          obtain ⟨a3, d3, a4, d4, rfl, L3, L4, -⟩ := rGSpan_open zr
          have HX := Lib.hid hx2
          have z3 := zc 0 _ rfl
          (try simp only [Nat.add_zero] at z3)
          have z4 := zc 1 _ rfl
          have hcall := bytes_c a3 aA x.fFrom.length d3 u.length cA x.fFrom u _ rfl rfl L3.1 LA.1
          rw [decide_eq_true hx1] at hcall
          clear hx1 hx2 zr zc LA
          go_wp2_with fail
          go_fit hcall
          rintro e w' ⟨rfl, rfl⟩
          clear hcall
          go_wp2_with fail
          go_roundw
          case rel => exact ⟨q + 1, a4, d4, x.fTo, by omega, by go_num, rfl, L4, HX, trivial⟩
          case measure => simp [intOf]; omega
        · obtain rfl : q = ks.length := by omega
          have hu : u = t := by
            have := HCQ.out
            rw [List.drop_eq_nil_of_le (by simp)] at this
            exact this
          subst hu
          have hp1 : (0 : Int) < (ks.length : Int) := by omega
          have hcall := bytes_c aA aT u.length cA u.length cT u u _ rfl rfl LA.1 LTn.1
          rw [decide_eq_true rfl] at hcall
          clear HCQ
          go_wp2_with fail
          go_fit hcall
          rintro e w' ⟨rfl, rfl⟩
          go_wp2_with fail
          go_ret
          exact ⟨rfl, kk1.trans kk4⟩
end
namespace routeParts
theorem walk {m0 m1 : Nat} (W : World) (v0 v1 : Value) (h0 : Arg Try.prog W m0 25 v0) (h1 : Arg Try.prog W m1 29 v1) :
    Calls Try.prog 4 #[v0, v1] W fun e w' => e = .returned (.bool true) ∧ Keep Nix W w' := by
  obtain ⟨csr, r, rfl, hr⟩ := routes_arg h0
  obtain ⟨css, s, rfl, hs⟩ := span_arg h1
  exact parts_walk W r csr s css hr hs
end routeParts
end Go.Proofs.Ytpblmaklbnpbfaa
