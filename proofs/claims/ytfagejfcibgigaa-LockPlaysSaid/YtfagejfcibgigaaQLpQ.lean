/- LOCK: the law LockPlays. Printed by mac.py. -/
import Derived.Test.YtfagejfcibgigaaQLpO
import Derived.Deep.DeepCutAuto
import Derived.Deep.CutBlock
namespace Go.Proofs.Ytfagejfcibgigaa
open Go.RowKit Go.Shelf

/-- One round's state. -/
structure Sta (W w : World) (g bR n k : Nat) (O Q : Nat → Prop) (L : List GHeld) (aL : Option Addr) (cL : Nat) (css : List (List Value)) (cs6 cs7 : List Value) : Prop where
  m : IsTab w O g n L
  r : RTab w Q bR L aL cL css
  dj : ∀ i, O i → ¬ Q i
  ge : ∀ i, O i ∨ Q i → W.heap.size + 2 ≤ i
  kk : Keep Nix W w
  p6 : RowIs w W.heap.size 46 cs6
  p7 : RowIs w (W.heap.size + 1) 28 cs7
  nk : n ≤ k
  lk : L.length ≤ k
theorem Sta.nix {W w w' : World} {g bR n k : Nat} {O Q : Nat → Prop} {L : List GHeld} {aL : Option Addr} {cL : Nat} {css : List (List Value)} {cs6 cs7 : List Value} (h : Sta W w g bR n k O Q L aL cL css cs6 cs7) (kq : Keep Nix w w') : Sta W w' g bR n k O Q L aL cL css cs6 cs7 :=
  ⟨h.m.nix kq, h.r.nix kq, h.dj, h.ge, h.kk.trans kq, h.p6.keep kq id, h.p7.keep kq id, h.nk, h.lk⟩
theorem Sta.more {W w : World} {g bR n k m : Nat} {O Q : Nat → Prop} {L : List GHeld} {aL : Option Addr} {cL : Nat} {css : List (List Value)} {cs6 cs7 : List Value} (h : Sta W w g bR n k O Q L aL cL css cs6 cs7) (hm : k ≤ m) : Sta W w g bR n m O Q L aL cL css cs6 cs7 :=
  ⟨h.m, h.r, h.dj, h.ge, h.kk, h.p6, h.p7, Nat.le_trans h.nk hm, Nat.le_trans h.lk hm⟩
theorem Sta.bend {W w w' : World} {g bR n k : Nat} {O Q p : Nat → Prop} {L : List GHeld} {aL : Option Addr} {cL : Nat} {css : List (List Value)} {cs6 cs7 : List Value} (h : Sta W w g bR n k O Q L aL cL css cs6 cs7) (kq : Keep p w w') (hp : ∀ i, p i → ¬ O i ∧ ¬ Q i ∧ W.heap.size + 2 ≤ i) : Sta W w' g bR n k O Q L aL cL css cs6 cs7 :=
  ⟨h.m.keep kq (fun i hi hq => (hp i hq).1 hi), h.r.keep kq (fun i hi hq => (hp i hq).2.1 hi), h.dj, h.ge, h.kk.then kq (fun i hi hq => by have := (hp i hq).2.2; omega), h.p6.keep kq (fun e => by have := (hp _ e).2.2; omega), h.p7.keep kq (fun e => by have := (hp _ e).2.2; omega), h.nk, h.lk⟩
theorem row4 {w : World} {b e : Nat} {css : List (List Value)} {rest : List Value} (row : RowIs w b e (css.flatten ++ rest)) (h4 : ∀ z ∈ css, z.length = 4) {k : Nat} {c : List Value} (hc : css[k]? = some c) {j : Nat} {u : Value} (hu : c[j]? = some u) : w.cell? ⟨b, k * 4 + j, none⟩ = some u := by
  have hf := flat4_at css h4 k c hc j u hu
  rw [row.cell, List.getElem?_append_left (List.getElem?_eq_some_iff.1 hf).1]
  exact hf
theorem opHeld {w : World} {b : Nat} {d : Bool} {cs : List Value} (row : RowIs w b 56 (.bool d :: cs)) (h4 : cs.length = 4) : (wholeSem 28 (.pointer (some ⟨b, 1, none⟩))).run Try.prog w = .ok (.value (.agg cs.toArray)) w := Whole.at S_Held h4 (fun j u hu => by
  rw [row.cell, Nat.add_comm, List.getElem?_cons_succ]; exact hu)
namespace lockPlays
section
attribute [local go_sem ↓] ldz_Held stz_Held ldz_Span lda_Op stz_Op
set_option maxRecDepth 100000 in
set_option maxHeartbeats 8000000 in
theorem plays_walk (W : World) (a0 : Option Addr) (cap0 : Nat) (ops : List GOp) (ak : Option Addr) (ck : Nat) (key : List UInt8) (s : GSpan) (csS : List Value) (ask : GHeld) (csA : List Value) (hl : rList rGOp W (· < W.heap.size) [.slice a0 ops.length cap0] ops) (hkey : Lies W (· < W.heap.size) ak (key.map bv)) (hs : rGSpan W (· < W.heap.size) csS s) (ha : rGHeld W (· < W.heap.size) csA ask) :
    Calls Try.prog 5 #[.slice a0 ops.length cap0, .slice ak key.length ck, .agg csS.toArray, .agg csA.toArray] W fun e w' => e = .returned (.bool true) ∧ Keep Nix W w' := by
  have hcl : ops.length ≤ 140737488351232 := (rList_len hl).2.2
  have hs2 := hs
  have ha2 := ha
  obtain ⟨sF, dF, sT, dT, rfl, -⟩ := rGSpan_open hs
  obtain ⟨gK, eK, gS, eS, gW, eW, rfl, hau, -⟩ := rGHeld_open ha
  have HL := Lib.hid hl
  have HKY := Lib.hid hkey
  have HSP := Lib.hid hs2
  have HAS := Lib.hid ha2
  have HAU := Lib.hid hau
  have k0 : Keep Nix W ((W.alloc (.cells #[.slice sF s.fFrom.length dF, .slice sT s.fTo.length dT] 46)).alloc (.cells #[.int .u64 ask.fTxn, .slice gK ask.fKeys.length eK, .slice gS ask.fSpans.length eS, .slice gW ask.fWrites.length eW] 28)) := ((Keep.refl Nix W).alloc _).alloc _
  have row6 : RowIs ((W.alloc (.cells #[.slice sF s.fFrom.length dF, .slice sT s.fTo.length dT] 46)).alloc (.cells #[.int .u64 ask.fTxn, .slice gK ask.fKeys.length eK, .slice gS ask.fSpans.length eS, .slice gW ask.fWrites.length eW] 28)) W.heap.size 46 [.slice sF s.fFrom.length dF, .slice sT s.fTo.length dT] := (RowIs.alloc W _ _).keep ((Keep.refl Nix _).alloc _) id
  have row7 : RowIs ((W.alloc (.cells #[.slice sF s.fFrom.length dF, .slice sT s.fTo.length dT] 46)).alloc (.cells #[.int .u64 ask.fTxn, .slice gK ask.fKeys.length eK, .slice gS ask.fSpans.length eS, .slice gW ask.fWrites.length eW] 28)) (W.heap.size + 1) 28 [.int .u64 ask.fTxn, .slice gK ask.fKeys.length eK, .slice gS ask.fSpans.length eS, .slice gW ask.fWrites.length eW] := by
    have h := RowIs.alloc (W.alloc (.cells #[.slice sF s.fFrom.length dF, .slice sT s.fTo.length dT] 46)) #[.int .u64 ask.fTxn, .slice gK ask.fKeys.length eK, .slice gS ask.fSpans.length eS, .slice gW ask.fWrites.length eW] 28
    rw [World.size_alloc] at h
    exact h
  have hsz0 : Hid ((((W.alloc (.cells #[.slice sF s.fFrom.length dF, .slice sT s.fTo.length dT] 46)).alloc (.cells #[.int .u64 ask.fTxn, .slice gK ask.fKeys.length eK, .slice gS ask.fSpans.length eS, .slice gW ask.fWrites.length eW] 28))).heap.size = W.heap.size + 2) := by show _ = _; simp
  have R6 := Lib.hid row6
  have R7 := Lib.hid row7
  have K0 := Lib.hid k0
  have HC := Lib.hid (new_c ((W.alloc (.cells #[.slice sF s.fFrom.length dF, .slice sT s.fTo.length dT] 46)).alloc (.cells #[.int .u64 ask.fTxn, .slice gK ask.fKeys.length eK, .slice gS ask.fSpans.length eS, .slice gW ask.fWrites.length eW] 28)))
  clear hl hkey hs hs2 ha ha2 hau k0 row6 row7
  go_enter Try.func5, Try.ntmps5
  go_wp2_with fail
  go_fit HC.out
  rintro e w1 ⟨g, O, rfl, T, hO, k1⟩
  have hO1 : ∀ i, O i → W.heap.size + 2 ≤ i ∧ i < w1.heap.size := fun i hi => ⟨by have := hO i hi; have := hsz0.out; omega, T.lt i hi⟩
  have kA : Keep Nix w1 (w1.alloc (.cells #[.slice none 0 0] 54)) := (Keep.refl Nix w1).alloc _
  have rowO := RowIs.alloc w1 #[.slice none 0 0] 54
  have hs1 : W.heap.size + 2 ≤ w1.heap.size := by have := k1.size; have := hsz0.out; omega
  have ST0 : Sta W (w1.alloc (.cells #[.slice none 0 0] 54)) g w1.heap.size 0 0 O (· = w1.heap.size) [] none 0 [] [.slice sF s.fFrom.length dF, .slice sT s.fTo.length dT] [.int .u64 ask.fTxn, .slice gK ask.fKeys.length eK, .slice gS ask.fSpans.length eS, .slice gW ask.fWrites.length eW] :=
    ⟨T.nix kA, RTab.made rowO, fun i hi e => by have := (hO1 i hi).2; omega, fun i hi => hi.elim (fun h => (hO1 i h).1) (fun e => by omega), (K0.out.trans k1).trans kA, (R6.out.keep k1 id).keep kA id, (R7.out.keep k1 id).keep kA id, Nat.le_refl _, Nat.le_refl _⟩
  have ST0 := Lib.hid ST0
  clear HC T hO hO1 k1 kA rowO hs1 R6 R7 K0 hsz0
  go_wp2_with fail
  go_fit (awake_c _)
  rintro e w2 ⟨rfl, k2⟩
  have ST1 := Lib.hid (ST0.out.nix k2)
  clear ST0 k2
  generalize w1.heap.size = bR at *
  have hld := Whole.row (P := Try.prog) S_Held rfl ST1.out.p7
  unfold Whole at hld
  have HC := Lib.hid (small_c ask [.int .u64 ask.fTxn, .slice gK ask.fKeys.length eK, .slice gS ask.fSpans.length eS, .slice gW ask.fWrites.length eW] w2 (rGHeld_lawful.nix HAS.out ST1.out.kk))
  obtain ⟨v, hv⟩ : ∃ v, smallB ask = v := ⟨_, rfl⟩
  rw [hv] at HC
  clear hv
  go_wp2_with fail
  clear hld
  go_fit HC.out
  rintro e w3 ⟨rfl, k3⟩
  have ST2 := Lib.hid (ST1.out.nix k3)
  clear ST1 k3 HC
  cases v with
  | false =>
    go_wp2_with fail
    go_fit (awake_c _)
    rintro e w4 ⟨rfl, k4⟩
    go_wp2_with fail
    go_ret
    exact ⟨rfl, ST2.out.kk.trans k4⟩
  | true =>
    go_wp2_with fail
    go_loopw [11] (fun i wr => ∃ (k n : Nat) (O Q : Nat → Prop) (L : List GHeld) (aL : Option Addr) (cL : Nat) (css : List (List Value)), i = .int .i64 (k : Int) ∧ k ≤ ops.length ∧ k ≤ 60 ∧ Sta W wr g bR n k O Q L aL cL css [.slice sF s.fFrom.length dF, .slice sT s.fTo.length dT] [.int .u64 ask.fTxn, .slice gK ask.fKeys.length eK, .slice gS ask.fSpans.length eS, .slice gW ask.fWrites.length eW]) (fun i _ => ops.length - (intOf i).toNat)
    case atStart => exact ⟨0, 0, O, _, [], none, 0, [], rfl, Nat.zero_le _, Nat.zero_le _, ST2.out⟩
    case round =>
      clear ST2
      obtain ⟨k, n, O, Q, L, aL, cL, css, rfl, hk, hk60, st⟩ := hrel
      have ST := Lib.hid st
      clear st
      by_cases hlt : k < ops.length
      · have hi0 : (0 : Int) ≤ (k : Int) := by omega
        have hi1 : (k : Int) < (ops.length : Int) := by omega
        by_cases h60 : k < 60
        · have hi2 : (k : Int) < 60 := by omega
          have hwk : IntKind.i64.wrap ((k : Int) + 1) = (k : Int) + 1 := by rw [IntKind.wrap_i64]; omega
          obtain ⟨bb, o, cc, cx, e1, hpb, hbb, rC, hcx⟩ := rList_at rGOp_lawful (by decide) HL.out k hlt
          simp only [List.cons.injEq, Value.slice.injEq, and_true] at e1
          obtain ⟨rfl, -, -⟩ := e1
          generalize ops[k] = x at *
          obtain ⟨aK, cK, aS, cS, aW, cW, rfl, hxh⟩ := rGOp_open rC
          have RX := Lib.hid hxh
          obtain ⟨_, _, _, _, _, _, -, hxu, -⟩ := rGHeld_open hxh
          have HXU := Lib.hid hxu
          have hld : (wholeSem 56 (.pointer (some ⟨bb, o + k * 5, none⟩))).run Try.prog wr = .ok (.value (.agg ([.bool x.fDrop, .int .u64 x.fH.fTxn, .slice aK x.fH.fKeys.length cK, .slice aS x.fH.fSpans.length cS, .slice aW x.fH.fWrites.length cW] : List Value).toArray)) wr := Whole.at S_Op rfl (fun j u hu => (ST.out.kk.cell (p := ⟨bb, _, none⟩) hbb id).trans (hcx j u hu))
          obtain ⟨hst, rowP, kP⟩ := boxed (P := Try.prog) (zs := [.bool false, .int .u64 0, .slice none 0 0, .slice none 0 0, .slice none 0 0]) (cs := [.bool x.fDrop, .int .u64 x.fH.fTxn, .slice aK x.fH.fKeys.length cK, .slice aS x.fH.fSpans.length cS, .slice aW x.fH.fWrites.length cW]) S_Op wr rfl rfl rfl
          generalize ((wr.alloc (.cells ([.bool false, .int .u64 0, .slice none 0 0, .slice none 0 0, .slice none 0 0] : List Value).toArray 56)).setRow wr.heap.size ([.bool x.fDrop, .int .u64 x.fH.fTxn, .slice aK x.fH.fKeys.length cK, .slice aS x.fH.fSpans.length cS, .slice aW x.fH.fWrites.length cW] : List Value).toArray) = wv at *
          have STV := Lib.hid (ST.out.nix kP)
          have RP := Lib.hid rowP
          have HBP : Hid (¬ O wr.heap.size ∧ ¬ Q wr.heap.size ∧ W.heap.size + 2 ≤ wr.heap.size) := ⟨fun h => by have := ST.out.m.lt _ h; omega, fun h => by have := ST.out.r.lt _ h; omega, by have := ST.out.p7.lt; omega⟩
          have hld1 : (wholeSem 28 (.pointer (some ⟨wr.heap.size, 1, none⟩))).run Try.prog wv = .ok (.value (.agg ([.int .u64 x.fH.fTxn, .slice aK x.fH.fKeys.length cK, .slice aS x.fH.fSpans.length cS, .slice aW x.fH.fWrites.length cW] : List Value).toArray)) wv := Whole.at S_Held rfl (fun j u hu => by
            rw [rowP.cell, Nat.add_comm, List.getElem?_cons_succ]; exact hu)
          have HC := Lib.hid (small_c x.fH [.int .u64 x.fH.fTxn, .slice aK x.fH.fKeys.length cK, .slice aS x.fH.fSpans.length cS, .slice aW x.fH.fWrites.length cW] wv (rGHeld_lawful.nix RX.out STV.out.kk))
          obtain ⟨v, hv⟩ : ∃ v, Hid (smallB x.fH = v) := ⟨_, rfl⟩
          rw [hv.out] at HC
          clear hcx rC hxh hxu kP rowP ST
          go_wp2_with fail
          clear hld hst hld1
          go_fit HC.out
          rintro e w2 ⟨rfl, k2⟩
          have ST := Lib.hid (STV.out.nix k2)
          have RP := Lib.hid (RP.out.keep k2 id)
          generalize wr.heap.size = bP at *
          clear STV k2 HC
          cases v with
          | false =>
            go_wp2_with fail
            go_roundw
            case rel => exact ⟨k + 1, n, O, Q, L, aL, cL, css, by go_num, by omega, by omega, ST.out.more (Nat.le_succ _)⟩
            case measure => simp [intOf]; omega
          | true =>
            have HSM := Lib.hid (smallB_F hv.out)
            clear hv
            have p0 : w2.cell? ⟨bP, 0, none⟩ = some (.bool x.fDrop) := RP.out.cell 0
            obtain ⟨fl, hfl⟩ : ∃ fl, Hid (x.fDrop = fl) := ⟨_, rfl⟩
            rw [hfl.out] at p0
            have hcl : Hid (ops.length ≤ 140737488351232) := hcl
            go_upto_if 62 with fail
            clear p0
            go_cut [13, 14, 15, 16, 17, 18, 19, 20] from 43 to 240 (fun _ _ _ _ _ _ _ _ wx => ∃ (n1 : Nat) (O1 Q1 : Nat → Prop) (L1 : List GHeld) (aL1 : Option Addr) (cL1 : Nat) (css1 : List (List Value)), Sta W wx g bR n1 (k + 1) O1 Q1 L1 aL1 cL1 css1 [.slice sF s.fFrom.length dF, .slice sT s.fTo.length dT] [.int .u64 ask.fTxn, .slice gK ask.fKeys.length eK, .slice gS ask.fSpans.length eS, .slice gW ask.fWrites.length eW])
            case first =>
              cases fl with
              | true =>
                as_aux_lemma =>
                  have p1 : w2.cell? ⟨bP, 1, none⟩ = some (.int .u64 x.fH.fTxn) := RP.out.cell 1
                  have HC := Lib.hid (drop_c O g n L x.fH.fTxn w2 ST.out.m HXU.out)
                  have HRD := fun w' (r' : RTab w' Q bR L aL cL css) => rdrop_c Q bR L aL cL css x.fH.fTxn w' r' (by have := ST.out.lk; omega)
                  obtain ⟨fo, HFO⟩ : ∃ y, findT L x.fH.fTxn = y := ⟨_, rfl⟩
                  obtain ⟨L', HL'⟩ : ∃ y, dropT L x.fH.fTxn = y := ⟨_, rfl⟩
                  have hlen : Hid (L'.length ≤ L.length) := by have := dropT_le L x.fH.fTxn; rw [HL'] at this; exact this
                  unfold DropPost at HC
                  unfold RDropPost at HRD
                  rw [HFO, HL'] at HC HRD
                  obtain ⟨y, hy⟩ : ∃ y, valO fo = y := ⟨_, rfl⟩
                  rw [hy] at HC HRD
                  obtain ⟨is, hi⟩ : ∃ y, fo.isSome = y := ⟨_, rfl⟩
                  rw [hi] at HC HRD
                  have HRD := Lib.hid HRD
                  clear HFO hy hi fo HL'
                  go_wp2_with fail
                  clear p1
                  go_fit HC.out
                  rintro e w3 ⟨cs, R, rfl, rh, hR, T3, k3⟩
                  have rh1 := rh
                  obtain ⟨bK, hK, bS, hS, bW, hW, rfl, -⟩ := rGHeld_open rh
                  obtain ⟨hst, row13, kX⟩ := boxed (P := Try.prog) (zs := [.int .u64 0, .slice none 0 0, .slice none 0 0, .slice none 0 0]) (cs := [.int .u64 y.fTxn, .slice bK y.fKeys.length hK, .slice bS y.fSpans.length hS, .slice bW y.fWrites.length hW]) S_Held w3 rfl rfl rfl
                  generalize ((w3.alloc (.cells ([.int .u64 0, .slice none 0 0, .slice none 0 0, .slice none 0 0] : List Value).toArray 28)).setRow w3.heap.size ([.int .u64 y.fTxn, .slice bK y.fKeys.length hK, .slice bS y.fSpans.length hS, .slice bW y.fWrites.length hW] : List Value).toArray) = w4 at *
                  have hs23 := k3.size
                  have hs34 := kX.size
                  have hl34 := row13.lt
                  have k4 : Keep O w2 w4 := k3.trans kX.nix
                  have hOP : ∀ i, O i → i < w2.heap.size := fun i hi => ST.out.m.lt i hi
                  have hQP : ∀ i, Q i → i < w2.heap.size := fun i hi => ST.out.r.lt i hi
                  have hge := ST.out.ge
                  have hW2 : W.heap.size + 1 < w2.heap.size := ST.out.p7.lt
                  have T4 := Lib.hid (T3.nix kX)
                  have RT4 := Lib.hid (ST.out.r.keep k4 (fun i hi h => ST.out.dj i h hi))
                  have P64 := Lib.hid (ST.out.p6.keep k4 (fun h => by have := hge _ (.inl h); omega))
                  have P74 := Lib.hid (ST.out.p7.keep k4 (fun h => by have := hge _ (.inl h); omega))
                  have KK4 := Lib.hid (ST.out.kk.then k4 (fun i hi h => by have := hge _ (.inl h); omega))
                  have RP4 := Lib.hid (RP.out.keep k4 HBP.out.1)
                  have HY4 := Lib.hid (rGHeld_lawful.nix rh1 kX)
                  have R13 := Lib.hid row13
                  have HRr := Lib.hid hR
                  have HC := Lib.hid (HRD.out w4 RT4.out)
                  have p1 : w4.cell? ⟨bP, 1, none⟩ = some (.int .u64 x.fH.fTxn) := RP4.out.cell 1
                  clear rh rh1 row13 k3 k4 kX HRD T3 hR
                  go_wp2_with fail
                  clear p1 hst
                  generalize w3.heap.size = b13 at *
                  go_fit HC.out
                  rintro e w5 ⟨cs, aL1, cL1, css1, rfl, rh, RT5, k5⟩
                  have rh1 := rh
                  obtain ⟨iK, jK, iS, jS, iW, jW, rfl, -⟩ := rGHeld_open rh
                  obtain ⟨hst, row15, kX⟩ := boxed (P := Try.prog) (zs := [.int .u64 0, .slice none 0 0, .slice none 0 0, .slice none 0 0]) (cs := [.int .u64 y.fTxn, .slice iK y.fKeys.length jK, .slice iS y.fSpans.length jS, .slice iW y.fWrites.length jW]) S_Held w5 rfl rfl rfl
                  generalize ((w5.alloc (.cells ([.int .u64 0, .slice none 0 0, .slice none 0 0, .slice none 0 0] : List Value).toArray 28)).setRow w5.heap.size ([.int .u64 y.fTxn, .slice iK y.fKeys.length jK, .slice iS y.fSpans.length jS, .slice iW y.fWrites.length jW] : List Value).toArray) = w6 at *
                  have hs45 := k5.size
                  have hs56 := kX.size
                  have k6 : Keep (· = bR) w4 w6 := k5.trans kX.nix
                  have hQR : Q bR := ST.out.r.qb
                  have hbR : bR < w2.heap.size := hQP _ hQR
                  have hbg : W.heap.size + 2 ≤ bR := hge _ (.inr hQR)
                  have hOR : ¬ O bR := fun h => ST.out.dj _ h hQR
                  have ST6 : Sta W w6 g bR n (k + 1) O (fun i => Q i ∨ NewIn w4 w5 i) L' aL1 cL1 css1 [.slice sF s.fFrom.length dF, .slice sT s.fTo.length dT] [.int .u64 ask.fTxn, .slice gK ask.fKeys.length eK, .slice gS ask.fSpans.length eS, .slice gW ask.fWrites.length eW] :=
                    ⟨T4.out.keep k6 (fun i hi e => hOR (e ▸ hi)), RT5.nix kX, fun i hi hq => hq.elim (ST.out.dj i hi) (fun h => by have := hOP i hi; have := h.1; omega), fun i hi => hi.elim (fun h => hge i (.inl h)) (fun h => h.elim (fun h => hge i (.inr h)) (fun h => by have := h.1; omega)), KK4.out.then k6 (fun i hi e => by omega), P64.out.keep k6 (by omega), P74.out.keep k6 (by omega), by have := ST.out.nk; omega, by have := ST.out.lk; have := hlen.out; omega⟩
                  have HYC := rGHeld_lawful.keep HY4.out k6 (fun i hi e => by have := (HRr.out i hi).1; omega)
                  have HZC := rGHeld_lawful.nix rh1 kX
                  have hl13 := Whole.row (P := Try.prog) S_Held rfl (R13.out.keep k6 (by omega))
                  have hl15 := Whole.row (P := Try.prog) S_Held rfl row15
                  unfold Whole at hl13 hl15
                  have HC := Lib.hid (sHeld_c w6 y [.int .u64 y.fTxn, .slice bK y.fKeys.length hK, .slice bS y.fSpans.length hS, .slice bW y.fWrites.length hW] [.int .u64 y.fTxn, .slice iK y.fKeys.length jK, .slice iS y.fSpans.length jS, .slice iW y.fWrites.length jW] HYC HZC)
                  have ST6 := Lib.hid ST6
                  clear rh rh1 row15 k5 k6 kX RT5 T4 RT4 P64 P74 KK4 RP4 HY4 R13 HRr HYC HZC RP ST
                  go_wp2_with fail
                  clear hst hl13 hl15
                  generalize w5.heap.size = b15 at *
                  go_fit HC.out
                  rintro e w7 ⟨rfl, k7⟩
                  have ST7 := Lib.hid (ST6.out.nix k7)
                  clear ST6 k7 HC HBP hlen
                  go_wp2_with fail
                  go_meet
                  exact ⟨_, _, _, _, _, _, _, ST7.out⟩
              | false =>
                as_aux_lemma =>
                  have hld1 := opHeld RP.out rfl
                  have hX := rGHeld_lawful.nix RX.out ST.out.kk
                  have hHX := Lib.hid hX
                  have hOP : ∀ i, O i → i < w2.heap.size := fun i hi => ST.out.m.lt i hi
                  have hQP : ∀ i, Q i → i < w2.heap.size := fun i hi => ST.out.r.lt i hi
                  have hge := ST.out.ge
                  have hW2 : W.heap.size + 1 < w2.heap.size := ST.out.p7.lt
                  have hP2 : bP < w2.heap.size := RP.out.lt
                  have HC := Lib.hid (rcopyW_c x.fH [.int .u64 x.fH.fTxn, .slice aK x.fH.fKeys.length cK, .slice aS x.fH.fSpans.length cS, .slice aW x.fH.fWrites.length cW] w2 hX HSM.out (fun i (hi : i < W.heap.size) => by omega))
                  clear hX
                  go_wp2_with fail
                  clear hld1
                  go_fit HC.out
                  rintro e w3 ⟨cs, rfl, wh, k3⟩
                  have wh1 := wh
                  obtain ⟨nK, mK, nS, mS, nW, mW, rfl, -⟩ := wh
                  obtain ⟨hst, row17, kX⟩ := boxed (P := Try.prog) (zs := [.int .u64 0, .slice none 0 0, .slice none 0 0, .slice none 0 0]) (cs := [.int .u64 x.fH.fTxn, .slice nK x.fH.fKeys.length mK, .slice nS x.fH.fSpans.length mS, .slice nW x.fH.fWrites.length mW]) S_Held w3 rfl rfl rfl
                  generalize ((w3.alloc (.cells ([.int .u64 0, .slice none 0 0, .slice none 0 0, .slice none 0 0] : List Value).toArray 28)).setRow w3.heap.size ([.int .u64 x.fH.fTxn, .slice nK x.fH.fKeys.length mK, .slice nS x.fH.fSpans.length mS, .slice nW x.fH.fWrites.length mW] : List Value).toArray) = w4 at *
                  have k4 := k3.trans kX
                  have hs23 := k3.size
                  have hs34 := kX.size
                  have hl34 := row17.lt
                  have ST4 := Lib.hid (ST.out.nix k4)
                  have RP4 := Lib.hid (RP.out.keep k4 id)
                  have WH4 := Lib.hid (wGHeld_lawful.nix wh1 kX)
                  have R17 := Lib.hid row17
                  have hl17 := Whole.row (P := Try.prog) S_Held rfl row17
                  unfold Whole at hl17
                  obtain ⟨ev, hev⟩ : ∃ v, mayF L x.fH = v := ⟨_, rfl⟩
                  obtain ⟨L', HL'⟩ : ∃ v, afterPut L x.fH = v := ⟨_, rfl⟩
                  have hlen : Hid (L'.length ≤ L.length + 1) := by have := put_le L x.fH; rw [HL'] at this; exact this
                  have HCP := put_c (p := NewIn w2 w3) O g n L x.fH [.int .u64 x.fH.fTxn, .slice nK x.fH.fKeys.length mK, .slice nS x.fH.fSpans.length mS, .slice nW x.fH.fWrites.length mW] w4 ST4.out.m (by have := ST.out.nk; omega) (wGHeld_to WH4.out) HSM.out (fun i hi => by have := hi.2; omega)
                  have HCQ := fun w' (r' : RTab w' Q bR L aL cL css) (hX' : rGHeld w' (· < W.heap.size) [.int .u64 x.fH.fTxn, .slice aK x.fH.fKeys.length cK, .slice aS x.fH.fSpans.length cS, .slice aW x.fH.fWrites.length cW] x.fH) (hw : W.heap.size ≤ w'.heap.size) => rput_c Q bR L aL cL css x.fH [.int .u64 x.fH.fTxn, .slice aK x.fH.fKeys.length cK, .slice aS x.fH.fSpans.length cS, .slice aW x.fH.fWrites.length cW] w' r' (by have := ST.out.lk; omega) ST.out.m.ok hX' HSM.out (fun i (hi : i < W.heap.size) => by omega)
                  unfold PutPost at HCP
                  unfold RPutPost at HCQ
                  rw [hev, HL'] at HCP HCQ
                  have HCP := Lib.hid HCP
                  have HCQ := Lib.hid HCQ
                  clear hev HL' wh1 k3 k4 row17 HC
                  go_wp2_with fail
                  clear hst hl17
                  have HP3 : Hid (∀ i, NewIn w2 w3 i → w2.heap.size ≤ i ∧ i < w3.heap.size) := fun i hi => hi
                  generalize w3.heap.size = b17 at *
                  go_fit HCP.out
                  rintro e w5 ⟨rfl, O1, T5, hO1, hO2, k5⟩
                  have hs45 := k5.size
                  have RT5 := Lib.hid (ST4.out.r.keep k5 (fun i hi h => ST.out.dj i h hi))
                  have RP5 := Lib.hid (RP4.out.keep k5 HBP.out.1)
                  have WH5 := Lib.hid (wGHeld_lawful.keep WH4.out k5 (fun i hi h => by have := hi.1; have := hOP i h; omega))
                  have R175 := Lib.hid (R17.out.keep k5 (fun h => by have := hOP _ h; omega))
                  have hX5 := rGHeld_lawful.keep (rGHeld_lawful.nix RX.out ST4.out.kk) k5 (fun i (hi : i < W.heap.size) h => by have := hge i (.inl h); omega)
                  have HX5 := Lib.hid hX5
                  have KK5 := Lib.hid (ST4.out.kk.then k5 (fun i hi h => by have := hge i (.inl h); omega))
                  have P65 := Lib.hid (ST4.out.p6.keep k5 (fun h => by have := hge _ (.inl h); omega))
                  have P75 := Lib.hid (ST4.out.p7.keep k5 (fun h => by have := hge _ (.inl h); omega))
                  have HC := Lib.hid (HCQ.out w5 RT5.out hX5 (by omega))
                  have T5 := Lib.hid T5
                  have HO1 := Lib.hid hO1
                  have hld1 := opHeld RP5.out rfl
                  clear HCP HCQ k5 hX5 hO1 hO2 ST4 RP4 WH4 R17
                  go_wp2_with fail
                  clear hld1
                  go_fit HC.out
                  rintro e w6 ⟨rfl, aL1, cL1, css1, RT6, k6⟩
                  have hs56 := k6.size
                  have hQR : Q bR := ST.out.r.qb
                  have hbR : bR < w2.heap.size := hQP _ hQR
                  have hbg : W.heap.size + 2 ≤ bR := hge _ (.inr hQR)
                  have hOR : ¬ O bR := fun h => ST.out.dj _ h hQR
                  have hPR : bP ≠ bR := fun e => HBP.out.2.1 (e ▸ hQR)
                  have RP6 := Lib.hid (RP5.out.keep k6 hPR)
                  have WH6 := Lib.hid (wGHeld_lawful.keep WH5.out k6 (fun i hi e => by have := hi.1; omega))
                  have R176 := Lib.hid (R175.out.keep k6 (by omega))
                  have HX6 := Lib.hid (rGHeld_lawful.keep HX5.out k6 (fun i (hi : i < W.heap.size) e => by omega))
                  have ST6 : Sta W w6 g bR (n + 1) (k + 1) O1 (fun i => Q i ∨ NewIn w5 w6 i) L' aL1 cL1 css1 [.slice sF s.fFrom.length dF, .slice sT s.fTo.length dT] [.int .u64 ask.fTxn, .slice gK ask.fKeys.length eK, .slice gS ask.fSpans.length eS, .slice gW ask.fWrites.length eW] :=
                    ⟨T5.out.keep k6 (fun i hi e => (HO1.out i hi).elim (fun h => hOR (e ▸ h)) (fun h => by omega)), RT6, fun i hi hq => hq.elim (fun h => (HO1.out i hi).elim (fun h' => ST.out.dj i h' h) (fun h' => by have := hQP i h; omega)) (fun h => by have := T5.out.lt i hi; have := h.1; omega), fun i hi => hi.elim (fun h => (HO1.out i h).elim (fun h' => hge i (.inl h')) (fun h' => by omega)) (fun h => h.elim (fun h' => hge i (.inr h')) (fun h' => by have := h'.1; omega)), KK5.out.then k6 (fun i hi e => by omega), P65.out.keep k6 (by omega), P75.out.keep k6 (by omega), by have := ST.out.nk; omega, by have := ST.out.lk; have := hlen.out; omega⟩
                  have HPB : Hid (∀ i, NewIn w2 w3 i → ¬ O1 i ∧ ¬ (Q i ∨ NewIn w5 w6 i) ∧ W.heap.size + 2 ≤ i) := fun i hi => ⟨fun h => (HO1.out i h).elim (fun h' => by have := hOP i h'; have := (HP3.out i hi).1; omega) (fun h' => by have := (HP3.out i hi).2; omega), fun h => h.elim (fun h' => by have := hQP i h'; have := (HP3.out i hi).1; omega) (fun h' => by have := h'.1; have := (HP3.out i hi).2; omega), by have := (HP3.out i hi).1; omega⟩
                  have ST6 := Lib.hid ST6
                  have hl17 := Whole.row (P := Try.prog) S_Held rfl R176.out
                  unfold Whole at hl17
                  have hld1 := opHeld RP6.out rfl
                  have HC := Lib.hid (sHeld_c w6 x.fH [.int .u64 x.fH.fTxn, .slice nK x.fH.fKeys.length mK, .slice nS x.fH.fSpans.length mS, .slice nW x.fH.fWrites.length mW] [.int .u64 x.fH.fTxn, .slice aK x.fH.fKeys.length cK, .slice aS x.fH.fSpans.length cS, .slice aW x.fH.fWrites.length cW] (wGHeld_to WH6.out) HX6.out)
                  clear RT6 k6 T5 RT5 RP5 WH5 R175 HX5 KK5 P65 P75 HO1
                  go_wp2_with fail
                  clear hl17 hld1
                  go_fit HC.out
                  rintro e w7 ⟨rfl, k7⟩
                  have ST7 := Lib.hid (ST6.out.nix k7)
                  have R177 := R176.out.keep k7 id
                  have WH7 := wGHeld_lawful.nix WH6.out k7
                  obtain ⟨nK', mK', nS', mS', nW', mW', e', -, hKs, -, hWs⟩ := WH7
                  simp only [List.cons.injEq, Value.slice.injEq, and_true, true_and] at e'
                  obtain ⟨⟨rfl, rfl⟩, -, ⟨rfl, rfl⟩⟩ := e'
                  have Y1 : Hid (w7.cell? ⟨b17, 1, none⟩ = some (.slice nK x.fH.fKeys.length mK)) := R177.cell 1
                  have Y3 : Hid (w7.cell? ⟨b17, 3, none⟩ = some (.slice nW x.fH.fWrites.length mW)) := R177.cell 3
                  have HKs := Lib.hid hKs
                  have HWs := Lib.hid hWs
                  have hf1 := (rList_len hKs).2.2
                  have hf3 := (rList_len hWs).2.2
                  unfold far at hf1 hf3
                  clear ST6 k7 HC R176 RP6 HX6 WH6 R177 hKs hWs hPR hOR hQR
                  obtain ⟨n1, O2, Q2, HST, HPC⟩ : ∃ n' O' Q', Hid (Sta W w7 g bR n' (k + 1) O' Q' L' aL1 cL1 css1 [.slice sF s.fFrom.length dF, .slice sT s.fTo.length dT] [.int .u64 ask.fTxn, .slice gK ask.fKeys.length eK, .slice gS ask.fSpans.length eS, .slice gW ask.fWrites.length eW]) ∧ Hid (∀ i, NewIn w2 w3 i → ¬ O' i ∧ ¬ Q' i ∧ W.heap.size + 2 ≤ i) := ⟨_, _, _, ST7, HPB⟩
                  clear ST7 HPB ST HP3 hOP hQP hge
                  obtain ⟨p, hp⟩ : ∃ p, p = NewIn w2 w3 := ⟨_, rfl⟩
                  rw [← hp] at HPC HKs HWs
                  clear hp
                  have y1 := Y1.out
                  go_wp2_with fail
                  clear y1
                  go_loopw [110] (fun i wr => ∃ j : Nat, j ≤ x.fH.fKeys.length ∧ i = .int .i64 (j : Int) ∧ Bent p w7 wr) (fun i _ => x.fH.fKeys.length - (intOf i).toNat)
                  case atStart => exact ⟨0, Nat.zero_le _, rfl, Bent.refl _ _⟩
                  case round =>
                    obtain ⟨j, hj, rfl, bent⟩ := hrel
                    have HB2 := Lib.hid bent
                    clear bent
                    by_cases hjt : j < x.fH.fKeys.length
                    · have hj0 : (0 : Int) ≤ (j : Int) := by omega
                      have hj1 : (j : Int) < (x.fH.fKeys.length : Int) := by omega
                      obtain ⟨bq, oq, _, cq, e1, hpq, hbq, rB, hcq⟩ := rList_at rBytesW_lawful (by decide) HKs.out j hjt
                      simp only [List.cons.injEq, Value.slice.injEq, and_true] at e1
                      obtain ⟨rfl, -, -⟩ := e1
                      generalize x.fH.fKeys[j] = q at *
                      obtain ⟨ax, cx, rfl, lw, -, fx⟩ := rB
                      have y2 := hcq 0 _ rfl
                      (try simp only [Nat.add_zero, Nat.mul_one] at y2)
                      have y2 := HB2.out.slice y2
                      have y1 := HB2.out.slice Y1.out
                      have hsp := spoilU_c (p := p) ax q.length cx wr ((U8s.of lw).bent HB2.out) (by unfold far at fx; unfold maxLen; omega)
                      have HSU := Lib.hid hsp
                      clear hcq lw hsp fx
                      go_wp2_with fail
                      clear y1 y2
                      go_fit HSU.out
                      rintro e w17 ⟨rfl, b17'⟩
                      have HB3 := Lib.hid (HB2.out.trans b17')
                      clear HSU b17'
                      go_wp2_with fail
                      go_roundw
                      case rel => exact ⟨j + 1, by omega, by go_num, HB3.out⟩
                      case measure => simp [intOf]; omega
                    · obtain rfl : j = x.fH.fKeys.length := by omega
                      have y3 := HB2.out.slice Y3.out
                      go_wp2_with fail
                      clear y3
                      go_loopw [123] (fun i wr => ∃ j : Nat, j ≤ x.fH.fWrites.length ∧ i = .int .i64 (j : Int) ∧ Bent p w7 wr) (fun i _ => x.fH.fWrites.length - (intOf i).toNat)
                      case atStart => exact ⟨0, Nat.zero_le _, rfl, HB2.out⟩
                      case round =>
                        clear HB2
                        obtain ⟨j, hj, rfl, bent⟩ := hrel
                        have HB2 := Lib.hid bent
                        clear bent
                        by_cases hjt : j < x.fH.fWrites.length
                        · have hj0 : (0 : Int) ≤ (j : Int) := by omega
                          have hj1 : (j : Int) < (x.fH.fWrites.length : Int) := by omega
                          obtain ⟨bq, oq, _, cq, e1, hpq, hbq, rB, hcq⟩ := rList_at wGWrite_lawful (by decide) HWs.out j hjt
                          simp only [List.cons.injEq, Value.slice.injEq, and_true] at e1
                          obtain ⟨rfl, -, -⟩ := e1
                          generalize x.fH.fWrites[j] = q at *
                          obtain ⟨ax, cx, av, cv, rfl, hkx, -⟩ := rB
                          obtain ⟨lw, -, fx⟩ := bytesW_in hkx
                          have y2 := hcq 0 _ rfl
                          (try simp only [Nat.add_zero] at y2)
                          have y2 := HB2.out.slice y2
                          have y3 := HB2.out.slice Y3.out
                          have hsp := spoilU_c (p := p) ax q.fKey.length cx wr ((U8s.of lw).bent HB2.out) (by unfold far at fx; unfold maxLen; omega)
                          have HSU := Lib.hid hsp
                          clear hcq lw hsp fx hkx
                          go_wp2_with fail
                          clear y3 y2
                          go_fit HSU.out
                          rintro e w17 ⟨rfl, b17'⟩
                          have HB3 := Lib.hid (HB2.out.trans b17')
                          clear HSU b17'
                          go_wp2_with fail
                          go_roundw
                          case rel => exact ⟨j + 1, by omega, by go_num, HB3.out⟩
                          case measure => simp [intOf]; omega
                        · obtain rfl : j = x.fH.fWrites.length := by omega
                          have STF := Lib.hid (HST.out.bend HB2.out.keep HPC.out)
                          go_wp2_with fail
                          go_meet
                          exact ⟨_, _, _, _, _, _, _, STF.out⟩
            case rest =>
              as_aux_lemma =>
                obtain ⟨n1, O1, Q1, L1, aL1, cL1, css1, STw⟩ := hcut
                have ST := Lib.hid STw
                clear STw
                have a0 : wc.cell? ⟨W.heap.size + 1, 0, none⟩ = some (.int .u64 ask.fTxn) := ST.out.p7.cell 0
                have HC := Lib.hid (get_c O1 g n1 L1 ask.fTxn wc ST.out.m HAU.out)
                have HRG := fun w' (k' : Keep Nix wc w') => rget_c Q1 bR L1 aL1 cL1 css1 ask.fTxn w' (ST.out.r.nix k') (by have := ST.out.lk; omega)
                obtain ⟨fo, HFO⟩ : ∃ y, findT L1 ask.fTxn = y := ⟨_, rfl⟩
                unfold GetPost at HC
                unfold RGetPost at HRG
                rw [HFO] at HC HRG
                obtain ⟨y, hy⟩ : ∃ y, valO fo = y := ⟨_, rfl⟩
                rw [hy] at HC HRG
                obtain ⟨is, hi⟩ : ∃ y, fo.isSome = y := ⟨_, rfl⟩
                rw [hi] at HC HRG
                have HRG := Lib.hid HRG
                clear HFO hy hi fo
                go_wp2_with fail
                clear a0
                go_fit HC.out
                rintro e w8 ⟨cs, rfl, rh, k8⟩
                have rh1 := rh
                obtain ⟨bK, hK, bS, hS, bW, hW, rfl, -⟩ := rGHeld_open rh
                obtain ⟨hst, row21, kX⟩ := boxed (P := Try.prog) (zs := [.int .u64 0, .slice none 0 0, .slice none 0 0, .slice none 0 0]) (cs := [.int .u64 y.fTxn, .slice bK y.fKeys.length hK, .slice bS y.fSpans.length hS, .slice bW y.fWrites.length hW]) S_Held w8 rfl rfl rfl
                generalize ((w8.alloc (.cells ([.int .u64 0, .slice none 0 0, .slice none 0 0, .slice none 0 0] : List Value).toArray 28)).setRow w8.heap.size ([.int .u64 y.fTxn, .slice bK y.fKeys.length hK, .slice bS y.fSpans.length hS, .slice bW y.fWrites.length hW] : List Value).toArray) = w9 at *
                have k9 := k8.trans kX
                have ST9 := Lib.hid (ST.out.nix k9)
                have HY9 := Lib.hid (rGHeld_lawful.nix rh1 kX)
                have R21 := Lib.hid row21
                have HC := Lib.hid (HRG.out w9 k9)
                have a0 : w9.cell? ⟨W.heap.size + 1, 0, none⟩ = some (.int .u64 ask.fTxn) := ST9.out.p7.cell 0
                clear rh rh1 row21 k8 k9 kX HRG ST
                go_wp2_with fail
                clear a0 hst
                generalize w8.heap.size = b21 at *
                go_fit HC.out
                rintro e wa ⟨cs, rfl, rh, ka⟩
                have rh1 := rh
                obtain ⟨iK, jK, iS, jS, iW, jW, rfl, -⟩ := rGHeld_open rh
                obtain ⟨hst, row23, kX⟩ := boxed (P := Try.prog) (zs := [.int .u64 0, .slice none 0 0, .slice none 0 0, .slice none 0 0]) (cs := [.int .u64 y.fTxn, .slice iK y.fKeys.length jK, .slice iS y.fSpans.length jS, .slice iW y.fWrites.length jW]) S_Held wa rfl rfl rfl
                generalize ((wa.alloc (.cells ([.int .u64 0, .slice none 0 0, .slice none 0 0, .slice none 0 0] : List Value).toArray 28)).setRow wa.heap.size ([.int .u64 y.fTxn, .slice iK y.fKeys.length jK, .slice iS y.fSpans.length jS, .slice iW y.fWrites.length jW] : List Value).toArray) = wb at *
                have kb := ka.trans kX
                have STb := Lib.hid (ST9.out.nix kb)
                have HYb := Lib.hid (rGHeld_lawful.nix HY9.out kb)
                have HZb := Lib.hid (rGHeld_lawful.nix rh1 kX)
                have R21b := Lib.hid (R21.out.keep kb id)
                have R23 := Lib.hid row23
                have HC := Lib.hid (allW_c O1 g n1 L1 wb STb.out.m (by have := STb.out.nk; omega) (by have := STb.out.lk; omega))
                clear rh rh1 row23 ka kb kX ST9 HY9 R21
                go_wp2_with fail
                clear hst
                generalize wa.heap.size = b23 at *
                go_fit HC.out
                rintro e wq ⟨aA, cA, cssA, rfl, ownA, elsA, kc⟩
                have hbc := kc.size
                have STc := Lib.hid (STb.out.nix kc)
                have HYc := Lib.hid (rGHeld_lawful.nix HYb.out kc)
                have HZc := Lib.hid (rGHeld_lawful.nix HZb.out kc)
                have R21c := Lib.hid (R21b.out.keep kc id)
                have R23c := Lib.hid (R23.out.keep kc id)
                have OWA := Lib.hid ownA
                have ELA := Lib.hid elsA
                have HPA : Hid (∀ i, NewIn wb wq i → ¬ O1 i ∧ ¬ Q1 i ∧ W.heap.size + 2 ≤ i) := fun i hi => ⟨fun h => by have := STb.out.m.lt i h; have := hi.1; omega, fun h => by have := STb.out.r.lt i h; have := hi.1; omega, by have := STb.out.p7.lt; have := hi.1; omega⟩
                clear ownA elsA kc STb HYb HZb R21b R23 HC
                obtain ⟨ev, hev⟩ : ∃ v, mayF L1 ask = v := ⟨_, rfl⟩
                obtain ⟨v1, hv1⟩ : ∃ v, (!L1.any (fun h => wrB h key)) = v := ⟨_, rfl⟩
                obtain ⟨v2, hv2⟩ : ∃ v, (!L1.any (fun h => toB h s)) = v := ⟨_, rfl⟩
                obtain ⟨v3, hv3⟩ : ∃ v, L1.any (fun h => toucheB h s) = v := ⟨_, rfl⟩
                have HR7 := fun w' (k' : Keep Nix wq w') => rGHeld_lawful.nix HAS.out (STc.out.kk.trans k')
                have HR6 := fun w' (k' : Keep Nix wq w') => rGSpan_lawful.nix HSP.out (STc.out.kk.trans k')
                have HRK := fun w' (k' : Keep Nix wq w') => HKY.out.keep (STc.out.kk.trans k') (fun _ _ h => h)
                have hn1 : n1 ≤ 1000000 := by have := STc.out.nk; omega
                have hl1 : L1.length ≤ 90000 := by have := STc.out.lk; omega
                have H1 := fun w' (k' : Keep Nix wq w') => may_c O1 g n1 L1 ask [.int .u64 ask.fTxn, .slice gK ask.fKeys.length eK, .slice gS ask.fSpans.length eS, .slice gW ask.fWrites.length eW] w' (STc.out.m.nix k') (HR7 w' k') (fun i hi => by have := STc.out.kk.size; have := k'.size; have hi' : i < W.heap.size := hi; omega)
                have H2 := fun w' (k' : Keep Nix wq w') => rmay_c Q1 bR L1 aL1 cL1 css1 ask [.int .u64 ask.fTxn, .slice gK ask.fKeys.length eK, .slice gS ask.fSpans.length eS, .slice gW ask.fWrites.length eW] w' (STc.out.r.nix k') (by omega) (HR7 w' k')
                have H3 := fun w' (k' : Keep Nix wq w') => sHeld_c w' y [.int .u64 y.fTxn, .slice bK y.fKeys.length hK, .slice bS y.fSpans.length hS, .slice bW y.fWrites.length hW] [.int .u64 y.fTxn, .slice iK y.fKeys.length jK, .slice iS y.fSpans.length jS, .slice iW y.fWrites.length jW] (rGHeld_lawful.nix HYc.out k') (rGHeld_lawful.nix HZc.out k')
                have H4 := fun w' (k' : Keep Nix wq w') => free_c O1 g n1 L1 ak ck key w' (STc.out.m.nix k') hn1 (by omega) (HRK w' k')
                have H5 := fun w' (k' : Keep Nix wq w') => rfree_c Q1 bR L1 aL1 cL1 css1 ak ck key w' (STc.out.r.nix k') (by omega) (HRK w' k')
                have H6 := fun w' (k' : Keep Nix wq w') => clear_c O1 g n1 L1 s [.slice sF s.fFrom.length dF, .slice sT s.fTo.length dT] w' (STc.out.m.nix k') hn1 (by omega) (HR6 w' k')
                have H7 := fun w' (k' : Keep Nix wq w') => rclear_c Q1 bR L1 aL1 cL1 css1 s [.slice sF s.fFrom.length dF, .slice sT s.fTo.length dT] w' (STc.out.r.nix k') (by omega) (HR6 w' k')
                have H8 := fun w' (k' : Keep Nix wq w') => touches_c O1 g n1 L1 s [.slice sF s.fFrom.length dF, .slice sT s.fTo.length dT] w' (STc.out.m.nix k') hn1 (by omega) (HR6 w' k')
                have H9 := fun w' (k' : Keep Nix wq w') => rtouches_c Q1 bR L1 aL1 cL1 css1 s [.slice sF s.fFrom.length dF, .slice sT s.fTo.length dT] w' (STc.out.r.nix k') (by omega) (HR6 w' k')
                have HXA := fun w' (k' : Keep Nix wq w') => txns_c O1 g n1 L1 w' (STc.out.m.nix k') hn1 (by omega)
                have HXB := fun w' (k' : Keep Nix wq w') => rtxns_c Q1 bR L1 aL1 cL1 css1 w' (STc.out.r.nix k') (by omega)
                have HXS := fun w' (k' : Keep Nix wq w') => sm_Held w' L1 aA aL1 L1.length cA L1.length cL1 (Els.list (Nat.le_refl _) (owned_keep OWA.out k' (fun _ _ h => h)) ((Els_to (fun h => wGHeld_to h) ELA.out).keep rGHeld_lawful k' (fun _ _ h => h) |>.mono rGHeld_lawful (fun i hi => ⟨⟨hi.1.1, Nat.lt_of_lt_of_le hi.1.2 k'.size⟩, hi.2⟩)) rGHeld_lawful rfl (by unfold far; omega)) ((STc.out.r.nix k').list (by unfold far; omega))
                rw [hev] at H1 H2
                rw [hv1] at H4 H5
                rw [hv2] at H6 H7
                rw [hv3] at H8 H9
                have HH1 := Lib.hid H1
                have HH2 := Lib.hid H2
                have HH3 := Lib.hid H3
                have HH4 := Lib.hid H4
                have HH5 := Lib.hid H5
                have HH6 := Lib.hid H6
                have HH7 := Lib.hid H7
                have HH8 := Lib.hid H8
                have HH9 := Lib.hid H9
                have HHA := Lib.hid HXA
                have HHB := Lib.hid HXB
                have HHS := Lib.hid HXS
                have HU : Hid (∀ t ∈ L1.map (·.fTxn), isU64 t) := fun t ht => by
                  obtain ⟨z, hz, rfl⟩ := List.mem_map.1 ht
                  exact STc.out.m.ok.u64 z hz
                have HSS : Hid (∀ w', Keep Nix wq w' → (wholeSem 28 (.pointer (some ⟨W.heap.size + 1, 0, none⟩))).run Try.prog w' = .ok (.value (.agg ([.int .u64 ask.fTxn, .slice gK ask.fKeys.length eK, .slice gS ask.fSpans.length eS, .slice gW ask.fWrites.length eW] : List Value).toArray)) w' ∧ (wholeSem 28 (.pointer (some ⟨b21, 0, none⟩))).run Try.prog w' = .ok (.value (.agg ([.int .u64 y.fTxn, .slice bK y.fKeys.length hK, .slice bS y.fSpans.length hS, .slice bW y.fWrites.length hW] : List Value).toArray)) w' ∧ (wholeSem 28 (.pointer (some ⟨b23, 0, none⟩))).run Try.prog w' = .ok (.value (.agg ([.int .u64 y.fTxn, .slice iK y.fKeys.length jK, .slice iS y.fSpans.length jS, .slice iW y.fWrites.length jW] : List Value).toArray)) w' ∧ (wholeSem 46 (.pointer (some ⟨W.heap.size, 0, none⟩))).run Try.prog w' = .ok (.value (.agg ([.slice sF s.fFrom.length dF, .slice sT s.fTo.length dT] : List Value).toArray)) w' ∧ w'.cell? ⟨bR, 0, none⟩ = some (.slice aL1 L1.length cL1)) := fun w' k' =>
                  ⟨Whole.row (P := Try.prog) S_Held rfl (STc.out.p7.keep k' id), Whole.row (P := Try.prog) S_Held rfl (R21c.out.keep k' id), Whole.row (P := Try.prog) S_Held rfl (R23c.out.keep k' id), Whole.row (P := Try.prog) S_Span rfl (STc.out.p6.keep k' id), (STc.out.r.nix k').row.cell 0⟩
                have KK := Lib.hid ((Keep.refl Nix wq).drew)
                clear hev hv1 hv2 hv3 HR7 HR6 HRK H1 H2 H3 H4 H5 H6 H7 H8 H9 HXA HXB HXS
                go_upto_region 32 with fail
                refine wp_region_held_drew (S := (fun w' => (wholeSem 28 (.pointer (some ⟨W.heap.size + 1, 0, none⟩))).run Try.prog w' = .ok (.value (.agg ([.int .u64 ask.fTxn, .slice gK ask.fKeys.length eK, .slice gS ask.fSpans.length eS, .slice gW ask.fWrites.length eW] : List Value).toArray)) w' ∧ (wholeSem 28 (.pointer (some ⟨b21, 0, none⟩))).run Try.prog w' = .ok (.value (.agg ([.int .u64 y.fTxn, .slice bK y.fKeys.length hK, .slice bS y.fSpans.length hS, .slice bW y.fWrites.length hW] : List Value).toArray)) w' ∧ (wholeSem 28 (.pointer (some ⟨b23, 0, none⟩))).run Try.prog w' = .ok (.value (.agg ([.int .u64 y.fTxn, .slice iK y.fKeys.length jK, .slice iS y.fSpans.length jS, .slice iW y.fWrites.length jW] : List Value).toArray)) w' ∧ (wholeSem 46 (.pointer (some ⟨W.heap.size, 0, none⟩))).run Try.prog w' = .ok (.value (.agg ([.slice sF s.fFrom.length dF, .slice sT s.fTo.length dT] : List Value).toArray)) w' ∧ w'.cell? ⟨bR, 0, none⟩ = some (.slice aL1 L1.length cL1))) (by kernel_rfl) ((HSS.out _ KK.out)) (fun hHeld => ?_)
                generalize wq.drew = wd at *
                refine wpAnyH_take (i := 0) (v := ?_) rfl (by kernel_rfl) (by kernel_rfl) (by kernel_rfl) (fun _ _ _ h => h) (Or.inl ⟨by kernel_rfl, ?_⟩) hHeld ?_
                rotate_left
                · intro w' hSw
                  (try dsimp only at hSw)
                  (try simp only [List.getElem_toArray]); (try simp only [List.getElem_cons_succ]); (try simp only [List.getElem_cons_zero])
                  go_simp
                  try with_reducible rfl
                (try simp only [Act.put]); (try simp only [List.getElem_toArray]); (try simp only [List.getElem_cons_succ]); (try simp only [List.getElem_cons_zero]); (try simp only [List.setIfInBounds_toArray]); (try simp only [List.set_cons_succ]); (try simp only [List.set_cons_zero])
                refine wpAnyH_take (i := 1) (v := ?_) rfl (by kernel_rfl) (by kernel_rfl) (by kernel_rfl) (fun _ _ _ h => h) (Or.inl ⟨by kernel_rfl, ?_⟩) hHeld ?_
                rotate_left
                · intro w' hSw
                  (try dsimp only at hSw)
                  (try simp only [List.getElem_toArray]); (try simp only [List.getElem_cons_succ]); (try simp only [List.getElem_cons_zero])
                  go_simp
                  try with_reducible rfl
                (try simp only [Act.put]); (try simp only [List.getElem_toArray]); (try simp only [List.getElem_cons_succ]); (try simp only [List.getElem_cons_zero]); (try simp only [List.setIfInBounds_toArray]); (try simp only [List.set_cons_succ]); (try simp only [List.set_cons_zero])
                refine wpAnyH_take (i := 3) (v := ?_) rfl (by kernel_rfl) (by kernel_rfl) (by kernel_rfl) (fun _ _ _ h => h) (Or.inl ⟨by kernel_rfl, ?_⟩) hHeld ?_
                rotate_left
                · intro w' hSw
                  (try dsimp only at hSw)
                  (try simp only [List.getElem_toArray]); (try simp only [List.getElem_cons_succ]); (try simp only [List.getElem_cons_zero])
                  go_simp
                  try with_reducible rfl
                (try simp only [Act.put]); (try simp only [List.getElem_toArray]); (try simp only [List.getElem_cons_succ]); (try simp only [List.getElem_cons_zero]); (try simp only [List.setIfInBounds_toArray]); (try simp only [List.set_cons_succ]); (try simp only [List.set_cons_zero])
                refine wpAnyH_take (i := 4) (v := ?_) rfl (by kernel_rfl) (by kernel_rfl) (by kernel_rfl) (fun _ _ _ h => h) (Or.inl ⟨by kernel_rfl, ?_⟩) hHeld ?_
                rotate_left
                · intro w' hSw
                  (try dsimp only at hSw)
                  (try simp only [List.getElem_toArray]); (try simp only [List.getElem_cons_succ]); (try simp only [List.getElem_cons_zero])
                  go_simp
                  try with_reducible rfl
                (try simp only [Act.put]); (try simp only [List.getElem_toArray]); (try simp only [List.getElem_cons_succ]); (try simp only [List.getElem_cons_zero]); (try simp only [List.setIfInBounds_toArray]); (try simp only [List.set_cons_succ]); (try simp only [List.set_cons_zero])
                refine wpAnyH_ready (rs := [2]) (by kernel_rfl) (by simp) ?_
                refine AllReadyH.cons rfl (fun K hK => ?_) AllReadyH.nil
                skip
                go_simp
                go_fit (HH1.out _ KK.out)
                rintro e w13 ⟨rfl, k13⟩
                have KN := Lib.hid (KK.out.trans k13)
                clear KK k13
                have KK := KN
                clear KN
                go_wp2_with fail
                refine hK.out _ _ ((HSS.out _ KK.out)) (fun hHeld => ?_)
                clear hK K
                (try simp only [Act.put]); (try simp only [List.getElem_toArray]); (try simp only [List.getElem_cons_succ]); (try simp only [List.getElem_cons_zero]); (try simp only [List.setIfInBounds_toArray]); (try simp only [List.set_cons_succ]); (try simp only [List.set_cons_zero])
                refine wpAnyH_ready (rs := [5]) (by kernel_rfl) (by simp) ?_
                refine AllReadyH.cons rfl (fun K hK => ?_) AllReadyH.nil
                skip
                go_simp
                go_fit (HH2.out _ KK.out)
                rintro e w13 ⟨rfl, k13⟩
                have KN := Lib.hid (KK.out.trans k13)
                clear KK k13
                have KK := KN
                clear KN
                go_wp2_with fail
                refine hK.out _ _ ((HSS.out _ KK.out)) (fun hHeld => ?_)
                clear hK K
                (try simp only [Act.put]); (try simp only [List.getElem_toArray]); (try simp only [List.getElem_cons_succ]); (try simp only [List.getElem_cons_zero]); (try simp only [List.setIfInBounds_toArray]); (try simp only [List.set_cons_succ]); (try simp only [List.set_cons_zero])
                refine wpAnyH_take (i := 6) (v := ?_) rfl (by kernel_rfl) (by kernel_rfl) (by kernel_rfl) (fun _ _ _ h => h) (Or.inl ⟨by kernel_rfl, ?_⟩) hHeld ?_
                rotate_left
                · intro w' hSw
                  (try dsimp only at hSw)
                  (try simp only [List.getElem_toArray]); (try simp only [List.getElem_cons_succ]); (try simp only [List.getElem_cons_zero])
                  go_simp
                  try with_reducible rfl
                (try simp only [Act.put]); (try simp only [List.getElem_toArray]); (try simp only [List.getElem_cons_succ]); (try simp only [List.getElem_cons_zero]); (try simp only [List.setIfInBounds_toArray]); (try simp only [List.set_cons_succ]); (try simp only [List.set_cons_zero])
                refine wpAnyH_take (i := 7) (v := ?_) rfl (by kernel_rfl) (by kernel_rfl) (by kernel_rfl) (fun _ _ _ h => h) (Or.inl ⟨by kernel_rfl, ?_⟩) hHeld ?_
                rotate_left
                · intro w' hSw
                  (try dsimp only at hSw)
                  (try simp only [List.getElem_toArray]); (try simp only [List.getElem_cons_succ]); (try simp only [List.getElem_cons_zero])
                  go_simp
                  try with_reducible rfl
                (try simp only [Act.put]); (try simp only [List.getElem_toArray]); (try simp only [List.getElem_cons_succ]); (try simp only [List.getElem_cons_zero]); (try simp only [List.setIfInBounds_toArray]); (try simp only [List.set_cons_succ]); (try simp only [List.set_cons_zero])
                refine wpAnyH_take (i := 8) (v := ?_) rfl (by kernel_rfl) (by kernel_rfl) (by kernel_rfl) (fun _ _ _ h => h) (Or.inl ⟨by kernel_rfl, ?_⟩) hHeld ?_
                rotate_left
                · intro w' hSw
                  (try dsimp only at hSw)
                  (try simp only [List.getElem_toArray]); (try simp only [List.getElem_cons_succ]); (try simp only [List.getElem_cons_zero])
                  go_simp
                  try with_reducible rfl
                (try simp only [Act.put]); (try simp only [List.getElem_toArray]); (try simp only [List.getElem_cons_succ]); (try simp only [List.getElem_cons_zero]); (try simp only [List.setIfInBounds_toArray]); (try simp only [List.set_cons_succ]); (try simp only [List.set_cons_zero])
                refine wpAnyH_take (i := 9) (v := ?_) rfl (by kernel_rfl) (by kernel_rfl) (by kernel_rfl) (fun _ _ _ h => h) (Or.inl ⟨by kernel_rfl, ?_⟩) hHeld ?_
                rotate_left
                · intro w' hSw
                  (try dsimp only at hSw)
                  (try simp only [List.getElem_toArray]); (try simp only [List.getElem_cons_succ]); (try simp only [List.getElem_cons_zero])
                  go_simp
                  try with_reducible rfl
                (try simp only [Act.put]); (try simp only [List.getElem_toArray]); (try simp only [List.getElem_cons_succ]); (try simp only [List.getElem_cons_zero]); (try simp only [List.setIfInBounds_toArray]); (try simp only [List.set_cons_succ]); (try simp only [List.set_cons_zero])
                refine wpAnyH_ready (rs := [10]) (by kernel_rfl) (by simp) ?_
                refine AllReadyH.cons rfl (fun K hK => ?_) AllReadyH.nil
                rw [if_pos (by kernel_rfl)]
                go_simp
                go_fit (HH3.out _ KK.out)
                rintro e w13 ⟨rfl, k13⟩
                have KN := Lib.hid (KK.out.trans k13)
                clear KK k13
                have KK := KN
                clear KN
                go_wp2_with fail
                refine hK.out _ _ ((HSS.out _ KK.out)) (fun hHeld => ?_)
                clear hK K
                (try simp only [Act.put]); (try simp only [List.getElem_toArray]); (try simp only [List.getElem_cons_succ]); (try simp only [List.getElem_cons_zero]); (try simp only [List.setIfInBounds_toArray]); (try simp only [List.set_cons_succ]); (try simp only [List.set_cons_zero])
                refine wpAnyH_take (i := 11) (v := ?_) rfl (by kernel_rfl) (by kernel_rfl) (by kernel_rfl) (fun _ _ _ h => h) (Or.inl ⟨by kernel_rfl, ?_⟩) hHeld ?_
                rotate_left
                · intro w' hSw
                  (try dsimp only at hSw)
                  (try simp only [List.getElem_toArray]); (try simp only [List.getElem_cons_succ]); (try simp only [List.getElem_cons_zero])
                  go_simp
                  try with_reducible rfl
                (try simp only [Act.put]); (try simp only [List.getElem_toArray]); (try simp only [List.getElem_cons_succ]); (try simp only [List.getElem_cons_zero]); (try simp only [List.setIfInBounds_toArray]); (try simp only [List.set_cons_succ]); (try simp only [List.set_cons_zero])
                refine wpAnyH_take (i := 12) (v := ?_) rfl (by kernel_rfl) (by kernel_rfl) (by kernel_rfl) (fun _ _ _ h => h) (Or.inl ⟨by kernel_rfl, ?_⟩) hHeld ?_
                rotate_left
                · intro w' hSw
                  (try dsimp only at hSw)
                  (try simp only [List.getElem_toArray]); (try simp only [List.getElem_cons_succ]); (try simp only [List.getElem_cons_zero])
                  go_simp
                  try with_reducible rfl
                (try simp only [Act.put]); (try simp only [List.getElem_toArray]); (try simp only [List.getElem_cons_succ]); (try simp only [List.getElem_cons_zero]); (try simp only [List.setIfInBounds_toArray]); (try simp only [List.set_cons_succ]); (try simp only [List.set_cons_zero])
                refine wpAnyH_take (i := 13) (v := ?_) rfl (by kernel_rfl) (by kernel_rfl) (by kernel_rfl) (fun _ _ _ h => h) (Or.inl ⟨by kernel_rfl, ?_⟩) hHeld ?_
                rotate_left
                · intro w' hSw
                  (try dsimp only at hSw)
                  (try simp only [List.getElem_toArray]); (try simp only [List.getElem_cons_succ]); (try simp only [List.getElem_cons_zero])
                  go_simp
                  try with_reducible rfl
                (try simp only [Act.put]); (try simp only [List.getElem_toArray]); (try simp only [List.getElem_cons_succ]); (try simp only [List.getElem_cons_zero]); (try simp only [List.setIfInBounds_toArray]); (try simp only [List.set_cons_succ]); (try simp only [List.set_cons_zero])
                refine wpAnyH_take (i := 14) (v := ?_) rfl (by kernel_rfl) (by kernel_rfl) (by kernel_rfl) (fun _ _ _ h => h) (Or.inl ⟨by kernel_rfl, ?_⟩) hHeld ?_
                rotate_left
                · intro w' hSw
                  (try dsimp only at hSw)
                  (try simp only [List.getElem_toArray]); (try simp only [List.getElem_cons_succ]); (try simp only [List.getElem_cons_zero])
                  go_simp
                  try with_reducible rfl
                (try simp only [Act.put]); (try simp only [List.getElem_toArray]); (try simp only [List.getElem_cons_succ]); (try simp only [List.getElem_cons_zero]); (try simp only [List.setIfInBounds_toArray]); (try simp only [List.set_cons_succ]); (try simp only [List.set_cons_zero])
                refine wpAnyH_take (i := 15) (v := ?_) rfl (by kernel_rfl) (by kernel_rfl) (by kernel_rfl) (fun _ _ _ h => h) (Or.inl ⟨by kernel_rfl, ?_⟩) hHeld ?_
                rotate_left
                · intro w' hSw
                  (try dsimp only at hSw)
                  (try simp only [List.getElem_toArray]); (try simp only [List.getElem_cons_succ]); (try simp only [List.getElem_cons_zero])
                  go_simp
                  try with_reducible rfl
                (try simp only [Act.put]); (try simp only [List.getElem_toArray]); (try simp only [List.getElem_cons_succ]); (try simp only [List.getElem_cons_zero]); (try simp only [List.setIfInBounds_toArray]); (try simp only [List.set_cons_succ]); (try simp only [List.set_cons_zero])
                refine wpAnyH_take (i := 16) (v := ?_) rfl (by kernel_rfl) (by kernel_rfl) (by kernel_rfl) (fun _ _ _ h => h) (Or.inl ⟨by kernel_rfl, ?_⟩) hHeld ?_
                rotate_left
                · intro w' hSw
                  (try dsimp only at hSw)
                  (try simp only [List.getElem_toArray]); (try simp only [List.getElem_cons_succ]); (try simp only [List.getElem_cons_zero])
                  go_simp
                  try with_reducible rfl
                (try simp only [Act.put]); (try simp only [List.getElem_toArray]); (try simp only [List.getElem_cons_succ]); (try simp only [List.getElem_cons_zero]); (try simp only [List.setIfInBounds_toArray]); (try simp only [List.set_cons_succ]); (try simp only [List.set_cons_zero])
                refine wpAnyH_take (i := 17) (v := ?_) rfl (by kernel_rfl) (by kernel_rfl) (by kernel_rfl) (fun _ _ _ h => h) (Or.inl ⟨by kernel_rfl, ?_⟩) hHeld ?_
                rotate_left
                · intro w' hSw
                  (try dsimp only at hSw)
                  (try simp only [List.getElem_toArray]); (try simp only [List.getElem_cons_succ]); (try simp only [List.getElem_cons_zero])
                  go_simp
                  try with_reducible rfl
                (try simp only [Act.put]); (try simp only [List.getElem_toArray]); (try simp only [List.getElem_cons_succ]); (try simp only [List.getElem_cons_zero]); (try simp only [List.setIfInBounds_toArray]); (try simp only [List.set_cons_succ]); (try simp only [List.set_cons_zero])
                refine wpAnyH_take (i := 18) (v := ?_) rfl (by kernel_rfl) (by kernel_rfl) (by kernel_rfl) (fun _ _ _ h => h) (Or.inl ⟨by kernel_rfl, ?_⟩) hHeld ?_
                rotate_left
                · intro w' hSw
                  (try dsimp only at hSw)
                  (try simp only [List.getElem_toArray]); (try simp only [List.getElem_cons_succ]); (try simp only [List.getElem_cons_zero])
                  go_simp
                  try with_reducible rfl
                (try simp only [Act.put]); (try simp only [List.getElem_toArray]); (try simp only [List.getElem_cons_succ]); (try simp only [List.getElem_cons_zero]); (try simp only [List.setIfInBounds_toArray]); (try simp only [List.set_cons_succ]); (try simp only [List.set_cons_zero])
                refine wpAnyH_take (i := 19) (v := ?_) rfl (by kernel_rfl) (by kernel_rfl) (by kernel_rfl) (fun _ _ _ h => h) (Or.inl ⟨by kernel_rfl, ?_⟩) hHeld ?_
                rotate_left
                · intro w' hSw
                  (try dsimp only at hSw)
                  (try simp only [List.getElem_toArray]); (try simp only [List.getElem_cons_succ]); (try simp only [List.getElem_cons_zero])
                  go_simp
                  try with_reducible rfl
                (try simp only [Act.put]); (try simp only [List.getElem_toArray]); (try simp only [List.getElem_cons_succ]); (try simp only [List.getElem_cons_zero]); (try simp only [List.setIfInBounds_toArray]); (try simp only [List.set_cons_succ]); (try simp only [List.set_cons_zero])
                refine wpAnyH_take (i := 20) (v := ?_) rfl (by kernel_rfl) (by kernel_rfl) (by kernel_rfl) (fun _ _ _ h => h) (Or.inl ⟨by kernel_rfl, ?_⟩) hHeld ?_
                rotate_left
                · intro w' hSw
                  (try dsimp only at hSw)
                  (try simp only [List.getElem_toArray]); (try simp only [List.getElem_cons_succ]); (try simp only [List.getElem_cons_zero])
                  go_simp
                  try with_reducible rfl
                (try simp only [Act.put]); (try simp only [List.getElem_toArray]); (try simp only [List.getElem_cons_succ]); (try simp only [List.getElem_cons_zero]); (try simp only [List.setIfInBounds_toArray]); (try simp only [List.set_cons_succ]); (try simp only [List.set_cons_zero])
                refine wpAnyH_take (i := 22) (v := ?_) rfl (by kernel_rfl) (by kernel_rfl) (by kernel_rfl) (fun _ _ _ h => h) (Or.inl ⟨by kernel_rfl, ?_⟩) hHeld ?_
                rotate_left
                · intro w' hSw
                  (try dsimp only at hSw)
                  (try simp only [List.getElem_toArray]); (try simp only [List.getElem_cons_succ]); (try simp only [List.getElem_cons_zero])
                  go_simp
                  try with_reducible rfl
                (try simp only [Act.put]); (try simp only [List.getElem_toArray]); (try simp only [List.getElem_cons_succ]); (try simp only [List.getElem_cons_zero]); (try simp only [List.setIfInBounds_toArray]); (try simp only [List.set_cons_succ]); (try simp only [List.set_cons_zero])
                refine wpAnyH_take (i := 23) (v := ?_) rfl (by kernel_rfl) (by kernel_rfl) (by kernel_rfl) (fun _ _ _ h => h) (Or.inl ⟨by kernel_rfl, ?_⟩) hHeld ?_
                rotate_left
                · intro w' hSw
                  (try dsimp only at hSw)
                  (try simp only [List.getElem_toArray]); (try simp only [List.getElem_cons_succ]); (try simp only [List.getElem_cons_zero])
                  go_simp
                  try with_reducible rfl
                (try simp only [Act.put]); (try simp only [List.getElem_toArray]); (try simp only [List.getElem_cons_succ]); (try simp only [List.getElem_cons_zero]); (try simp only [List.setIfInBounds_toArray]); (try simp only [List.set_cons_succ]); (try simp only [List.set_cons_zero])
                refine wpAnyH_ready (rs := [21]) (by kernel_rfl) (by simp) ?_
                refine AllReadyH.cons rfl (fun K hK => ?_) AllReadyH.nil
                rw [if_pos (by kernel_rfl)]
                go_simp
                go_fit (HH4.out _ KK.out)
                rintro e w13 ⟨rfl, k13⟩
                have KN := Lib.hid (KK.out.trans k13)
                clear KK k13
                have KK := KN
                clear KN
                go_wp2_with fail
                refine hK.out _ _ ((HSS.out _ KK.out)) (fun hHeld => ?_)
                clear hK K
                (try simp only [Act.put]); (try simp only [List.getElem_toArray]); (try simp only [List.getElem_cons_succ]); (try simp only [List.getElem_cons_zero]); (try simp only [List.setIfInBounds_toArray]); (try simp only [List.set_cons_succ]); (try simp only [List.set_cons_zero])
                refine wpAnyH_ready (rs := [24]) (by kernel_rfl) (by simp) ?_
                refine AllReadyH.cons rfl (fun K hK => ?_) AllReadyH.nil
                rw [if_pos (by kernel_rfl)]
                go_simp
                go_fit (HH5.out _ KK.out)
                rintro e w13 ⟨rfl, k13⟩
                have KN := Lib.hid (KK.out.trans k13)
                clear KK k13
                have KK := KN
                clear KN
                go_wp2_with fail
                refine hK.out _ _ ((HSS.out _ KK.out)) (fun hHeld => ?_)
                clear hK K
                (try simp only [Act.put]); (try simp only [List.getElem_toArray]); (try simp only [List.getElem_cons_succ]); (try simp only [List.getElem_cons_zero]); (try simp only [List.setIfInBounds_toArray]); (try simp only [List.set_cons_succ]); (try simp only [List.set_cons_zero])
                refine wpAnyH_take (i := 25) (v := ?_) rfl (by kernel_rfl) (by kernel_rfl) (by kernel_rfl) (fun _ _ _ h => h) (Or.inl ⟨by kernel_rfl, ?_⟩) hHeld ?_
                rotate_left
                · intro w' hSw
                  (try dsimp only at hSw)
                  (try simp only [List.getElem_toArray]); (try simp only [List.getElem_cons_succ]); (try simp only [List.getElem_cons_zero])
                  go_simp
                  try with_reducible rfl
                (try simp only [Act.put]); (try simp only [List.getElem_toArray]); (try simp only [List.getElem_cons_succ]); (try simp only [List.getElem_cons_zero]); (try simp only [List.setIfInBounds_toArray]); (try simp only [List.set_cons_succ]); (try simp only [List.set_cons_zero])
                refine wpAnyH_take (i := 26) (v := ?_) rfl (by kernel_rfl) (by kernel_rfl) (by kernel_rfl) (fun _ _ _ h => h) (Or.inl ⟨by kernel_rfl, ?_⟩) hHeld ?_
                rotate_left
                · intro w' hSw
                  (try dsimp only at hSw)
                  (try simp only [List.getElem_toArray]); (try simp only [List.getElem_cons_succ]); (try simp only [List.getElem_cons_zero])
                  go_simp
                  try with_reducible rfl
                (try simp only [Act.put]); (try simp only [List.getElem_toArray]); (try simp only [List.getElem_cons_succ]); (try simp only [List.getElem_cons_zero]); (try simp only [List.setIfInBounds_toArray]); (try simp only [List.set_cons_succ]); (try simp only [List.set_cons_zero])
                refine wpAnyH_take (i := 27) (v := ?_) rfl (by kernel_rfl) (by kernel_rfl) (by kernel_rfl) (fun _ _ _ h => h) (Or.inl ⟨by kernel_rfl, ?_⟩) hHeld ?_
                rotate_left
                · intro w' hSw
                  (try dsimp only at hSw)
                  (try simp only [List.getElem_toArray]); (try simp only [List.getElem_cons_succ]); (try simp only [List.getElem_cons_zero])
                  go_simp
                  try with_reducible rfl
                (try simp only [Act.put]); (try simp only [List.getElem_toArray]); (try simp only [List.getElem_cons_succ]); (try simp only [List.getElem_cons_zero]); (try simp only [List.setIfInBounds_toArray]); (try simp only [List.set_cons_succ]); (try simp only [List.set_cons_zero])
                refine wpAnyH_take (i := 28) (v := ?_) rfl (by kernel_rfl) (by kernel_rfl) (by kernel_rfl) (fun _ _ _ h => h) (Or.inl ⟨by kernel_rfl, ?_⟩) hHeld ?_
                rotate_left
                · intro w' hSw
                  (try dsimp only at hSw)
                  (try simp only [List.getElem_toArray]); (try simp only [List.getElem_cons_succ]); (try simp only [List.getElem_cons_zero])
                  go_simp
                  try with_reducible rfl
                (try simp only [Act.put]); (try simp only [List.getElem_toArray]); (try simp only [List.getElem_cons_succ]); (try simp only [List.getElem_cons_zero]); (try simp only [List.setIfInBounds_toArray]); (try simp only [List.set_cons_succ]); (try simp only [List.set_cons_zero])
                refine wpAnyH_take (i := 29) (v := ?_) rfl (by kernel_rfl) (by kernel_rfl) (by kernel_rfl) (fun _ _ _ h => h) (Or.inl ⟨by kernel_rfl, ?_⟩) hHeld ?_
                rotate_left
                · intro w' hSw
                  (try dsimp only at hSw)
                  (try simp only [List.getElem_toArray]); (try simp only [List.getElem_cons_succ]); (try simp only [List.getElem_cons_zero])
                  go_simp
                  try with_reducible rfl
                (try simp only [Act.put]); (try simp only [List.getElem_toArray]); (try simp only [List.getElem_cons_succ]); (try simp only [List.getElem_cons_zero]); (try simp only [List.setIfInBounds_toArray]); (try simp only [List.set_cons_succ]); (try simp only [List.set_cons_zero])
                refine wpAnyH_take (i := 31) (v := ?_) rfl (by kernel_rfl) (by kernel_rfl) (by kernel_rfl) (fun _ _ _ h => h) (Or.inl ⟨by kernel_rfl, ?_⟩) hHeld ?_
                rotate_left
                · intro w' hSw
                  (try dsimp only at hSw)
                  (try simp only [List.getElem_toArray]); (try simp only [List.getElem_cons_succ]); (try simp only [List.getElem_cons_zero])
                  go_simp
                  try with_reducible rfl
                (try simp only [Act.put]); (try simp only [List.getElem_toArray]); (try simp only [List.getElem_cons_succ]); (try simp only [List.getElem_cons_zero]); (try simp only [List.setIfInBounds_toArray]); (try simp only [List.set_cons_succ]); (try simp only [List.set_cons_zero])
                refine wpAnyH_take (i := 32) (v := ?_) rfl (by kernel_rfl) (by kernel_rfl) (by kernel_rfl) (fun _ _ _ h => h) (Or.inl ⟨by kernel_rfl, ?_⟩) hHeld ?_
                rotate_left
                · intro w' hSw
                  (try dsimp only at hSw)
                  (try simp only [List.getElem_toArray]); (try simp only [List.getElem_cons_succ]); (try simp only [List.getElem_cons_zero])
                  go_simp
                  try with_reducible rfl
                (try simp only [Act.put]); (try simp only [List.getElem_toArray]); (try simp only [List.getElem_cons_succ]); (try simp only [List.getElem_cons_zero]); (try simp only [List.setIfInBounds_toArray]); (try simp only [List.set_cons_succ]); (try simp only [List.set_cons_zero])
                refine wpAnyH_ready (rs := [30]) (by kernel_rfl) (by simp) ?_
                refine AllReadyH.cons rfl (fun K hK => ?_) AllReadyH.nil
                rw [if_pos (by kernel_rfl)]
                go_simp
                go_fit (HH6.out _ KK.out)
                rintro e w13 ⟨rfl, k13⟩
                have KN := Lib.hid (KK.out.trans k13)
                clear KK k13
                have KK := KN
                clear KN
                go_wp2_with fail
                refine hK.out _ _ ((HSS.out _ KK.out)) (fun hHeld => ?_)
                clear hK K
                (try simp only [Act.put]); (try simp only [List.getElem_toArray]); (try simp only [List.getElem_cons_succ]); (try simp only [List.getElem_cons_zero]); (try simp only [List.setIfInBounds_toArray]); (try simp only [List.set_cons_succ]); (try simp only [List.set_cons_zero])
                refine wpAnyH_ready (rs := [33]) (by kernel_rfl) (by simp) ?_
                refine AllReadyH.cons rfl (fun K hK => ?_) AllReadyH.nil
                rw [if_pos (by kernel_rfl)]
                go_simp
                go_fit (HH7.out _ KK.out)
                rintro e w13 ⟨rfl, k13⟩
                have KN := Lib.hid (KK.out.trans k13)
                clear KK k13
                have KK := KN
                clear KN
                go_wp2_with fail
                refine hK.out _ _ ((HSS.out _ KK.out)) (fun hHeld => ?_)
                clear hK K
                (try simp only [Act.put]); (try simp only [List.getElem_toArray]); (try simp only [List.getElem_cons_succ]); (try simp only [List.getElem_cons_zero]); (try simp only [List.setIfInBounds_toArray]); (try simp only [List.set_cons_succ]); (try simp only [List.set_cons_zero])
                refine wpAnyH_take (i := 34) (v := ?_) rfl (by kernel_rfl) (by kernel_rfl) (by kernel_rfl) (fun _ _ _ h => h) (Or.inl ⟨by kernel_rfl, ?_⟩) hHeld ?_
                rotate_left
                · intro w' hSw
                  (try dsimp only at hSw)
                  (try simp only [List.getElem_toArray]); (try simp only [List.getElem_cons_succ]); (try simp only [List.getElem_cons_zero])
                  go_simp
                  try with_reducible rfl
                (try simp only [Act.put]); (try simp only [List.getElem_toArray]); (try simp only [List.getElem_cons_succ]); (try simp only [List.getElem_cons_zero]); (try simp only [List.setIfInBounds_toArray]); (try simp only [List.set_cons_succ]); (try simp only [List.set_cons_zero])
                refine wpAnyH_take (i := 35) (v := ?_) rfl (by kernel_rfl) (by kernel_rfl) (by kernel_rfl) (fun _ _ _ h => h) (Or.inl ⟨by kernel_rfl, ?_⟩) hHeld ?_
                rotate_left
                · intro w' hSw
                  (try dsimp only at hSw)
                  (try simp only [List.getElem_toArray]); (try simp only [List.getElem_cons_succ]); (try simp only [List.getElem_cons_zero])
                  go_simp
                  try with_reducible rfl
                (try simp only [Act.put]); (try simp only [List.getElem_toArray]); (try simp only [List.getElem_cons_succ]); (try simp only [List.getElem_cons_zero]); (try simp only [List.setIfInBounds_toArray]); (try simp only [List.set_cons_succ]); (try simp only [List.set_cons_zero])
                refine wpAnyH_take (i := 36) (v := ?_) rfl (by kernel_rfl) (by kernel_rfl) (by kernel_rfl) (fun _ _ _ h => h) (Or.inl ⟨by kernel_rfl, ?_⟩) hHeld ?_
                rotate_left
                · intro w' hSw
                  (try dsimp only at hSw)
                  (try simp only [List.getElem_toArray]); (try simp only [List.getElem_cons_succ]); (try simp only [List.getElem_cons_zero])
                  go_simp
                  try with_reducible rfl
                (try simp only [Act.put]); (try simp only [List.getElem_toArray]); (try simp only [List.getElem_cons_succ]); (try simp only [List.getElem_cons_zero]); (try simp only [List.setIfInBounds_toArray]); (try simp only [List.set_cons_succ]); (try simp only [List.set_cons_zero])
                refine wpAnyH_take (i := 37) (v := ?_) rfl (by kernel_rfl) (by kernel_rfl) (by kernel_rfl) (fun _ _ _ h => h) (Or.inl ⟨by kernel_rfl, ?_⟩) hHeld ?_
                rotate_left
                · intro w' hSw
                  (try dsimp only at hSw)
                  (try simp only [List.getElem_toArray]); (try simp only [List.getElem_cons_succ]); (try simp only [List.getElem_cons_zero])
                  go_simp
                  try with_reducible rfl
                (try simp only [Act.put]); (try simp only [List.getElem_toArray]); (try simp only [List.getElem_cons_succ]); (try simp only [List.getElem_cons_zero]); (try simp only [List.setIfInBounds_toArray]); (try simp only [List.set_cons_succ]); (try simp only [List.set_cons_zero])
                refine wpAnyH_take (i := 38) (v := ?_) rfl (by kernel_rfl) (by kernel_rfl) (by kernel_rfl) (fun _ _ _ h => h) (Or.inl ⟨by kernel_rfl, ?_⟩) hHeld ?_
                rotate_left
                · intro w' hSw
                  (try dsimp only at hSw)
                  (try simp only [List.getElem_toArray]); (try simp only [List.getElem_cons_succ]); (try simp only [List.getElem_cons_zero])
                  go_simp
                  try with_reducible rfl
                (try simp only [Act.put]); (try simp only [List.getElem_toArray]); (try simp only [List.getElem_cons_succ]); (try simp only [List.getElem_cons_zero]); (try simp only [List.setIfInBounds_toArray]); (try simp only [List.set_cons_succ]); (try simp only [List.set_cons_zero])
                refine wpAnyH_take (i := 40) (v := ?_) rfl (by kernel_rfl) (by kernel_rfl) (by kernel_rfl) (fun _ _ _ h => h) (Or.inl ⟨by kernel_rfl, ?_⟩) hHeld ?_
                rotate_left
                · intro w' hSw
                  (try dsimp only at hSw)
                  (try simp only [List.getElem_toArray]); (try simp only [List.getElem_cons_succ]); (try simp only [List.getElem_cons_zero])
                  go_simp
                  try with_reducible rfl
                (try simp only [Act.put]); (try simp only [List.getElem_toArray]); (try simp only [List.getElem_cons_succ]); (try simp only [List.getElem_cons_zero]); (try simp only [List.setIfInBounds_toArray]); (try simp only [List.set_cons_succ]); (try simp only [List.set_cons_zero])
                refine wpAnyH_take (i := 41) (v := ?_) rfl (by kernel_rfl) (by kernel_rfl) (by kernel_rfl) (fun _ _ _ h => h) (Or.inl ⟨by kernel_rfl, ?_⟩) hHeld ?_
                rotate_left
                · intro w' hSw
                  (try dsimp only at hSw)
                  (try simp only [List.getElem_toArray]); (try simp only [List.getElem_cons_succ]); (try simp only [List.getElem_cons_zero])
                  go_simp
                  try with_reducible rfl
                (try simp only [Act.put]); (try simp only [List.getElem_toArray]); (try simp only [List.getElem_cons_succ]); (try simp only [List.getElem_cons_zero]); (try simp only [List.setIfInBounds_toArray]); (try simp only [List.set_cons_succ]); (try simp only [List.set_cons_zero])
                refine wpAnyH_ready (rs := [39]) (by kernel_rfl) (by simp) ?_
                refine AllReadyH.cons rfl (fun K hK => ?_) AllReadyH.nil
                rw [if_pos (by kernel_rfl)]
                go_simp
                go_fit (HH8.out _ KK.out)
                rintro e w13 ⟨rfl, k13⟩
                have KN := Lib.hid (KK.out.trans k13)
                clear KK k13
                have KK := KN
                clear KN
                go_wp2_with fail
                refine hK.out _ _ ((HSS.out _ KK.out)) (fun hHeld => ?_)
                clear hK K
                (try simp only [Act.put]); (try simp only [List.getElem_toArray]); (try simp only [List.getElem_cons_succ]); (try simp only [List.getElem_cons_zero]); (try simp only [List.setIfInBounds_toArray]); (try simp only [List.set_cons_succ]); (try simp only [List.set_cons_zero])
                refine wpAnyH_ready (rs := [42]) (by kernel_rfl) (by simp) ?_
                refine AllReadyH.cons rfl (fun K hK => ?_) AllReadyH.nil
                rw [if_pos (by kernel_rfl)]
                go_simp
                go_fit (HH9.out _ KK.out)
                rintro e w13 ⟨rfl, k13⟩
                have KN := Lib.hid (KK.out.trans k13)
                clear KK k13
                have KK := KN
                clear KN
                go_wp2_with fail
                refine hK.out _ _ ((HSS.out _ KK.out)) (fun hHeld => ?_)
                clear hK K
                (try simp only [Act.put]); (try simp only [List.getElem_toArray]); (try simp only [List.getElem_cons_succ]); (try simp only [List.getElem_cons_zero]); (try simp only [List.setIfInBounds_toArray]); (try simp only [List.set_cons_succ]); (try simp only [List.set_cons_zero])
                refine wpAnyH_take (i := 43) (v := ?_) rfl (by kernel_rfl) (by kernel_rfl) (by kernel_rfl) (fun _ _ _ h => h) (Or.inl ⟨by kernel_rfl, ?_⟩) hHeld ?_
                rotate_left
                · intro w' hSw
                  (try dsimp only at hSw)
                  (try simp only [List.getElem_toArray]); (try simp only [List.getElem_cons_succ]); (try simp only [List.getElem_cons_zero])
                  go_simp
                  try with_reducible rfl
                (try simp only [Act.put]); (try simp only [List.getElem_toArray]); (try simp only [List.getElem_cons_succ]); (try simp only [List.getElem_cons_zero]); (try simp only [List.setIfInBounds_toArray]); (try simp only [List.set_cons_succ]); (try simp only [List.set_cons_zero])
                refine wpAnyH_take (i := 44) (v := ?_) rfl (by kernel_rfl) (by kernel_rfl) (by kernel_rfl) (fun _ _ _ h => h) (Or.inl ⟨by kernel_rfl, ?_⟩) hHeld ?_
                rotate_left
                · intro w' hSw
                  (try dsimp only at hSw)
                  (try simp only [List.getElem_toArray]); (try simp only [List.getElem_cons_succ]); (try simp only [List.getElem_cons_zero])
                  go_simp
                  try with_reducible rfl
                (try simp only [Act.put]); (try simp only [List.getElem_toArray]); (try simp only [List.getElem_cons_succ]); (try simp only [List.getElem_cons_zero]); (try simp only [List.setIfInBounds_toArray]); (try simp only [List.set_cons_succ]); (try simp only [List.set_cons_zero])
                refine wpAnyH_take (i := 45) (v := ?_) rfl (by kernel_rfl) (by kernel_rfl) (by kernel_rfl) (fun _ _ _ h => h) (Or.inl ⟨by kernel_rfl, ?_⟩) hHeld ?_
                rotate_left
                · intro w' hSw
                  (try dsimp only at hSw)
                  (try simp only [List.getElem_toArray]); (try simp only [List.getElem_cons_succ]); (try simp only [List.getElem_cons_zero])
                  go_simp
                  try with_reducible rfl
                (try simp only [Act.put]); (try simp only [List.getElem_toArray]); (try simp only [List.getElem_cons_succ]); (try simp only [List.getElem_cons_zero]); (try simp only [List.setIfInBounds_toArray]); (try simp only [List.set_cons_succ]); (try simp only [List.set_cons_zero])
                refine wpAnyH_take (i := 46) (v := ?_) rfl (by kernel_rfl) (by kernel_rfl) (by kernel_rfl) (fun _ _ _ h => h) (Or.inl ⟨by kernel_rfl, ?_⟩) hHeld ?_
                rotate_left
                · intro w' hSw
                  (try dsimp only at hSw)
                  (try simp only [List.getElem_toArray]); (try simp only [List.getElem_cons_succ]); (try simp only [List.getElem_cons_zero])
                  go_simp
                  try with_reducible rfl
                (try simp only [Act.put]); (try simp only [List.getElem_toArray]); (try simp only [List.getElem_cons_succ]); (try simp only [List.getElem_cons_zero]); (try simp only [List.setIfInBounds_toArray]); (try simp only [List.set_cons_succ]); (try simp only [List.set_cons_zero])
                refine wpAnyH_take (i := 48) (v := ?_) rfl (by kernel_rfl) (by kernel_rfl) (by kernel_rfl) (fun _ _ _ h => h) (Or.inl ⟨by kernel_rfl, ?_⟩) hHeld ?_
                rotate_left
                · intro w' hSw
                  (try dsimp only at hSw)
                  (try simp only [List.getElem_toArray]); (try simp only [List.getElem_cons_succ]); (try simp only [List.getElem_cons_zero])
                  go_simp
                  try with_reducible rfl
                (try simp only [Act.put]); (try simp only [List.getElem_toArray]); (try simp only [List.getElem_cons_succ]); (try simp only [List.getElem_cons_zero]); (try simp only [List.setIfInBounds_toArray]); (try simp only [List.set_cons_succ]); (try simp only [List.set_cons_zero])
                refine wpAnyH_ready (rs := [47]) (by kernel_rfl) (by simp) ?_
                refine AllReadyH.cons rfl (fun K hK => ?_) AllReadyH.nil
                rw [if_pos (by kernel_rfl)]
                go_simp
                go_fit (HHA.out _ KK.out)
                rintro e w14 ⟨aT, cT, rfl, ownT, k14⟩
                have KN := Lib.hid (KK.out.trans k14)
                clear KK k14
                have KK := KN
                clear KN
                have OT := Lib.hid ownT
                clear ownT
                go_wp2_with fail
                refine hK.out _ _ ((HSS.out _ KK.out)) (fun hHeld => ?_)
                clear hK K
                (try simp only [Act.put]); (try simp only [List.getElem_toArray]); (try simp only [List.getElem_cons_succ]); (try simp only [List.getElem_cons_zero]); (try simp only [List.setIfInBounds_toArray]); (try simp only [List.set_cons_succ]); (try simp only [List.set_cons_zero])
                refine wpAnyH_ready (rs := [49]) (by kernel_rfl) (by simp) ?_
                refine AllReadyH.cons rfl (fun K hK => ?_) AllReadyH.nil
                rw [if_pos (by kernel_rfl)]
                go_simp
                go_fit (HHB.out _ KK.out)
                rintro e w15 ⟨aU, cU, rfl, ownU, k15⟩
                have KN := Lib.hid (KK.out.trans k15)
                have HPL := Lib.hid (pl_num w15 (L1.map (·.fTxn)) aT aU L1.length cT L1.length cU (nums_R (owned_keep OT.out k15 (fun _ _ h => h)) (by simp) HU.out (by unfold far; omega)) (nums_R ownU (by simp) HU.out (by unfold far; omega)))
                clear KK k15 ownU OT
                have KK := KN
                clear KN
                go_wp2_with fail
                refine hK.out _ _ ((HSS.out _ KK.out)) (fun hHeld => ?_)
                clear hK K
                (try simp only [Act.put]); (try simp only [List.getElem_toArray]); (try simp only [List.getElem_cons_succ]); (try simp only [List.getElem_cons_zero]); (try simp only [List.setIfInBounds_toArray]); (try simp only [List.set_cons_succ]); (try simp only [List.set_cons_zero])
                refine wpAnyH_ready (rs := [50]) (by kernel_rfl) (by simp) ?_
                refine AllReadyH.cons rfl (fun K hK => ?_) AllReadyH.nil
                rw [if_pos (by kernel_rfl)]
                go_simp
                go_fit HPL.out
                rintro e w16 ⟨rfl, k16⟩
                have KN := Lib.hid (KK.out.trans k16)
                clear KK k16 HPL
                have KK := KN
                clear KN
                go_wp2_with fail
                refine hK.out _ _ ((HSS.out _ KK.out)) (fun hHeld => ?_)
                clear hK K
                (try simp only [Act.put]); (try simp only [List.getElem_toArray]); (try simp only [List.getElem_cons_succ]); (try simp only [List.getElem_cons_zero]); (try simp only [List.setIfInBounds_toArray]); (try simp only [List.set_cons_succ]); (try simp only [List.set_cons_zero])
                refine wpAnyH_take (i := 51) (v := ?_) rfl (by kernel_rfl) (by kernel_rfl) (by kernel_rfl) (fun _ _ _ h => h) (Or.inl ⟨by kernel_rfl, ?_⟩) hHeld ?_
                rotate_left
                · intro w' hSw
                  (try dsimp only at hSw)
                  (try simp only [List.getElem_toArray]); (try simp only [List.getElem_cons_succ]); (try simp only [List.getElem_cons_zero])
                  go_simp
                  try with_reducible rfl
                (try simp only [Act.put]); (try simp only [List.getElem_toArray]); (try simp only [List.getElem_cons_succ]); (try simp only [List.getElem_cons_zero]); (try simp only [List.setIfInBounds_toArray]); (try simp only [List.set_cons_succ]); (try simp only [List.set_cons_zero])
                refine wpAnyH_take (i := 52) (v := ?_) rfl (by kernel_rfl) (by kernel_rfl) (by kernel_rfl) (fun _ _ _ h => h) (Or.inl ⟨by kernel_rfl, ?_⟩) hHeld ?_
                rotate_left
                · intro w' hSw
                  (try dsimp only at hSw)
                  (try simp only [List.getElem_toArray]); (try simp only [List.getElem_cons_succ]); (try simp only [List.getElem_cons_zero])
                  go_simp
                  try with_reducible rfl
                (try simp only [Act.put]); (try simp only [List.getElem_toArray]); (try simp only [List.getElem_cons_succ]); (try simp only [List.getElem_cons_zero]); (try simp only [List.setIfInBounds_toArray]); (try simp only [List.set_cons_succ]); (try simp only [List.set_cons_zero])
                refine wpAnyH_take (i := 53) (v := ?_) rfl (by kernel_rfl) (by kernel_rfl) (by kernel_rfl) (fun _ _ _ h => h) (Or.inl ⟨by kernel_rfl, ?_⟩) hHeld ?_
                rotate_left
                · intro w' hSw
                  (try dsimp only at hSw)
                  (try simp only [List.getElem_toArray]); (try simp only [List.getElem_cons_succ]); (try simp only [List.getElem_cons_zero])
                  go_simp
                  try with_reducible rfl
                (try simp only [Act.put]); (try simp only [List.getElem_toArray]); (try simp only [List.getElem_cons_succ]); (try simp only [List.getElem_cons_zero]); (try simp only [List.setIfInBounds_toArray]); (try simp only [List.set_cons_succ]); (try simp only [List.set_cons_zero])
                refine wpAnyH_take (i := 54) (v := ?_) rfl (by kernel_rfl) (by kernel_rfl) (by kernel_rfl) (fun _ _ _ h => h) (Or.inl ⟨by kernel_rfl, ?_⟩) hHeld ?_
                rotate_left
                · intro w' hSw
                  (try dsimp only at hSw)
                  (try simp only [List.getElem_toArray]); (try simp only [List.getElem_cons_succ]); (try simp only [List.getElem_cons_zero])
                  go_simp
                  try with_reducible rfl
                (try simp only [Act.put]); (try simp only [List.getElem_toArray]); (try simp only [List.getElem_cons_succ]); (try simp only [List.getElem_cons_zero]); (try simp only [List.setIfInBounds_toArray]); (try simp only [List.set_cons_succ]); (try simp only [List.set_cons_zero])
                refine wpAnyH_take (i := 55) (v := ?_) rfl (by kernel_rfl) (by kernel_rfl) (by kernel_rfl) (fun _ _ _ h => h) (Or.inl ⟨by kernel_rfl, ?_⟩) hHeld ?_
                rotate_left
                · intro w' hSw
                  (try dsimp only at hSw)
                  (try simp only [List.getElem_toArray]); (try simp only [List.getElem_cons_succ]); (try simp only [List.getElem_cons_zero])
                  go_simp
                  try with_reducible rfl
                (try simp only [Act.put]); (try simp only [List.getElem_toArray]); (try simp only [List.getElem_cons_succ]); (try simp only [List.getElem_cons_zero]); (try simp only [List.setIfInBounds_toArray]); (try simp only [List.set_cons_succ]); (try simp only [List.set_cons_zero])
                refine wpAnyH_take (i := 56) (v := ?_) rfl (by kernel_rfl) (by kernel_rfl) (by kernel_rfl) (fun _ _ _ h => h) (Or.inl ⟨by kernel_rfl, ?_⟩) hHeld ?_
                rotate_left
                · intro w' hSw
                  (try dsimp only at hSw)
                  (try simp only [List.getElem_toArray]); (try simp only [List.getElem_cons_succ]); (try simp only [List.getElem_cons_zero])
                  go_simp
                  try with_reducible rfl
                (try simp only [Act.put]); (try simp only [List.getElem_toArray]); (try simp only [List.getElem_cons_succ]); (try simp only [List.getElem_cons_zero]); (try simp only [List.setIfInBounds_toArray]); (try simp only [List.set_cons_succ]); (try simp only [List.set_cons_zero])
                refine wpAnyH_take (i := 57) (v := ?_) rfl (by kernel_rfl) (by kernel_rfl) (by kernel_rfl) (fun _ _ _ h => h) (Or.inl ⟨by kernel_rfl, ?_⟩) hHeld ?_
                rotate_left
                · intro w' hSw
                  (try dsimp only at hSw)
                  (try simp only [List.getElem_toArray]); (try simp only [List.getElem_cons_succ]); (try simp only [List.getElem_cons_zero])
                  go_simp
                  try with_reducible rfl
                (try simp only [Act.put]); (try simp only [List.getElem_toArray]); (try simp only [List.getElem_cons_succ]); (try simp only [List.getElem_cons_zero]); (try simp only [List.setIfInBounds_toArray]); (try simp only [List.set_cons_succ]); (try simp only [List.set_cons_zero])
                refine wpAnyH_take (i := 58) (v := ?_) rfl (by kernel_rfl) (by kernel_rfl) (by kernel_rfl) (fun _ _ _ h => h) (Or.inl ⟨by kernel_rfl, ?_⟩) hHeld ?_
                rotate_left
                · intro w' hSw
                  (try dsimp only at hSw)
                  (try simp only [List.getElem_toArray]); (try simp only [List.getElem_cons_succ]); (try simp only [List.getElem_cons_zero])
                  go_simp
                  try with_reducible rfl
                (try simp only [Act.put]); (try simp only [List.getElem_toArray]); (try simp only [List.getElem_cons_succ]); (try simp only [List.getElem_cons_zero]); (try simp only [List.setIfInBounds_toArray]); (try simp only [List.set_cons_succ]); (try simp only [List.set_cons_zero])
                refine wpAnyH_ready (rs := [59]) (by kernel_rfl) (by simp) ?_
                refine AllReadyH.cons rfl (fun K hK => ?_) AllReadyH.nil
                rw [if_pos (by kernel_rfl)]
                go_simp
                go_fit (HHS.out _ KK.out)
                rintro e w13 ⟨rfl, k13⟩
                have KN := Lib.hid (KK.out.trans k13)
                clear KK k13
                have KK := KN
                clear KN
                go_wp2_with fail
                refine hK.out _ _ ((HSS.out _ KK.out)) (fun hHeld => ?_)
                clear hK K
                (try simp only [Act.put]); (try simp only [List.getElem_toArray]); (try simp only [List.getElem_cons_succ]); (try simp only [List.getElem_cons_zero]); (try simp only [List.setIfInBounds_toArray]); (try simp only [List.set_cons_succ]); (try simp only [List.set_cons_zero])
                refine wpAnyH_take (i := 60) (v := ?_) rfl (by kernel_rfl) (by kernel_rfl) (by kernel_rfl) (fun _ _ _ h => h) (Or.inl ⟨by kernel_rfl, ?_⟩) hHeld ?_
                rotate_left
                · intro w' hSw
                  (try dsimp only at hSw)
                  (try simp only [List.getElem_toArray]); (try simp only [List.getElem_cons_succ]); (try simp only [List.getElem_cons_zero])
                  go_simp
                  try with_reducible rfl
                (try simp only [Act.put]); (try simp only [List.getElem_toArray]); (try simp only [List.getElem_cons_succ]); (try simp only [List.getElem_cons_zero]); (try simp only [List.setIfInBounds_toArray]); (try simp only [List.set_cons_succ]); (try simp only [List.set_cons_zero])
                refine wpAnyH_take (i := 61) (v := ?_) rfl (by kernel_rfl) (by kernel_rfl) (by kernel_rfl) (fun _ _ _ h => h) (Or.inl ⟨by kernel_rfl, ?_⟩) hHeld ?_
                rotate_left
                · intro w' hSw
                  (try dsimp only at hSw)
                  (try simp only [List.getElem_toArray]); (try simp only [List.getElem_cons_succ]); (try simp only [List.getElem_cons_zero])
                  go_simp
                  try with_reducible rfl
                (try simp only [Act.put]); (try simp only [List.getElem_toArray]); (try simp only [List.getElem_cons_succ]); (try simp only [List.getElem_cons_zero]); (try simp only [List.setIfInBounds_toArray]); (try simp only [List.set_cons_succ]); (try simp only [List.set_cons_zero])
                refine wpAnyH_done (by kernel_rfl) ?_ _
                clear hHeld HH1 HH2 HH3 HH4 HH5 HH6 HH7 HH8 HH9 HHA HHB HHS HSS HU R21c R23c HYc HZc
                have ST := Lib.hid (STc.out.nix KK.out)
                have OWB := Lib.hid (owned_keep OWA.out KK.out (fun _ _ h => h))
                have ELB := Lib.hid ((ELA.out.keep wGHeld_lawful KK.out (fun _ _ h => h)))
                have HOA : Hid (∀ i, OwnB (.slice aA L1.length cA) i → NewIn wb wq i) := fun i hi => by have := OWA.out.lt i hi; exact ⟨this.1, this.2⟩
                clear STc OWA ELA KK
                go_wp2_with fail
                generalize w13 = w5 at *
                go_loopw [214] (fun i wr => ∃ k2 : Nat, k2 ≤ L1.length ∧ i = .int .i64 (k2 : Int) ∧ Bent (NewIn wb wq) w5 wr) (fun i _ => L1.length - (intOf i).toNat)
                case atStart => exact ⟨0, Nat.zero_le _, rfl, Bent.refl _ _⟩
                case round =>
                  obtain ⟨k2, hk2, rfl, bent⟩ := hrel
                  have HB := Lib.hid bent
                  clear bent
                  by_cases hkt : k2 < L1.length
                  · have hq0 : (0 : Int) ≤ (k2 : Int) := by omega
                    have hq1 : (k2 : Int) < (L1.length : Int) := by omega
                    obtain ⟨bA, rest, rfl, -, rowA, -, -, -, -⟩ := own_row OWB.out (by omega)
                    have hkc : k2 < cssA.length := by rw [ELB.out.1]; exact hkt
                    have h4 : ∀ z ∈ cssA, z.length = 4 := fun z hz => by
                      obtain ⟨i, hi, rfl⟩ := List.mem_iff_getElem.1 hz
                      exact wGHeld_lawful.len (ELB.out.2 i cssA[i] (L1[i]'(by rw [← ELB.out.1]; exact hi)) (List.getElem?_eq_getElem hi) (List.getElem?_eq_getElem _))
                    have rz := ELB.out.2 k2 cssA[k2] L1[k2] (List.getElem?_eq_getElem hkc) (List.getElem?_eq_getElem hkt)
                    have hcz := List.getElem?_eq_getElem hkc
                    generalize cssA[k2] = cz at *
                    generalize L1[k2] = z at *
                    obtain ⟨eK', fK, eS', fS, eW', fW, rfl, hu, hKeys, -⟩ := rz
                    have y0 := row4 rowA h4 hcz (j := 0) rfl
                    have y1 := row4 rowA h4 hcz (j := 1) rfl
                    (try simp only [Nat.add_zero] at y0)
                    have Y0 := Lib.hid y0
                    have Y1 := Lib.hid y1
                    have HKE := Lib.hid hKeys
                    have hbp : Hid (NewIn wb wq bA) := HOA.out bA rfl
                    have HFR := Lib.hid (rowA.frozen (k2 * 4))
                    have hbl := rowA.lt
                    have y1 := HB.out.slice Y1.out
                    have hfar := (rList_len hKeys).2.2
                    unfold far at hfar
                    clear y0 rowA h4 hcz hKeys hkc
                    go_wp2_with fail
                    clear y1
                    go_loopw [223] (fun i wr => ∃ j : Nat, j ≤ z.fKeys.length ∧ i = .int .i64 (j : Int) ∧ Bent (NewIn wb wq) w5 wr) (fun i _ => z.fKeys.length - (intOf i).toNat)
                    case atStart => exact ⟨0, Nat.zero_le _, rfl, HB.out⟩
                    case round =>
                      obtain ⟨j, hj, rfl, bent⟩ := hrel
                      have HB2 := Lib.hid bent
                      clear bent
                      by_cases hjt : j < z.fKeys.length
                      · have hj0 : (0 : Int) ≤ (j : Int) := by omega
                        have hj1 : (j : Int) < (z.fKeys.length : Int) := by omega
                        obtain ⟨bq, oq, _, cq, e1, hpq, hbq, rB, hcq⟩ := rList_at rBytesW_lawful (by decide) HKE.out j hjt
                        simp only [List.cons.injEq, Value.slice.injEq, and_true] at e1
                        obtain ⟨rfl, -, -⟩ := e1
                        generalize z.fKeys[j] = q at *
                        obtain ⟨ax, cx, rfl, lw, -, fx⟩ := rB
                        have y2 := hcq 0 _ rfl
                        (try simp only [Nat.add_zero, Nat.mul_one] at y2)
                        have y2 := HB2.out.slice y2
                        have y1 := HB2.out.slice Y1.out
                        have hsp := spoilU_c (p := NewIn wb wq) ax q.length cx wr (((U8s.of lw).mono (fun i hi => hi.1)).bent HB2.out) (by unfold far at fx; unfold maxLen; omega)
                        have HSU := Lib.hid hsp
                        clear hcq lw hsp fx
                        go_wp2_with fail
                        clear y1 y2
                        go_fit HSU.out
                        rintro e w17 ⟨rfl, b17⟩
                        have HB3 := Lib.hid (HB2.out.trans b17)
                        clear HSU b17
                        go_wp2_with fail
                        go_roundw
                        case rel => exact ⟨j + 1, by omega, by go_num, HB3.out⟩
                        case measure => simp [intOf]; omega
                      · obtain rfl : j = z.fKeys.length := by omega
                        obtain ⟨m', hm'⟩ := HB2.out.num Y0.out
                        have hf := (HB2.out.frozen bA (k2 * 4) hbl).trans HFR.out
                        have HB3 := Lib.hid (HB2.out.set hbp.out hm' 77)
                        go_wp2_with fail
                        go_roundw
                        case rel => exact ⟨k2 + 1, by omega, by go_num, HB3.out⟩
                        case measure => simp [intOf]; omega
                  · obtain rfl : k2 = L1.length := by omega
                    have STF := Lib.hid (ST.out.bend HB.out.keep HPA.out)
                    go_wp2_with fail
                    go_roundw
                    case rel => exact ⟨k + 1, n1, O1, Q1, L1, aL1, cL1, css1, by go_num, by omega, by omega, STF.out⟩
                    case measure => simp [intOf]; omega
        · have hi2 : ¬ (k : Int) < 60 := by omega
          go_wp2_with fail
          go_ret
          exact ⟨rfl, ST.out.kk⟩
      · have hi1 : ¬ (k : Int) < (ops.length : Int) := by omega
        go_wp2_with fail
        go_ret
        exact ⟨rfl, ST.out.kk⟩
end
end lockPlays
end Go.Proofs.Ytfagejfcibgigaa
