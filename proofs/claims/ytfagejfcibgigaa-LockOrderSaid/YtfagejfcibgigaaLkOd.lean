/- LOCK: the law LockOrder. Printed by mac.py. -/
import Derived.Test.YtfagejfcibgigaaLkOd0
import Derived.Test.YtfagejfcibgigaaLkNil
import Derived.Test.YtfagejfcibgigaaMod
import Derived.Deep.DeepCutAuto
import Derived.Deep.CutBlock
namespace Go.Proofs.Ytfagejfcibgigaa
open Go.RowKit Go.Shelf

namespace lockOrder
attribute [local go_sem ↓] cv_up cv_down rm_uint
set_option maxRecDepth 100000 in
set_option maxHeartbeats 16000000 in
theorem order_walk (W : World) (a0 : Option Addr) (cap : Nat) (l : List GHeld) (tn : Int) (ask : GHeld) (csk : List Value) (hl : rList rGHeld W (· < W.heap.size) [.slice a0 l.length cap] l) (hk : rGHeld W (· < W.heap.size) csk ask) :
    Calls Try.prog 3 #[.slice a0 l.length cap, .int .i64 tn, .agg csk.toArray] W fun e w' => e = .returned (.bool true) ∧ Keep Nix W w' := by
  have hk2 := hk
  obtain ⟨aK, cK, aS, cS, aW, cW, rfl, hta, -⟩ := rGHeld_open hk
  have k0 : Keep Nix W (W.alloc (.cells #[.int .u64 ask.fTxn, .slice aK ask.fKeys.length cK, .slice aS ask.fSpans.length cS, .slice aW ask.fWrites.length cW] 28)) := (Keep.refl Nix W).alloc _
  have rowK0 : RowIs (W.alloc (.cells #[.int .u64 ask.fTxn, .slice aK ask.fKeys.length cK, .slice aS ask.fSpans.length cS, .slice aW ask.fWrites.length cW] 28)) W.heap.size 28 [.int .u64 ask.fTxn, .slice aK ask.fKeys.length cK, .slice aS ask.fSpans.length cS, .slice aW ask.fWrites.length cW] := RowIs.alloc W _ _
  have hS0 : Hid (((W.alloc (.cells #[.int .u64 ask.fTxn, .slice aK ask.fKeys.length cK, .slice aS ask.fSpans.length cS, .slice aW ask.fWrites.length cW] 28))).heap.size = W.heap.size + 1) := by show _ = _; simp
  have HFF : Hid (∀ w', Keep (fun x => ((W.alloc (.cells #[.int .u64 ask.fTxn, .slice aK ask.fKeys.length cK, .slice aS ask.fSpans.length cS, .slice aW ask.fWrites.length cW] 28))).heap.size ≤ x) (W.alloc (.cells #[.int .u64 ask.fTxn, .slice aK ask.fKeys.length cK, .slice aS ask.fSpans.length cS, .slice aW ask.fWrites.length cW] 28)) w' → rList rGHeld w' (· < W.heap.size) [.slice a0 l.length cap] l ∧ rGHeld w' (· < W.heap.size) [.int .u64 ask.fTxn, .slice aK ask.fKeys.length cK, .slice aS ask.fSpans.length cS, .slice aW ask.fWrites.length cW] ask ∧ RowIs w' W.heap.size 28 [.int .u64 ask.fTxn, .slice aK ask.fKeys.length cK, .slice aS ask.fSpans.length cS, .slice aW ask.fWrites.length cW]) := fun w' k => by
    have hz := hS0.out
    have hd : ∀ x, x < W.heap.size → ¬ ((W.alloc (.cells #[.int .u64 ask.fTxn, .slice aK ask.fKeys.length cK, .slice aS ask.fSpans.length cS, .slice aW ask.fWrites.length cW] 28))).heap.size ≤ x := fun x hx => by omega
    exact ⟨(rList_lawful rGHeld_lawful).keep ((rList_lawful rGHeld_lawful).nix hl k0) k hd, rGHeld_lawful.keep (rGHeld_lawful.nix hk2 k0) k hd, rowK0.keep k (by omega)⟩
  clear hk hk2 hl rowK0
  go_enter Try.func3, Try.ntmps3
  go_upto_region 1 with fail
  generalize (W.alloc (.cells #[.int .u64 ask.fTxn, .slice aK ask.fKeys.length cK, .slice aS ask.fSpans.length cS, .slice aW ask.fWrites.length cW] 28)) = w0 at *
  go_wp2_with fail
  go_fit (new_c w0)
  rintro e w1 ⟨ga, OA, rfl, TA, hOA, k1⟩
  go_wp2_with fail
  go_fit (new_c w1)
  rintro e w2 ⟨gb, OB, rfl, TB, hOB, k2⟩
  go_wp2_with fail
  go_fit (awake_c w2)
  rintro e w3 ⟨rfl, k3⟩
  have kz : Keep (fun x => w0.heap.size ≤ x) w0 w3 := ((k1.trans k2).trans k3).nix
  have HA0 : Hid (∀ x, OA x → w0.heap.size ≤ x ∧ x < w1.heap.size) := fun x hx => ⟨hOA x hx, TA.lt x hx⟩
  have HB0 : Hid (∀ x, OB x → w1.heap.size ≤ x ∧ x < w2.heap.size) := fun x hx => ⟨hOB x hx, TB.lt x hx⟩
  have hs1 := k1.size
  have hs2 := k2.size
  have hs3 := k3.size
  replace TA := (TA.nix k2).nix k3
  replace TB := TB.nix k3
  clear k1 k2 k3 hOA hOB
  by_cases h12 : (12 : Int) < (l.length : Int)
  · clear TA TB
    go_wp2_with fail
    go_fit (awake_c w3)
    rintro e wz ⟨rfl, k⟩
    go_wp2_with fail
    go_ret
    exact ⟨rfl, (k0.then (kz.trans k.nix) (fun i hi h => by have := k0.size; omega))⟩
  · have hl12 : l.length ≤ 12 := by omega
    obtain ⟨-, rk, rowK⟩ := HFF.out _ kz
    have y0 := rowK.cell 0
    (try simp only [List.getElem?_cons_zero] at y0)
    have y1 := rowK.cell 1
    (try simp only [List.getElem?_cons_succ] at y1); (try simp only [List.getElem?_cons_zero] at y1)
    have y2 := rowK.cell 2
    (try simp only [List.getElem?_cons_succ] at y2); (try simp only [List.getElem?_cons_zero] at y2)
    have y3 := rowK.cell 3
    (try simp only [List.getElem?_cons_succ] at y3); (try simp only [List.getElem?_cons_zero] at y3)
    clear rowK
    have HC := Lib.hid (small_c ask [.int .u64 ask.fTxn, .slice aK ask.fKeys.length cK, .slice aS ask.fSpans.length cS, .slice aW ask.fWrites.length cW] w3 rk)
    clear rk
    obtain ⟨sa, HSA⟩ : ∃ x, Hid (smallB ask = x) := ⟨_, rfl⟩
    rw [HSA.out] at HC
    go_wp2_with fail
    go_fit HC.out
    rintro e w4 ⟨rfl, k⟩
    replace kz := kz.trans k.nix
    replace TA := TA.nix k
    replace TB := TB.nix k
    have hs4 := k.size
    clear k HC
    clear y0 y1 y2 y3
    cases sa with
    | false =>
      clear TA TB
      go_wp2_with fail
      go_fit (awake_c w4)
      rintro e wz ⟨rfl, k⟩
      go_wp2_with fail
      go_ret
      exact ⟨rfl, (k0.then (kz.trans k.nix) (fun i hi h => by have := k0.size; omega))⟩
    | true =>
      go_wp2_with fail
      go_loopw [9, 10] (fun inn i wr => ∃ (k : Nat) (T I : List GHeld) (O : Nat → Prop) (a : Option Addr) (c : Nat) (css : List (List Value)), k ≤ l.length ∧ i = .int .i64 k ∧ inn = .slice a I.length c ∧ wr.ownsRow w4.heap.size 28 4 (.slice a I.length c) I.length css.flatten ∧ Els rGHeld wr (· < W.heap.size) css I ∧ IsTab wr O ga k T ∧ IsTab wr OB gb 0 [] ∧ Hid (In T I k) ∧
        Hid (∀ x, O x → (w0.heap.size ≤ x ∧ x < w1.heap.size) ∨ (w4.heap.size ≤ x ∧ ¬ OwnB (.slice a I.length c) x)) ∧ Keep (fun x => w0.heap.size ≤ x) w0 wr ∧ w4.heap.size ≤ wr.heap.size) (fun _ i _ => l.length - (intOf i).toNat)
      case atStart => exact ⟨0, [], [], OA, none, 0, [], by omega, rfl, rfl, World.ownsRow_nil _ _ _ _, Els.nil _ _ _, TA, TB, In.nil, fun x hx => .inl (HA0.out x hx), kz, Nat.le_refl _⟩
      case round =>
        clear TA TB kz
        obtain ⟨k, T, I, O, a, c, css, hk, rfl, rfl, own, els, TA, TB, HI, HO, kz, h4r⟩ := hrel
        have hIl := HI.out.len
        by_cases hlt : k < l.length
        · have hi0 : (0 : Int) ≤ (k : Int) := by omega
          have hi1 : (k : Int) < (l.length : Int) := by omega
          obtain ⟨ll, -, -⟩ := HFF.out _ kz
          obtain ⟨bb, o, _, cs, e1, hpb, hbb, rx, hcl⟩ := rList_at rGHeld_lawful (by decide) ll k hlt
          simp only [List.cons.injEq, Value.slice.injEq, and_true] at e1
          obtain ⟨rfl, -, -⟩ := e1
          generalize l[k] = x at *
          have rx2 := rx
          obtain ⟨bK, dK, bS, dS, bW, dW, rfl, -⟩ := rGHeld_open rx
          have x0 := hcl 0 _ rfl
          have x1 := hcl 1 _ rfl
          have x2 := hcl 2 _ rfl
          have x3 := hcl 3 _ rfl
          (try simp only [Nat.add_zero] at x0)
          have HX : Hid (∀ w', Keep (fun x => w0.heap.size ≤ x) wr w' → w'.cell? ⟨bb, o + k * 4, none⟩ = some (.int .u64 x.fTxn) ∧ w'.cell? ⟨bb, o + k * 4 + 1, none⟩ = some (.slice bK x.fKeys.length dK) ∧ w'.cell? ⟨bb, o + k * 4 + 2, none⟩ = some (.slice bS x.fSpans.length dS) ∧ w'.cell? ⟨bb, o + k * 4 + 3, none⟩ = some (.slice bW x.fWrites.length dW) ∧ rGHeld w' (· < W.heap.size) [.int .u64 x.fTxn, .slice bK x.fKeys.length dK, .slice bS x.fSpans.length dS, .slice bW x.fWrites.length dW] x) := fun w' k => by
            have hz := hS0.out
            have hpb : bb < W.heap.size := hpb
            have hnb : ¬ w0.heap.size ≤ bb := by omega
            exact ⟨(k.cell (p := ⟨bb, _, none⟩) hbb hnb).trans x0, (k.cell (p := ⟨bb, _, none⟩) hbb hnb).trans x1, (k.cell (p := ⟨bb, _, none⟩) hbb hnb).trans x2, (k.cell (p := ⟨bb, _, none⟩) hbb hnb).trans x3, rGHeld_lawful.keep rx2 k (fun b hb h => by have hb : b < W.heap.size := hb; omega)⟩
          have hlw : ∀ b, b < W.heap.size → b < wr.heap.size := fun b hb => by have := kz.size; have := hS0.out; omega
          have HC := Lib.hid (small_c x [.int .u64 x.fTxn, .slice bK x.fKeys.length dK, .slice bS x.fSpans.length dS, .slice bW x.fWrites.length dW] wr rx2)
          obtain ⟨sx, HSX⟩ : ∃ y, Hid (smallB x = y) := ⟨_, rfl⟩
          rw [HSX.out] at HC
          clear hcl rx rx2 ll
          go_wp2_with fail
          go_fit HC.out
          rintro e w5 ⟨rfl, kq⟩
          clear HC x0 x1 x2 x3
          replace own := owned_keep own kq (fun _ _ h => h)
          replace els := els.keep rGHeld_lawful kq (fun _ _ h => h)
          replace TA := TA.nix kq
          replace TB := TB.nix kq
          have kx : Keep (fun x => w0.heap.size ≤ x) wr w5 := kq.nix
          have hs5 := kq.size
          clear kq
          cases sx with
          | false =>
            go_wp2_with fail
            go_roundw
            case rel => exact ⟨k + 1, T, I, O, a, c, css, by omega, by go_num, rfl, own, els, TA.more (Nat.le_succ k), TB, HI.out.more, HO.out, kz.trans kx, by omega⟩
            case measure => simp [intOf]; omega
          | true =>
            obtain ⟨x0, x1, x2, x3, rx⟩ := HX.out w5 kx
            have hlw5 : ∀ b, b < W.heap.size → b < w5.heap.size := fun b hb => Nat.lt_of_lt_of_le (hlw b hb) hs5
            have HC := put_c O ga k T x [.int .u64 x.fTxn, .slice bK x.fKeys.length dK, .slice bS x.fSpans.length dS, .slice bW x.fWrites.length dW] w5 TA (by omega) rx (smallB_F HSX.out) hlw5
            unfold PutPost at HC
            obtain ⟨mm, HMM⟩ : ∃ y, Hid (mayF T x = y) := ⟨_, rfl⟩
            rw [HMM.out] at HC
            replace HC := Lib.hid HC
            clear TA rx
            go_wp2_with fail
            go_fit HC.out
            rintro e w6 ⟨rfl, O', TA, hO', hOO, kp⟩
            clear HC x0 x1 x2 x3
            have hdisO : ∀ y, OwnB (.slice a I.length c) y → ¬ O y := fun y hy ho => by
              rcases HO.out y ho with h | h
              · have := (own.lt y hy).1; omega
              · exact h.2 hy
            have hOBO : ∀ y, OB y → ¬ O y := fun y hy ho => by
              have h1 := HB0.out y hy
              rcases HO.out y ho with h | h <;> omega
            have hO0 : ∀ y, O y → w0.heap.size ≤ y := fun y ho => by
              rcases HO.out y ho with h | h <;> omega
            have hltw : ∀ y, OwnB (.slice a I.length c) y → w4.heap.size ≤ y ∧ y < w5.heap.size := fun y hy => own.lt y hy
            replace own := owned_keep own kp hdisO
            replace els := els.keep rGHeld_lawful kp (fun b hb ho => by have := hO0 b ho; have := hS0.out; have hb : b < W.heap.size := hb; omega)
            replace TB := TB.keep kp hOBO
            replace kx := kx.trans (kp.mono hO0)
            have hs6 := kp.size
            have HO6 : Hid (∀ y, O' y → (w0.heap.size ≤ y ∧ y < w1.heap.size) ∨ (w4.heap.size ≤ y ∧ ¬ OwnB (.slice a I.length c) y)) := fun y hy => by
              rcases hO' y hy with h | h
              · exact HO.out y h
              · exact .inr ⟨by omega, fun ho => by have := hltw y ho; omega⟩
            clear kp hO' hOO hdisO hOBO hO0
            by_cases m0 : mm = 0
            · have hq : (mm == 0) = true := by simp [m0]
              have hm0 : Hid (mayF T x = 0) := by show _ = _; rw [HMM.out, m0]
              have haf : afterPut T x = putT T x := by unfold afterPut; rw [if_pos hm0.out]
              rw [haf] at TA
              have hI2 := Lib.hid (HI.out.snoc (smallB_F HSX.out) hm0.out)
              obtain ⟨x0, x1, x2, x3, rx⟩ := HX.out w6 kx
              clear m0 haf
              go_wp2_with (at_builtin; refine wpl_append1_at (c := 1) T_lHeld ?hgd (.tmp 58) (.tmp 63) ?ho w4.heap.size ?hs own ?hx ?c0 ?c1 ?c2 ?c3 ?c4 ?_)
              case hgd => rfl
              case ho => rfl
              case hs => rfl
              case hx => rfl
              case c0 => rfl
              case c1 => simp [Value.oneCell']
              case c2 => unfold maxLen; omega
              case c3 => omega
              case c4 => omega
              intro a' cap' w7 own7 k7 hfresh
              have hge : ∀ y, OwnB (.slice a I.length c) y → w4.heap.size ≤ y := fun y hy => (hltw y hy).1
              have els7 : Els rGHeld w7 (· < W.heap.size) (css ++ [[.int .u64 x.fTxn, .slice bK x.fKeys.length dK, .slice bS x.fSpans.length dS, .slice bW x.fWrites.length dW]]) (I ++ [x]) := Els.snoc (els.keep rGHeld_lawful k7 (fun b hb ho => by have := hge b ho; have := hS0.out; have hb : b < W.heap.size := hb; omega)) (rGHeld_lawful.keep rx k7 (fun b hb ho => by have := hge b ho; have := hS0.out; have hb : b < W.heap.size := hb; omega))
              have TA7 := TA.keep k7 (fun y hy ho => by
                rcases HO6.out y hy with h | h
                · have := hge y ho; omega
                · exact h.2 ho)
              have TB7 := TB.keep k7 (fun y hy ho => by have := HB0.out y hy; have := hge y ho; omega)
              have hTl := TA.lt
              have HO7 : Hid (∀ y, O' y → (w0.heap.size ≤ y ∧ y < w1.heap.size) ∨ (w4.heap.size ≤ y ∧ ¬ OwnB (.slice a' (I.length + 1) cap') y)) := fun y hy => by
                rcases HO6.out y hy with h | h
                · exact .inl h
                · refine .inr ⟨h.1, fun ho => ?_⟩
                  rcases hfresh y ho with h2 | h2
                  · exact h.2 h2
                  · have := hTl y hy; omega
              have kx7 := kx.then k7 (fun y hy ho => by have := hge y ho; omega)
              have hs7 := k7.size
              have hil : (I ++ [x]).length = I.length + 1 := by simp
              have HE7 := Lib.hid els7
              have HW7 := Lib.hid own7
              have HT7 := Lib.hid TA7
              have HU7 := Lib.hid TB7
              clear els7 own7 TA7 TB7 k7 hfresh hTl own els TA TB x0 x1 x2 x3 rx kx
              go_wp2_with fail
              go_roundw
              case rel => exact ⟨k + 1, putT T x, I ++ [x], O', a', cap', css ++ [[.int .u64 x.fTxn, .slice bK x.fKeys.length dK, .slice bS x.fSpans.length dS, .slice bW x.fWrites.length dW]], by omega, by go_num, by rw [hil], by rw [hil]; simpa using HW7.out, HE7.out, HT7.out, HU7.out, hI2.out, by rw [hil]; exact HO7.out, kz.trans kx7, by omega⟩
              case measure => simp [intOf]; omega
            · have hq : (mm == 0) = false := by simp [m0]
              have haf : afterPut T x = T := by unfold afterPut; rw [if_neg (by rw [HMM.out]; exact m0)]
              rw [haf] at TA
              clear m0 haf
              go_wp2_with fail
              go_roundw
              case rel => exact ⟨k + 1, T, I, O', a, c, css, by omega, by go_num, rfl, own, els, TA, TB, HI.out.more, HO6.out, kz.trans kx, by omega⟩
              case measure => simp [intOf]; omega
        · obtain rfl : k = l.length := by omega
          have hk0 : I.length ≤ 12 ∧ T.length ≤ 12 := by omega
          have HOW := Lib.hid own
          have HEL := Lib.hid els
          clear hlt hk own els hIl
          obtain ⟨wl, hwl⟩ : ∃ wl, wl = wr := ⟨_, rfl⟩
          rw [← hwl] at HOW HEL TA TB kz h4r ⊢
          clear hwl
          have hIm : I.length ≤ maxLen := by unfold maxLen; omega
          have hOwn0 : Hid (∀ y, OwnB (.slice a I.length c) y → w4.heap.size ≤ y ∧ y < wl.heap.size) := fun y hy => HOW.out.lt y hy
          obtain ⟨t, cq, HRF⟩ : ∃ t cq : Nat, Hid (0 < I.length → t < I.length ∧ (∀ w, (cvSem 3 35 (.int .i64 tn)).run Try.prog w = .ok (.value (.int .u64 (cq : Int))) w) ∧
              (∀ w, (cvSem 3 35 (.int .i64 (I.length : Int))).run Try.prog w = .ok (.value (.int .u64 (I.length : Int))) w) ∧ (∀ x y w, (rmSem 35 x y (.int .u64 (cq : Int)) (.int .u64 (I.length : Int))).run Try.prog w = .ok (.value (.int .u64 (t : Int))) w) ∧
              (∀ w, (cvSem 35 3 (.int .u64 (t : Int))).run Try.prog w = .ok (.value (.int .i64 (t : Int))) w)) := by
            rcases Nat.eq_zero_or_pos I.length with hz | hz
            · exact ⟨0, 0, fun h => by omega⟩
            · obtain ⟨c', m', hm, f1, f2, f3, f4⟩ := round_facts tn I.length hz hIm
              exact ⟨m', c', fun _ => ⟨hm, f1, f2, f3, f4⟩⟩
          have hlI : rList rGHeld wl (fun b => b < W.heap.size ∨ OwnB (.slice a I.length c) b) [.slice a I.length c] I :=
            ⟨a, c, css, rfl, HEL.out.1, (Lies.of_owned HOW.out).mono (fun b hb => .inr hb.2), (owned_bounds HOW.out).2.1, by unfold far; omega, fun i d y hd hy => rGHeld_lawful.mono (HEL.out.2 i d y hd hy) (fun b hb => .inl hb)⟩
          have HIN : Hid (∀ w', Keep (fun y => (w1.heap.size ≤ y ∧ y < w2.heap.size) ∨ wl.heap.size ≤ y) wl w' → rList rGHeld w' (fun b => b < W.heap.size ∨ OwnB (.slice a I.length c) b) [.slice a I.length c] I ∧ IsTab w' O ga l.length T ∧ Keep (fun x => w0.heap.size ≤ x) w0 w') := fun w' k => by
            refine ⟨(rList_lawful rGHeld_lawful).keep hlI k (fun b hb h => ?_), TA.keep k (fun b hb h => ?_), kz.trans (k.mono (fun b hb => by rcases hb with h | h <;> omega))⟩
            · have := hS0.out
              rcases hb with hb | hb
              · rcases h with h | h <;> omega
              · have := hOwn0.out b hb
                rcases h with h | h <;> omega
            · have := TA.lt b hb
              rcases HO.out b hb with h2 | h2
              · rcases h with h | h <;> omega
              · rcases h with h | h <;> omega
          have okT := TA.ok
          have HOl : Hid (∀ y, O y → ((w0.heap.size ≤ y ∧ y < w1.heap.size) ∨ w4.heap.size ≤ y) ∧ y < wl.heap.size) := fun y hy => ⟨(HO.out y hy).imp id (·.1), TA.lt y hy⟩
          clear hlI TA HOW HEL
          go_wp2_with fail
          go_loopw [11] (fun u wr => ∃ (i : Nat) (B : List GHeld) (O2 : Nat → Prop), i ≤ I.length ∧ u = .int .i64 i ∧ IsTab wr O2 gb i B ∧ Hid (Turn I B t i) ∧ Hid (∀ y, O2 y → (w1.heap.size ≤ y ∧ y < w2.heap.size) ∨ wl.heap.size ≤ y) ∧ Keep (fun y => (w1.heap.size ≤ y ∧ y < w2.heap.size) ∨ wl.heap.size ≤ y) wl wr) (fun u _ => I.length - (intOf u).toNat)
          case atStart => exact ⟨0, [], OB, by omega, rfl, TB, turn_nil I t, fun y hy => .inl (HB0.out y hy), Keep.refl _ _⟩
          case round =>
            clear TB
            obtain ⟨i, B, O2, hi, rfl, TB, HT, HO2, kb⟩ := hrel
            by_cases hlt : i < I.length
            · have hi0 : (0 : Int) ≤ (i : Int) := by omega
              have hi1 : (i : Int) < (I.length : Int) := by omega
              have hz : 0 < I.length := by omega
              obtain ⟨ht, f1, f2, f3, f4⟩ := HRF.out hz
              obtain ⟨q, HQE⟩ : ∃ q, Hid ((i + t) % I.length = q) := ⟨_, rfl⟩
              have hql : q < I.length := by rw [← HQE.out]; exact Nat.mod_lt _ hz
              have HQ : ((i : Int) + (t : Int)) % (I.length : Int) = (q : Int) := by rw [← HQE.out]; simp
              have hq0 : (0 : Int) ≤ (q : Int) := by omega
              have hq1 : (q : Int) < (I.length : Int) := by omega
              have hti : (t : Int) < (I.length : Int) := by omega
              obtain ⟨lI, -, -⟩ := HIN.out _ kb
              obtain ⟨bb, o, _, cs, e1, hpb, hbb, rx, hcl⟩ := rList_at rGHeld_lawful (by decide) lI q hql
              simp only [List.cons.injEq, Value.slice.injEq, and_true] at e1
              obtain ⟨rfl, -, -⟩ := e1
              have hqq : (i + t) % I.length < I.length := Nat.mod_lt _ hz
              have hmay := turn_may HI.out HT.out hlt ht hqq
              have hstep := turn_step HI.out HT.out hlt ht hqq
              have hsm := HI.out.sm _ (List.getElem_mem hql)
              have hxe : I[(i + t) % I.length] = I[q] := by simp only [HQE.out]
              rw [hxe] at hmay hstep
              generalize I[q] = x at *
              have rx2 := rx
              obtain ⟨bK, dK, bS, dS, bW, dW, rfl, -⟩ := rGHeld_open rx
              have x0 := hcl 0 _ rfl
              have x1 := hcl 1 _ rfl
              have x2 := hcl 2 _ rfl
              have x3 := hcl 3 _ rfl
              (try simp only [Nat.add_zero] at x0)
              have hwl : wl.heap.size ≤ wr.heap.size := kb.size
              have hw0 : W.heap.size ≤ wl.heap.size := by have := kz.size; have := hS0.out; omega
              have HC := put_c O2 gb i B x [.int .u64 x.fTxn, .slice bK x.fKeys.length dK, .slice bS x.fSpans.length dS, .slice bW x.fWrites.length dW] wr TB (by omega) rx2 hsm (fun b hb => by
                rcases hb with h | h
                · have h : b < W.heap.size := h
                  omega
                · have := hOwn0.out b h; omega)
              unfold PutPost afterPut at HC
              rw [hmay, if_pos rfl] at HC
              replace HC := Lib.hid HC
              have HST := Lib.hid hstep
              clear hcl rx rx2 lI TB hmay hstep hxe hqq
              go_wp2_with fail
              go_fit HC.out
              rintro e w6 ⟨rfl, O', TB, hO', -, kp⟩
              clear HC x0 x1 x2 x3 f1 f2 f3 f4
              have hO6 : Hid (∀ y, O' y → (w1.heap.size ≤ y ∧ y < w2.heap.size) ∨ wl.heap.size ≤ y) := fun y hy => by
                rcases hO' y hy with h | h
                · exact HO2.out y h
                · exact .inr (by omega)
              have kb6 := kb.trans (kp.mono (fun y hy => HO2.out y hy))
              clear kp hO'
              go_wp2_with fail
              go_roundw
              case rel => exact ⟨i + 1, putT B x, O', by omega, by go_num, TB, HST.out, hO6.out, kb6⟩
              case measure => simp [intOf]; omega
            · obtain rfl : i = I.length := by omega
              have hBT : B = T := turn_done' HI.out okT TB.ok HT.out (fun h => (HRF.out h).1)
              subst hBT
              obtain ⟨-, TA, ks⟩ := HIN.out _ kb
              have hw0r : wl.heap.size ≤ wr.heap.size := kb.size
              have hnI : I.length ≤ 12 := hk0.1
              clear HIN HRF HI HT hi hlt okT kb kz
              have HSS : Hid (∀ w', Keep (fun x => w0.heap.size ≤ x) w0 w' → w'.cell? ⟨W.heap.size, 0, none⟩ = some (.int .u64 ask.fTxn) ∧ w'.cell? ⟨W.heap.size, 1, none⟩ = some (.slice aK ask.fKeys.length cK) ∧ w'.cell? ⟨W.heap.size, 2, none⟩ = some (.slice aS ask.fSpans.length cS) ∧ w'.cell? ⟨W.heap.size, 3, none⟩ = some (.slice aW ask.fWrites.length cW)) := fun w' k => by
                obtain ⟨-, -, rK⟩ := HFF.out w' k
                exact ⟨by simpa using rK.cell 0, by simpa using rK.cell 1, by simpa using rK.cell 2, by simpa using rK.cell 3⟩
              go_upto_region 15 with fail
              have kd : Keep Nix wr wr.drew := (Keep.refl Nix wr).drew
              replace TA := TA.nix kd
              replace TB := TB.nix kd
              replace ks := ks.trans kd.nix
              have hsd : wr.heap.size ≤ wr.drew.heap.size := kd.size
              refine wp_region_held_drew (S := (fun w' => w'.cell? ⟨W.heap.size, 0, none⟩ = some (.int .u64 ask.fTxn) ∧ w'.cell? ⟨W.heap.size, 1, none⟩ = some (.slice aK ask.fKeys.length cK) ∧ w'.cell? ⟨W.heap.size, 2, none⟩ = some (.slice aS ask.fSpans.length cS) ∧ w'.cell? ⟨W.heap.size, 3, none⟩ = some (.slice aW ask.fWrites.length cW))) (by kernel_rfl) (HSS.out _ ks) (fun hHeld => ?_)
              clear kd
              generalize wr.drew = v0 at *
              refine wpAnyH_take (i := 0) (v := ?_) rfl (by kernel_rfl) (by kernel_rfl) (by kernel_rfl) (fun _ _ _ h => h) (Or.inl ⟨by kernel_rfl, ?_⟩) hHeld ?_
              rotate_left
              · intro w' hSw
                (try dsimp only at hSw)
                (try simp only [List.getElem_toArray]); (try simp only [List.getElem_cons_succ]); (try simp only [List.getElem_cons_zero])
                go_simp
                try with_reducible rfl
              (try simp only [Act.put]); (try simp only [List.getElem_toArray]); (try simp only [List.getElem_cons_succ]); (try simp only [List.getElem_cons_zero]); (try simp only [List.setIfInBounds_toArray]); (try simp only [List.set_cons_succ]); (try simp only [List.set_cons_zero])
              refine wpAnyH_take (i := 1) (v := ?_) rfl (by kernel_rfl) (by kernel_rfl) (by kernel_rfl) (fun _ _ _ h => h) (Or.inl ⟨by kernel_rfl, ?_⟩) hHeld ?_
              rotate_left
              · intro w' hSw
                (try dsimp only at hSw)
                (try simp only [List.getElem_toArray]); (try simp only [List.getElem_cons_succ]); (try simp only [List.getElem_cons_zero])
                go_simp
                try with_reducible rfl
              (try simp only [Act.put]); (try simp only [List.getElem_toArray]); (try simp only [List.getElem_cons_succ]); (try simp only [List.getElem_cons_zero]); (try simp only [List.setIfInBounds_toArray]); (try simp only [List.set_cons_succ]); (try simp only [List.set_cons_zero])
              refine wpAnyH_take (i := 3) (v := ?_) rfl (by kernel_rfl) (by kernel_rfl) (by kernel_rfl) (fun _ _ _ h => h) (Or.inl ⟨by kernel_rfl, ?_⟩) hHeld ?_
              rotate_left
              · intro w' hSw
                (try dsimp only at hSw)
                (try simp only [List.getElem_toArray]); (try simp only [List.getElem_cons_succ]); (try simp only [List.getElem_cons_zero])
                go_simp
                try with_reducible rfl
              (try simp only [Act.put]); (try simp only [List.getElem_toArray]); (try simp only [List.getElem_cons_succ]); (try simp only [List.getElem_cons_zero]); (try simp only [List.setIfInBounds_toArray]); (try simp only [List.set_cons_succ]); (try simp only [List.set_cons_zero])
              refine wpAnyH_take (i := 4) (v := ?_) rfl (by kernel_rfl) (by kernel_rfl) (by kernel_rfl) (fun _ _ _ h => h) (Or.inl ⟨by kernel_rfl, ?_⟩) hHeld ?_
              rotate_left
              · intro w' hSw
                (try dsimp only at hSw)
                (try simp only [List.getElem_toArray]); (try simp only [List.getElem_cons_succ]); (try simp only [List.getElem_cons_zero])
                go_simp
                try with_reducible rfl
              (try simp only [Act.put]); (try simp only [List.getElem_toArray]); (try simp only [List.getElem_cons_succ]); (try simp only [List.getElem_cons_zero]); (try simp only [List.setIfInBounds_toArray]); (try simp only [List.set_cons_succ]); (try simp only [List.set_cons_zero])
              obtain ⟨mm, HMM⟩ : ∃ y, Hid (mayF B ask = y) := ⟨_, rfl⟩
              obtain ⟨-, rk, -⟩ := HFF.out _ ks
              have HC := may_c O ga l.length B ask [.int .u64 ask.fTxn, .slice aK ask.fKeys.length cK, .slice aS ask.fSpans.length cS, .slice aW ask.fWrites.length cW] v0 TA rk (fun b hb => by have := ks.size; have := hS0.out; have hb : b < W.heap.size := hb; omega)
              rw [HMM.out] at HC
              replace HC := Lib.hid HC
              clear rk
              refine wpAnyH_ready (rs := [2]) (by kernel_rfl) (by simp) ?_
              refine AllReadyH.cons rfl (fun K hK => ?_) AllReadyH.nil
              go_simp
              go_fit HC.out
              rintro e v1 ⟨rfl, k⟩
              clear HC
              go_wp2_with fail
              replace TA := TA.nix k
              replace TB := TB.nix k
              replace ks := ks.trans k.nix
              have hv1 := k.size
              clear k
              refine hK.out _ _ ((HSS.out _ ks)) (fun hHeld => ?_)
              clear hK K
              (try simp only [Act.put]); (try simp only [List.getElem_toArray]); (try simp only [List.getElem_cons_succ]); (try simp only [List.getElem_cons_zero]); (try simp only [List.setIfInBounds_toArray]); (try simp only [List.set_cons_succ]); (try simp only [List.set_cons_zero])
              obtain ⟨-, rk, -⟩ := HFF.out _ ks
              have HC := may_c O2 gb I.length B ask [.int .u64 ask.fTxn, .slice aK ask.fKeys.length cK, .slice aS ask.fSpans.length cS, .slice aW ask.fWrites.length cW] v1 TB rk (fun b hb => by have := ks.size; have := hS0.out; have hb : b < W.heap.size := hb; omega)
              rw [HMM.out] at HC
              replace HC := Lib.hid HC
              clear rk
              refine wpAnyH_ready (rs := [5]) (by kernel_rfl) (by simp) ?_
              refine AllReadyH.cons rfl (fun K hK => ?_) AllReadyH.nil
              go_simp
              go_fit HC.out
              rintro e v2 ⟨rfl, k⟩
              clear HC
              go_wp2_with fail
              replace TA := TA.nix k
              replace TB := TB.nix k
              replace ks := ks.trans k.nix
              have hv2 := k.size
              clear k
              refine hK.out _ _ ((HSS.out _ ks)) (fun hHeld => ?_)
              clear hK K
              (try simp only [Act.put]); (try simp only [List.getElem_toArray]); (try simp only [List.getElem_cons_succ]); (try simp only [List.getElem_cons_zero]); (try simp only [List.setIfInBounds_toArray]); (try simp only [List.set_cons_succ]); (try simp only [List.set_cons_zero])
              refine wpAnyH_take (i := 6) (v := ?_) rfl (by kernel_rfl) (by kernel_rfl) (by kernel_rfl) (fun _ _ _ h => h) (Or.inl ⟨by kernel_rfl, ?_⟩) hHeld ?_
              rotate_left
              · intro w' hSw
                (try dsimp only at hSw)
                (try simp only [List.getElem_toArray]); (try simp only [List.getElem_cons_succ]); (try simp only [List.getElem_cons_zero])
                go_simp
                try with_reducible rfl
              (try simp only [Act.put]); (try simp only [List.getElem_toArray]); (try simp only [List.getElem_cons_succ]); (try simp only [List.getElem_cons_zero]); (try simp only [List.setIfInBounds_toArray]); (try simp only [List.set_cons_succ]); (try simp only [List.set_cons_zero])
              refine wpAnyH_take (i := 7) (v := ?_) rfl (by kernel_rfl) (by kernel_rfl) (by kernel_rfl) (fun _ _ _ h => h) (Or.inl ⟨by kernel_rfl, ?_⟩) hHeld ?_
              rotate_left
              · intro w' hSw
                (try dsimp only at hSw)
                (try simp only [List.getElem_toArray]); (try simp only [List.getElem_cons_succ]); (try simp only [List.getElem_cons_zero])
                go_simp
                try with_reducible rfl
              (try simp only [Act.put]); (try simp only [List.getElem_toArray]); (try simp only [List.getElem_cons_succ]); (try simp only [List.getElem_cons_zero]); (try simp only [List.setIfInBounds_toArray]); (try simp only [List.set_cons_succ]); (try simp only [List.set_cons_zero])
              refine wpAnyH_take (i := 8) (v := ?_) rfl (by kernel_rfl) (by kernel_rfl) (by kernel_rfl) (fun _ _ _ h => h) (Or.inl ⟨by kernel_rfl, ?_⟩) hHeld ?_
              rotate_left
              · intro w' hSw
                (try dsimp only at hSw)
                (try simp only [List.getElem_toArray]); (try simp only [List.getElem_cons_succ]); (try simp only [List.getElem_cons_zero])
                go_simp
                try with_reducible rfl
              (try simp only [Act.put]); (try simp only [List.getElem_toArray]); (try simp only [List.getElem_cons_succ]); (try simp only [List.getElem_cons_zero]); (try simp only [List.setIfInBounds_toArray]); (try simp only [List.set_cons_succ]); (try simp only [List.set_cons_zero])
              refine wpAnyH_take (i := 10) (v := ?_) rfl (by kernel_rfl) (by kernel_rfl) (by kernel_rfl) (fun _ _ _ h => h) (Or.inl ⟨by kernel_rfl, ?_⟩) hHeld ?_
              rotate_left
              · intro w' hSw
                (try dsimp only at hSw)
                (try simp only [List.getElem_toArray]); (try simp only [List.getElem_cons_succ]); (try simp only [List.getElem_cons_zero])
                go_simp
                try with_reducible rfl
              (try simp only [Act.put]); (try simp only [List.getElem_toArray]); (try simp only [List.getElem_cons_succ]); (try simp only [List.getElem_cons_zero]); (try simp only [List.setIfInBounds_toArray]); (try simp only [List.set_cons_succ]); (try simp only [List.set_cons_zero])
              have HC := Lib.hid (all_c O ga l.length B v2 TA (by omega) hk0.2)
              refine wpAnyH_ready (rs := [9]) (by kernel_rfl) (by simp) ?_
              refine AllReadyH.cons rfl (fun K hK => ?_) AllReadyH.nil
              rw [if_pos (by kernel_rfl)]
              (try simp only [List.getElem_toArray]); (try simp only [List.getElem_cons_succ]); (try simp only [List.getElem_cons_zero])
              go_simp
              go_fit HC.out
              rintro e v3 ⟨aA, cA, rfl, lA, k⟩
              clear HC
              go_wp2_with fail
              replace TA := TA.nix k
              replace TB := TB.nix k
              replace ks := ks.trans k.nix
              have hv3 := k.size
              clear k
              refine hK.out _ _ ((HSS.out _ ks)) (fun hHeld => ?_)
              clear hK K
              (try simp only [Act.put]); (try simp only [List.getElem_toArray]); (try simp only [List.getElem_cons_succ]); (try simp only [List.getElem_cons_zero]); (try simp only [List.setIfInBounds_toArray]); (try simp only [List.set_cons_succ]); (try simp only [List.set_cons_zero])
              have HC := Lib.hid (all_c O2 gb I.length B v3 TB (by omega) hk0.2)
              refine wpAnyH_ready (rs := [11]) (by kernel_rfl) (by simp) ?_
              refine AllReadyH.cons rfl (fun K hK => ?_) AllReadyH.nil
              rw [if_pos (by kernel_rfl)]
              (try simp only [List.getElem_toArray]); (try simp only [List.getElem_cons_succ]); (try simp only [List.getElem_cons_zero])
              go_simp
              go_fit HC.out
              rintro e v4 ⟨aB, cB, rfl, lB, k⟩
              clear HC
              go_wp2_with fail
              replace TA := TA.nix k
              replace TB := TB.nix k
              replace ks := ks.trans k.nix
              replace lA := (rList_lawful rGHeld_lawful).nix lA k
              have hv4 := k.size
              clear k
              refine hK.out _ _ ((HSS.out _ ks)) (fun hHeld => ?_)
              clear hK K
              (try simp only [Act.put]); (try simp only [List.getElem_toArray]); (try simp only [List.getElem_cons_succ]); (try simp only [List.getElem_cons_zero]); (try simp only [List.setIfInBounds_toArray]); (try simp only [List.set_cons_succ]); (try simp only [List.set_cons_zero])
              have HC := Lib.hid (sm_Held v4 B aA aB B.length cA B.length cB lA lB)
              refine wpAnyH_ready (rs := [12]) (by kernel_rfl) (by simp) ?_
              refine AllReadyH.cons rfl (fun K hK => ?_) AllReadyH.nil
              rw [if_pos (by kernel_rfl)]
              (try simp only [List.getElem_toArray]); (try simp only [List.getElem_cons_succ]); (try simp only [List.getElem_cons_zero])
              go_simp
              go_fit HC.out
              rintro e v5 ⟨rfl, k⟩
              clear HC lA lB
              go_wp2_with fail
              replace TA := TA.nix k
              replace TB := TB.nix k
              replace ks := ks.trans k.nix
              have hv5 := k.size
              clear k
              refine hK.out _ _ ((HSS.out _ ks)) (fun hHeld => ?_)
              clear hK K
              (try simp only [Act.put]); (try simp only [List.getElem_toArray]); (try simp only [List.getElem_cons_succ]); (try simp only [List.getElem_cons_zero]); (try simp only [List.setIfInBounds_toArray]); (try simp only [List.set_cons_succ]); (try simp only [List.set_cons_zero])
              refine wpAnyH_take (i := 13) (v := ?_) rfl (by kernel_rfl) (by kernel_rfl) (by kernel_rfl) (fun _ _ _ h => h) (Or.inl ⟨by kernel_rfl, ?_⟩) hHeld ?_
              rotate_left
              · intro w' hSw
                (try dsimp only at hSw)
                (try simp only [List.getElem_toArray]); (try simp only [List.getElem_cons_succ]); (try simp only [List.getElem_cons_zero])
                go_simp
                try with_reducible rfl
              (try simp only [Act.put]); (try simp only [List.getElem_toArray]); (try simp only [List.getElem_cons_succ]); (try simp only [List.getElem_cons_zero]); (try simp only [List.setIfInBounds_toArray]); (try simp only [List.set_cons_succ]); (try simp only [List.set_cons_zero])
              refine wpAnyH_take (i := 14) (v := ?_) rfl (by kernel_rfl) (by kernel_rfl) (by kernel_rfl) (fun _ _ _ h => h) (Or.inl ⟨by kernel_rfl, ?_⟩) hHeld ?_
              rotate_left
              · intro w' hSw
                (try dsimp only at hSw)
                (try simp only [List.getElem_toArray]); (try simp only [List.getElem_cons_succ]); (try simp only [List.getElem_cons_zero])
                go_simp
                try with_reducible rfl
              (try simp only [Act.put]); (try simp only [List.getElem_toArray]); (try simp only [List.getElem_cons_succ]); (try simp only [List.getElem_cons_zero]); (try simp only [List.setIfInBounds_toArray]); (try simp only [List.set_cons_succ]); (try simp only [List.set_cons_zero])
              refine wpAnyH_done (by kernel_rfl) ?_ _
              clear hHeld
              obtain ⟨y0, y1, y2, y3⟩ := HSS.out _ ks
              obtain ⟨-, rk, -⟩ := HFF.out _ ks
              have HC := put_c O ga l.length B ask [.int .u64 ask.fTxn, .slice aK ask.fKeys.length cK, .slice aS ask.fSpans.length cS, .slice aW ask.fWrites.length cW] v5 TA (by omega) rk (smallB_F HSA.out) (fun b hb => by have := ks.size; have := hS0.out; have hb : b < W.heap.size := hb; omega)
              unfold PutPost at HC
              rw [HMM.out] at HC
              have HCC := Lib.hid HC
              have hTBl := Lib.hid TB.lt
              clear TA rk HC
              go_wp2_with fail
              go_fit HCC.out
              rintro e v6 ⟨rfl, O', TA, hO', -, k⟩
              clear y0 y1 y2 y3
              have hO6 : Hid (∀ y, O' y → O y ∨ v5.heap.size ≤ y) := hO'
              have hdis : ∀ y, O2 y → ¬ O y := fun y h2 h1 => by
                have h3 := HOl.out y h1
                rcases HO2.out y h2 with h | h <;> omega
              have hO0 : ∀ y, O y → w0.heap.size ≤ y := fun y h1 => by
                have h3 := HOl.out y h1
                omega
              replace TB := TB.keep k hdis
              replace ks := ks.trans (k.mono hO0)
              have hv6 := k.size
              clear k hO'
              by_cases m0 : mm = 0
              · have hq : (mm == 0) = true := by simp [m0]
                have hm0 : mayF B ask = 0 := by rw [HMM.out, m0]
                have haf : afterPut B ask = putT B ask := by unfold afterPut; rw [if_pos hm0]
                rw [haf] at TA
                have hx := (may_iff.1 hm0).2.1
                have okB := TB.ok
                have HDR := Lib.hid (drop_put okB hx)
                have HFP := Lib.hid (find_put B ask)
                clear m0 haf hm0 hx okB
                obtain ⟨y0, y1, y2, y3⟩ := HSS.out _ ks
                have HC := drop_c O' ga (l.length + 1) (putT B ask) ask.fTxn v6 TA hta
                unfold DropPost at HC
                rw [HFP.out, HDR.out] at HC
                replace HC := Lib.hid HC
                clear TA HCC
                go_wp2_with fail
                go_fit HC.out
                rintro e v7 ⟨cs, R, rfl, rg, hR, TA, k⟩
                clear HC y0 y1 y2 y3
                have rg : rGHeld v7 R cs ask := rg
                have rg2 := rg
                obtain ⟨bK, dK, bS, dS, bW, dW, rfl, -⟩ := rGHeld_open rg
                replace TB := TB.keep k (fun y h2 h1 => by
                  rcases hO6.out y h1 with h | h
                  · exact hdis y h2 h
                  · have := hTBl.out y h2; omega)
                replace ks := ks.trans (k.mono (fun y h1 => by
                  rcases hO6.out y h1 with h | h
                  · exact hO0 y h
                  · have := ks.size; omega))
                have hv7 := k.size
                clear k rg hdis hO0
                have k : Keep Nix v7 (v7.alloc (.cells #[.int .u64 ask.fTxn, .slice bK ask.fKeys.length dK, .slice bS ask.fSpans.length dS, .slice bW ask.fWrites.length dW] 28)) := (Keep.refl Nix v7).alloc _
                have rowG := RowIs.alloc v7 #[.int .u64 ask.fTxn, .slice bK ask.fKeys.length dK, .slice bS ask.fSpans.length dS, .slice bW ask.fWrites.length dW] 28
                have rg3 := Lib.hid (rGHeld_lawful.nix rg2 k)
                have ROWG := Lib.hid rowG
                have HTA := Lib.hid (TA.nix k)
                have HTB := Lib.hid (TB.nix k)
                have HKS := Lib.hid (ks.trans k.nix)
                clear TA TB ks rg2 rowG k
                go_upto_region 21 with fail
                generalize (v7.alloc (.cells #[.int .u64 ask.fTxn, .slice bK ask.fKeys.length dK, .slice bS ask.fSpans.length dS, .slice bW ask.fWrites.length dW] 28)) = v8 at *
                have TA := HTA.out
                have TB := HTB.out
                have ks := HKS.out
                obtain ⟨y0, y1, y2, y3⟩ := HSS.out _ ks
                obtain ⟨-, rk, -⟩ := HFF.out _ ks
                have q0 := ROWG.out.cell 0
                (try simp only [List.getElem?_cons_zero] at q0)
                have q1 := ROWG.out.cell 1
                have q2 := ROWG.out.cell 2
                have q3 := ROWG.out.cell 3
                simp only [List.getElem?_cons_succ, List.getElem?_cons_zero] at q1 q2 q3
                have HCC := Lib.hid (sHeld_c v8 ask _ _ rg3.out rk)
                clear rk HTA HTB HKS
                go_wp2_with fail
                go_fit HCC.out
                rintro e v9 ⟨rfl, k⟩
                clear y0 y1 y2 y3 q0 q1 q2 q3
                replace TA := TA.nix k
                replace TB := TB.nix k
                replace ks := ks.trans k.nix
                clear k
                have HC := Lib.hid (all_c O' ga (l.length + 1) B v9 TA (by omega) hk0.2)
                clear HCC
                go_wp2_with fail
                go_fit HC.out
                rintro e v9a ⟨aA, cA, rfl, lA, k⟩
                clear HC
                replace TB := TB.nix k
                replace ks := ks.trans k.nix
                clear k
                have HC := Lib.hid (all_c O2 gb I.length B v9a TB (by omega) hk0.2)
                go_wp2_with fail
                go_fit HC.out
                rintro e v9b ⟨aB, cB, rfl, lB, k⟩
                clear HC
                replace lA := (rList_lawful rGHeld_lawful).nix lA k
                replace ks := ks.trans k.nix
                clear k
                have HC := Lib.hid (sm_Held v9b B aA aB B.length cA B.length cB lA lB)
                go_wp2_with fail
                go_fit HC.out
                rintro e v9c ⟨rfl, k⟩
                clear HC
                replace ks := ks.trans k.nix
                clear k lA lB
                go_wp2_with fail
                go_ret
                exact ⟨rfl, k0.then ks (fun i hi h => by have := k0.size; omega)⟩
              · have hq : (mm == 0) = false := by simp [m0]
                have haf : afterPut B ask = B := by unfold afterPut; rw [if_neg (by rw [HMM.out]; exact m0)]
                rw [haf] at TA
                clear m0 haf
                have HC := Lib.hid (all_c O' ga (l.length + 1) B v6 TA (by omega) hk0.2)
                clear HCC
                go_wp2_with fail
                go_fit HC.out
                rintro e v6a ⟨aA, cA, rfl, lA, k⟩
                clear HC
                replace TB := TB.nix k
                replace ks := ks.trans k.nix
                clear k
                have HC := Lib.hid (all_c O2 gb I.length B v6a TB (by omega) hk0.2)
                go_wp2_with fail
                go_fit HC.out
                rintro e v6b ⟨aB, cB, rfl, lB, k⟩
                clear HC
                replace lA := (rList_lawful rGHeld_lawful).nix lA k
                replace ks := ks.trans k.nix
                clear k
                have HC := Lib.hid (sm_Held v6b B aA aB B.length cA B.length cB lA lB)
                go_wp2_with fail
                go_fit HC.out
                rintro e v6c ⟨rfl, k⟩
                clear HC
                replace ks := ks.trans k.nix
                clear k lA lB
                go_wp2_with fail
                go_ret
                exact ⟨rfl, k0.then ks (fun i hi h => by have := k0.size; omega)⟩
end lockOrder
end Go.Proofs.Ytfagejfcibgigaa
