/- ROUTE: which group has a key: Equal, HasPrefix, Base, Entry, Group. Printed by mac.py. -/
import Derived.Test.YtpblmaklbnpbfaaRt4
namespace Go.Proofs.Ytpblmaklbnpbfaa
open Go.RowKit

theorem equal_c {p q : Nat → Prop} (a b : Option Addr) (n ca m cb : Nat) (la lb : List UInt8) (w : World) (hn : la.length = n) (hm : lb.length = m) (ha : Lies w p a (la.map bv)) (hb : Lies w q b (lb.map bv)) :
    Calls Try.prog 42 #[.slice a n ca, .slice b m cb] w fun e w' => e = .returned (.bool (decide (la = lb))) ∧ w = w' := by
  have h1 := conv_bytes (P := Try.prog) Try.underlying23 Try.underlying5 Try.underlying9 (cap := ca) hn ha
  have h2 := conv_bytes (P := Try.prog) Try.underlying23 Try.underlying5 Try.underlying9 (cap := cb) hm hb
  clear ha hb hn hm
  go_enter Try.func42, Try.ntmps42
  go_wp2
  go_ret
  exact ⟨ret_bool (strB_eq _ _), rfl⟩
theorem prefix_c {p q : Nat → Prop} (a b : Option Addr) (n ca cb : Nat) (la : List UInt8) (c : UInt8) (w : World) (hn : la.length = n) (hca : n ≤ ca) (ha : Lies w p a (la.map bv)) (hb : Lies w q b ([c].map bv)) :
    Calls Try.prog 49 #[.slice a n ca, .slice b 1 cb] w fun e w' => e = .returned (.bool (decide (la.head? = some c))) ∧ w = w' := by
  subst hn
  cases la with
  | nil =>
    clear ha hb
    go_enter Try.func49, Try.ntmps49
    go_wp2_with fail
    go_ret
    exact ⟨rfl, rfl⟩
  | cons x l =>
    have hl : (1 : Int) ≤ (((x :: l).length : Nat) : Int) := by simp only [List.length_cons]; omega
    have hca' : (1 : Int) ≤ (ca : Int) := by omega
    obtain ⟨bb, off, rfl, hp, hlt, hc⟩ := ha (by simp)
    have HE : Hid (decide (x = c) = decide ((x :: l).head? = some c)) := by show _ = _; rw [Bool.eq_iff_iff]; simp
    have h1 : Lies w p (some ⟨bb, off, none⟩) ([x].map bv) := fun _ => ⟨bb, off, rfl, hp, hlt, fun j u hu => by
      match j, hu with
      | 0, hu => exact hc 0 u hu⟩
    generalize hL : (x :: l).length = L at *
    clear hc ha
    go_enter Try.func49, Try.ntmps49
    go_wp2_with fail
    go_fit (equal_c (some ⟨bb, off, none⟩) b 1 ca 1 cb [x] [c] w rfl rfl h1 hb)
    rintro e w' ⟨rfl, rfl⟩
    go_wp2_with fail
    go_ret
    exact ⟨ret_bool HE.out, rfl⟩
theorem hashF_snoc (l : List UInt8) (c : UInt8) : hashF (l ++ [c]) = (31 * hashF l + (c.toNat : Int)) % 4294967296 := by unfold hashF; rw [List.foldl_append]; rfl
theorem hashF_range (l : List UInt8) : 0 ≤ hashF l ∧ hashF l < 4294967296 := by
  rcases List.eq_nil_or_concat l with rfl | ⟨l', c, rfl⟩
  · decide
  · rw [List.concat_eq_append, hashF_snoc]; omega
section
attribute [local go_sem ↓] ldz_Routes
set_option maxRecDepth 100000 in
theorem Base_c {p q : Nat → Prop} (r : GRoutes) (csr : List Value) (a : Option Addr) (cap : Nat) (l : List UInt8) (w : World) (hr : rGRoutes w p csr r) (hb : 1 ≤ r.fBase ∧ r.fBase ≤ 4) (hl : LB w q a cap l) :
    Calls Try.prog 14 #[.agg csr.toArray, .slice a l.length cap] w fun e w' => e = .returned (.int .i64 (baseF r.fBase l)) ∧ Keep Nix w w' := by
  obtain ⟨aS, cS, aC, cC, rfl, hE, hB, hS, hM, hC, -⟩ := rGRoutes_open hr
  obtain ⟨hb1, hb4⟩ := hb
  obtain ⟨y, HY⟩ : ∃ y, Hid (y = hashF l % r.fBase + 1) := ⟨_, rfl⟩
  rw [show baseF r.fBase l = y from HY.out.symm]
  have mL : l.length ≤ 140737488351232 := by have := hl.2.2; have := far_len; omega
  have kk : Keep Nix w (w.alloc (.cells #[.int .i64 r.fEpoch, .int .i64 r.fBase, .slice aS r.fSpans.length cS, .int .i64 r.fMoving, .slice aC r.fCut.length cC] 25)) := (Keep.refl Nix w).alloc _
  have row0 : RowIs (w.alloc (.cells #[.int .i64 r.fEpoch, .int .i64 r.fBase, .slice aS r.fSpans.length cS, .int .i64 r.fMoving, .slice aC r.fCut.length cC] 25)) w.heap.size 25 [.int .i64 r.fEpoch, .int .i64 r.fBase, .slice aS r.fSpans.length cS, .int .i64 r.fMoving, .slice aC r.fCut.length cC] := RowIs.alloc w _ _
  have y1 := row0.cell 1
  (try simp only [List.getElem?_cons_succ] at y1); (try simp only [List.getElem?_cons_zero] at y1)
  have hl1 := hl.keep kk
  clear hr hE hB hM hC hS row0 hl
  go_enter Try.func14, Try.ntmps14
  go_wp2_with fail
  generalize (w.alloc (.cells #[.int .i64 r.fEpoch, .int .i64 r.fBase, .slice aS r.fSpans.length cS, .int .i64 r.fMoving, .slice aC r.fCut.length cC] 25)) = w1 at *
  go_loopw [5, 10] (fun h i wr => ∃ k : Nat, k ≤ l.length ∧ i = .int .i64 k ∧ h = .int .u32 (hashF (l.take k)) ∧ w1 = wr) (fun _ i _ => l.length - (intOf i).toNat)
  case atStart => exact ⟨0, by omega, rfl, rfl, rfl⟩
  case round =>
    obtain ⟨k, hk, rfl, rfl, rfl⟩ := hrel
    by_cases hlt : k < l.length
    · have hi0 : (0 : Int) ≤ (k : Int) := by omega
      have hi1 : (k : Int) < (l.length : Int) := by omega
      obtain ⟨b, o, rfl, -, hbl, hc⟩ := hl1.1 (by intro e; rw [List.map_eq_nil_iff] at e; subst e; simp at hlt)
      have xk := hc k (.int .u8 (l[k].toNat : Int)) (by simp [hlt, bv])
      clear hc
      generalize hh : hashF (l.take k) = h at *
      have hx : Hid (l.take (k + 1) = l.take k ++ [l[k]]) := List.take_succ_eq_append_getElem hlt
      generalize l[k] = x at *
      have HN : Hid (hashF (l.take (k + 1)) = (31 * h % 4294967296 + (x.toNat : Int) % 4294967296) % 4294967296) := by
        show _ = _
        rw [hx.out, hashF_snoc, hh]
        omega
      clear hh
      go_wp2_with fail
      go_roundw
      case rel => exact ⟨k + 1, by omega, by go_num, congrArg (Value.int .u32) HN.out.symm, trivial⟩
      case measure => simp [intOf]; omega
    · obtain rfl : k = l.length := by omega
      have HL : Hid (hashF (l.take l.length) = hashF l) := by show _ = _; rw [List.take_length]
      rw [HL.out]
      have hh0 := hashF_range l
      generalize hashF l = h at *
      generalize r.fBase = b at *
      obtain ⟨h0, h1⟩ := hh0
      obtain rfl | rfl | rfl | rfl : b = 1 ∨ b = 2 ∨ b = 3 ∨ b = 4 := by omega
      all_goals
        go_wp2_with fail
        go_ret
        exact ⟨ret_int (by first | (rw [HY.out]; done) | (rw [HY.out]; omega)), kk⟩
def entryK (key : List UInt8) (l : List GOwner) (k : Nat) : Int := entryF key (l.take k)
theorem entryF_snoc (key : List UInt8) (l : List GOwner) (o : GOwner) (h : l ≠ []) : entryF key (l ++ [o]) = if ltB key o.fFrom then entryF key l else o.fGroup := by
  cases l with
  | nil => exact absurd rfl h
  | cons a l => show List.foldl _ _ (l ++ [o]) = _; rw [List.foldl_append]; rfl
set_option maxRecDepth 100000 in
set_option maxHeartbeats 1000000 in
theorem Entry_c {p q : Nat → Prop} (r : GRoutes) (csr : List Value) (a : Option Addr) (cap : Nat) (l : List UInt8) (w : World) (hr : rGRoutes w p csr r) (hl : LB w q a cap l) :
    Calls Try.prog 22 #[.agg csr.toArray, .slice a l.length cap] w fun e w' => e = .returned (.int .i64 (entryF l r.fSpans)) ∧ Keep Nix w w' := by
  obtain ⟨aS, cS, aC, cC, rfl, hE, hB, hS, hM, hC, -⟩ := rGRoutes_open hr
  have mS : r.fSpans.length ≤ 140737488351232 := by have := (rList_len hS).2.2; have := far_len; omega
  have kk : Keep Nix w (w.alloc (.cells #[.int .i64 r.fEpoch, .int .i64 r.fBase, .slice aS r.fSpans.length cS, .int .i64 r.fMoving, .slice aC r.fCut.length cC] 25)) := (Keep.refl Nix w).alloc _
  have row0 : RowIs (w.alloc (.cells #[.int .i64 r.fEpoch, .int .i64 r.fBase, .slice aS r.fSpans.length cS, .int .i64 r.fMoving, .slice aC r.fCut.length cC] 25)) w.heap.size 25 [.int .i64 r.fEpoch, .int .i64 r.fBase, .slice aS r.fSpans.length cS, .int .i64 r.fMoving, .slice aC r.fCut.length cC] := RowIs.alloc w _ _
  have y2 := row0.cell 2
  (try simp only [List.getElem?_cons_succ] at y2); (try simp only [List.getElem?_cons_zero] at y2)
  clear hr hE hB hM hC row0
  go_enter Try.func22, Try.ntmps22
  go_wp2_with fail
  clear y2
  go_loopw [5, 11] (fun g i wr => ∃ k : Nat, k ≤ r.fSpans.length ∧ i = .int .i64 k ∧ g = .int .i64 (entryF l (r.fSpans.take k)) ∧ Keep Nix w wr) (fun _ i _ => r.fSpans.length - (intOf i).toNat)
  case atStart => exact ⟨0, by omega, rfl, rfl, kk⟩
  case round =>
    clear kk
    obtain ⟨k, hk, rfl, rfl, kk⟩ := hrel
    by_cases hlt : k < r.fSpans.length
    · have hi0 : (0 : Int) ≤ (k : Int) := by omega
      have hi1 : (k : Int) < (r.fSpans.length : Int) := by omega
      have hx : Hid (r.fSpans.take (k + 1) = r.fSpans.take k ++ [r.fSpans[k]]) := List.take_succ_eq_append_getElem hlt
      have hne : Hid (k ≠ 0 → r.fSpans.take k ≠ []) := fun h e => by
        have := congrArg List.length e
        rw [List.length_take, List.length_nil] at this
        omega
      have hS1 := (rList_lawful rGOwner_lawful).nix hS kk
      obtain ⟨b1, o1, _, _, e1, -, hbx, xr, xc⟩ := rList_at rGOwner_lawful (by decide) hS1 k hlt
      simp only [List.cons.injEq, Value.slice.injEq, and_true] at e1
      obtain ⟨rfl, -, -⟩ := e1
      have xf := fromAt_lt hlt
      clear xf hS1
      generalize hG : entryF l (r.fSpans.take k) = g at *
      have HG := Lib.hid hG
      clear hG
      generalize r.fSpans[k] = x at *
      obtain ⟨aF, cF, rfl, -, hF, -⟩ := rGOwner_open xr
      have x0 := xc 0 _ rfl
      (try simp only [Nat.add_zero] at x0)
      have x1 := xc 1 _ rfl
      clear xr xc
      have k2 : Keep Nix wr (wr.alloc (.cells #[.int .i64 x.fGroup, .slice aF x.fFrom.length cF] 32)) := (Keep.refl Nix wr).alloc _
      have hF2 : LB (wr.alloc (.cells #[.int .i64 x.fGroup, .slice aF x.fFrom.length cF] 32)) p aF cF x.fFrom := LB.keep hF k2
      have hl2 := (hl.keep kk).keep k2
      have hcall := cmpB_c aF a x.fFrom.length cF l.length cap x.fFrom l _ rfl rfl hF2.1 hl2.1
      have hle := cmp_le x.fFrom l
      generalize Lib.compareBytes x.fFrom l = n at hle hcall
      replace kk := kk.trans k2
      clear hF hF2 hl2 k2
      by_cases hk0 : k = 0
      · have hkb : ((k : Int) == 0) = true := by simp; omega
        have HN : Hid (entryF l (r.fSpans.take (k + 1)) = x.fGroup) := by show _ = _; rw [hx.out, hk0]; rfl
        have HK := Lib.hid hk0
        clear hcall hle hx hne hk0
        go_wp2_with fail
        go_roundw
        case rel => exact ⟨k + 1, by omega, by go_num, congrArg (Value.int .i64) HN.out.symm, kk⟩
        case measure => simp [intOf]; omega
      · have hne2 := hne.out hk0
        have hkb : ((k : Int) == 0) = false := by simp; omega
        have HN : Hid (entryF l (r.fSpans.take (k + 1)) = if ltB l x.fFrom then g else x.fGroup) := by show _ = _; rw [hx.out, entryF_snoc _ _ _ hne2, HG.out]
        clear hx hne
        cases hv : ltB l x.fFrom with
        | true =>
          have hn : 0 < n := by rw [hv] at hle; simpa using hle
          have HN2 : Hid (entryF l (r.fSpans.take (k + 1)) = g) := by show _ = _; rw [HN.out, hv]; rfl
          clear hle HN hv
          go_wp2_with fail
          go_fit hcall
          clear hcall
          rintro e w' ⟨rfl, rfl⟩
          go_wp2_with fail
          go_roundw
          case rel => exact ⟨k + 1, by omega, by go_num, congrArg (Value.int .i64) HN2.out.symm, kk⟩
          case measure => simp [intOf]; omega
        | false =>
          have hn : n ≤ 0 := by rw [hv] at hle; simpa using hle
          have HN2 : Hid (entryF l (r.fSpans.take (k + 1)) = x.fGroup) := by show _ = _; rw [HN.out, hv]; rfl
          clear hle HN hv
          go_wp2_with fail
          go_fit hcall
          clear hcall
          rintro e w' ⟨rfl, rfl⟩
          go_wp2_with fail
          go_roundw
          case rel => exact ⟨k + 1, by omega, by go_num, congrArg (Value.int .i64) HN2.out.symm, kk⟩
          case measure => simp [intOf]; omega
    · obtain rfl : k = r.fSpans.length := by omega
      have HL : Hid (r.fSpans.take r.fSpans.length = r.fSpans) := by show _ = _; rw [List.take_length]
      rw [HL.out]
      clear hS
      go_wp2_with fail
      go_ret
      exact ⟨rfl, kk⟩
end
end Go.Proofs.Ytpblmaklbnpbfaa
