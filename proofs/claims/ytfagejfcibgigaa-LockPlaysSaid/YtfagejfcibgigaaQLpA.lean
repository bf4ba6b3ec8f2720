/- LOCK: the reference's small looks: Has, writes, reads. Printed by mac.py. -/
import Derived.Test.YtfagejfcibgigaaQLkX
namespace Go.Proofs.Ytfagejfcibgigaa
open Go.RowKit

theorem any_step {α : Type} (l : List α) (k : Nat) (h : k < l.length) (p : α → Bool) : (l.take (k + 1)).any p = ((l.take k).any p || p l[k]) := by
  rw [List.take_succ_eq_append_getElem h, List.any_append]; simp
theorem any_found {α : Type} (l : List α) (k : Nat) (h : k < l.length) (p : α → Bool) (e : p l[k] = true) : l.any p = true := List.any_eq_true.2 ⟨l[k], List.getElem_mem h, e⟩
set_option maxRecDepth 100000 in
theorem has_c {p q : Nat → Prop} (xs : List (List UInt8)) (a : Option Addr) (cap : Nat) (ak : Option Addr) (ck : Nat) (l : List UInt8) (w : World) (hx : rList rBytes w p [.slice a xs.length cap] xs) (hl : Lies w q ak (l.map bv)) :
    Calls Try.prog 82 #[.slice a xs.length cap, .slice ak l.length ck] w fun e w' => e = .returned (.bool (xs.any (fun k => decide (k = l)))) ∧ w = w' := by
  have hlen := (rList_len hx).2.2
  have HX := Lib.hid hx
  have HL := Lib.hid hl
  clear hx hl
  unfold far at hlen
  go_enter Try.func82, Try.ntmps82
  go_wp2_with fail
  go_loopw [5] (fun i wr => ∃ k : Nat, k ≤ xs.length ∧ i = .int .i64 (k : Int) ∧ Hid ((xs.take k).any (fun k => decide (k = l)) = false) ∧ wr = w) (fun i _ => xs.length - (intOf i).toNat)
  case atStart => exact ⟨0, Nat.zero_le _, rfl, rfl, rfl⟩
  case round =>
    obtain ⟨k, hk, rfl, hno, rfl⟩ := hrel
    by_cases hlt : k < xs.length
    · have hi0 : (0 : Int) ≤ (k : Int) := by omega
      have hi1 : (k : Int) < (xs.length : Int) := by omega
      have hwk : IntKind.i64.wrap ((k : Int) + 1) = (k : Int) + 1 := by rw [IntKind.wrap_i64]; omega
      obtain ⟨b, o, cc, cx, e1, -, -, rx, hcx⟩ := rList_at rBytes_lawful (by decide) HX.out k hlt
      simp only [List.cons.injEq, Value.slice.injEq, and_true] at e1
      obtain ⟨rfl, -, -⟩ := e1
      obtain ⟨ax, cxp, rfl, hax, -, -⟩ := rx
      have y0 := hcx 0 _ rfl
      (try simp only [Nat.add_zero, Nat.mul_one] at y0)
      have HS := any_step xs k hlt (fun k => decide (k = l))
      have HF := any_found xs k hlt (fun k => decide (k = l))
      obtain ⟨y, hy⟩ : ∃ y, xs[k] = y := ⟨_, rfl⟩
      rw [hy] at hax y0 HS HF
      have HE := Lib.hid (bytes_c ax ak y.length cxp l.length ck y l wr rfl rfl hax HL.out)
      have HS := Lib.hid HS
      have HF := Lib.hid HF
      clear hcx hax
      go_wp2_with fail
      go_fit HE.out
      rintro e w1 ⟨rfl, rfl⟩
      by_cases he : y = l
      · have hd : decide (y = l) = true := decide_eq_true he
        have HR := Lib.hid (HF.out hd)
        clear he
        go_wp2_with fail
        go_ret
        exact ⟨ret_bool HR.out.symm, rfl⟩
      · have hd : decide (y = l) = false := decide_eq_false he
        have HN : Hid ((xs.take (k + 1)).any (fun k => decide (k = l)) = false) := by
          show _ = _
          rw [HS.out, hno.out]; simp [hd]
        clear he
        go_wp2_with fail
        go_roundw
        case rel => exact ⟨k + 1, by omega, by go_num, HN, by first | rfl | trivial⟩
        case measure => simp [intOf]; omega
    · obtain rfl : k = xs.length := by omega
      have HN : Hid (xs.any (fun k => decide (k = l)) = false) := by
        have h := hno.out
        rw [List.take_length] at h
        exact h
      go_wp2_with fail
      go_ret
      exact ⟨ret_bool HN.out.symm, rfl⟩
set_option maxRecDepth 100000 in
theorem rwrites_c {p q : Nat → Prop} (h : GHeld) (csh : List Value) (ak : Option Addr) (ck : Nat) (l : List UInt8) (w : World) (hh : rGHeld w p csh h) (hl : Lies w q ak (l.map bv)) :
    Calls Try.prog 58 #[.agg csh.toArray, .slice ak l.length ck] w fun e w' => e = .returned (.bool (wrB h l)) ∧ Keep Nix w w' := by
  obtain ⟨aK, cK, aS, cS, aW, cW, rfl, -, -, -, hx, -⟩ := rGHeld_open hh
  have kk : Keep Nix w (w.alloc (.cells #[.int .u64 h.fTxn, .slice aK h.fKeys.length cK, .slice aS h.fSpans.length cS, .slice aW h.fWrites.length cW] 28)) := (Keep.refl Nix w).alloc _
  have row0 : RowIs (w.alloc (.cells #[.int .u64 h.fTxn, .slice aK h.fKeys.length cK, .slice aS h.fSpans.length cS, .slice aW h.fWrites.length cW] 28)) w.heap.size 28 [.int .u64 h.fTxn, .slice aK h.fKeys.length cK, .slice aS h.fSpans.length cS, .slice aW h.fWrites.length cW] := RowIs.alloc w _ _
  unfold wrB
  have hlen := (rList_len hx).2.2
  have HX := Lib.hid ((rList_lawful rGWrite_lawful).nix hx kk)
  have HL := Lib.hid (hl.keep kk (fun _ _ h => h))
  have x3 : (w.alloc (.cells #[.int .u64 h.fTxn, .slice aK h.fKeys.length cK, .slice aS h.fSpans.length cS, .slice aW h.fWrites.length cW] 28)).cell? ⟨w.heap.size, 3, none⟩ = some (.slice aW h.fWrites.length cW) := row0.cell 3
  have KK := Lib.hid kk
  clear hx hl hh row0 kk
  unfold far at hlen
  go_enter Try.func58, Try.ntmps58
  go_wp2_with fail
  generalize (w.alloc (.cells #[.int .u64 h.fTxn, .slice aK h.fKeys.length cK, .slice aS h.fSpans.length cS, .slice aW h.fWrites.length cW] 28)) = w0 at *
  go_loopw [5] (fun i wr => ∃ k : Nat, k ≤ h.fWrites.length ∧ i = .int .i64 (k : Int) ∧ Hid ((h.fWrites.take k).any (fun x => decide (x.fKey = l)) = false) ∧ wr = w0) (fun i _ => h.fWrites.length - (intOf i).toNat)
  case atStart => exact ⟨0, Nat.zero_le _, rfl, rfl, rfl⟩
  case round =>
    obtain ⟨k, hk, rfl, hno, rfl⟩ := hrel
    by_cases hlt : k < h.fWrites.length
    · have hi0 : (0 : Int) ≤ (k : Int) := by omega
      have hi1 : (k : Int) < (h.fWrites.length : Int) := by omega
      have hwk : IntKind.i64.wrap ((k : Int) + 1) = (k : Int) + 1 := by rw [IntKind.wrap_i64]; omega
      obtain ⟨b, o, cc, cx, e1, -, -, rx, hcx⟩ := rList_at rGWrite_lawful (by decide) HX.out k hlt
      simp only [List.cons.injEq, Value.slice.injEq, and_true] at e1
      obtain ⟨rfl, -, -⟩ := e1
      obtain ⟨ax, cxp, av, cv, rfl, ⟨hax, -, -⟩, -, -⟩ := rGWrite_open rx
      have y0 := hcx 0 _ rfl
      (try simp only [Nat.add_zero] at y0)
      have HS := any_step h.fWrites k hlt (fun x => decide (x.fKey = l))
      have HF := any_found h.fWrites k hlt (fun x => decide (x.fKey = l))
      obtain ⟨y, hy⟩ : ∃ y, h.fWrites[k] = y := ⟨_, rfl⟩
      rw [hy] at hax y0 HS HF
      have HE := Lib.hid (bytes_c ax ak y.fKey.length cxp l.length ck y.fKey l wr rfl rfl hax HL.out)
      have HS := Lib.hid HS
      have HF := Lib.hid HF
      clear hcx hax
      go_wp2_with fail
      go_fit HE.out
      rintro e w1 ⟨rfl, rfl⟩
      by_cases he : y.fKey = l
      · have hd : decide (y.fKey = l) = true := decide_eq_true he
        have HR := Lib.hid (HF.out hd)
        clear he
        go_wp2_with fail
        go_ret
        exact ⟨ret_bool HR.out.symm, KK.out⟩
      · have hd : decide (y.fKey = l) = false := decide_eq_false he
        have HN : Hid ((h.fWrites.take (k + 1)).any (fun x => decide (x.fKey = l)) = false) := by
          show _ = _
          rw [HS.out, hno.out]; simp [hd]
        clear he
        go_wp2_with fail
        go_roundw
        case rel => exact ⟨k + 1, by omega, by go_num, HN, by first | rfl | trivial⟩
        case measure => simp [intOf]; omega
    · obtain rfl : k = h.fWrites.length := by omega
      have HN : Hid (h.fWrites.any (fun x => decide (x.fKey = l)) = false) := by
        have h := hno.out
        rw [List.take_length] at h
        exact h
      go_wp2_with fail
      go_ret
      exact ⟨ret_bool HN.out.symm, KK.out⟩
section
attribute [local go_sem ↓] ldz_Span
set_option maxRecDepth 100000 in
theorem rreads_c {p q : Nat → Prop} (h : GHeld) (csh : List Value) (ak : Option Addr) (ck : Nat) (l : List UInt8) (w : World) (hh : rGHeld w p csh h) (hl : Lies w q ak (l.map bv)) :
    Calls Try.prog 76 #[.agg csh.toArray, .slice ak l.length ck] w fun e w' => e = .returned (.bool (rdB h l)) ∧ Keep Nix w w' := by
  obtain ⟨aK, cK, aS, cS, aW, cW, rfl, -, hK, hS, -, -⟩ := rGHeld_open hh
  have kk : Keep Nix w (w.alloc (.cells #[.int .u64 h.fTxn, .slice aK h.fKeys.length cK, .slice aS h.fSpans.length cS, .slice aW h.fWrites.length cW] 28)) := (Keep.refl Nix w).alloc _
  have row0 : RowIs (w.alloc (.cells #[.int .u64 h.fTxn, .slice aK h.fKeys.length cK, .slice aS h.fSpans.length cS, .slice aW h.fWrites.length cW] 28)) w.heap.size 28 [.int .u64 h.fTxn, .slice aK h.fKeys.length cK, .slice aS h.fSpans.length cS, .slice aW h.fWrites.length cW] := RowIs.alloc w _ _
  have hlen := (rList_len hS).2.2
  have HK := Lib.hid (has_c h.fKeys aK cK ak ck l (w.alloc (.cells #[.int .u64 h.fTxn, .slice aK h.fKeys.length cK, .slice aS h.fSpans.length cS, .slice aW h.fWrites.length cW] 28)) ((rList_lawful rBytes_lawful).nix hK kk) (hl.keep kk (fun _ _ h => h)))
  have HX := Lib.hid ((rList_lawful rGSpan_lawful).nix hS kk)
  have HL := Lib.hid (hl.keep kk (fun _ _ h => h))
  have KK := Lib.hid kk
  have HR := Lib.hid (show rdB h l = (h.fKeys.any (fun k => decide (k = l)) || h.fSpans.any (fun s => withinF s l)) from rfl)
  have RW := Lib.hid row0
  have x1 : (w.alloc (.cells #[.int .u64 h.fTxn, .slice aK h.fKeys.length cK, .slice aS h.fSpans.length cS, .slice aW h.fWrites.length cW] 28)).cell? ⟨w.heap.size, 1, none⟩ = some (.slice aK h.fKeys.length cK) := row0.cell 1
  obtain ⟨y, HY⟩ : ∃ y, Hid (rdB h l = y) := ⟨_, rfl⟩
  rw [HY.out] at HR ⊢
  obtain ⟨v1, hv1⟩ : ∃ v, h.fKeys.any (fun k => decide (k = l)) = v := ⟨_, rfl⟩
  rw [hv1] at HK HR
  unfold far at hlen
  clear hh hK hS kk row0 hl hv1
  go_enter Try.func76, Try.ntmps76
  go_wp2_with fail
  go_fit HK.out
  rintro e w1 ⟨rfl, rfl⟩
  cases v1 with
  | true =>
    have e : y = true := by rw [HR.out]; rfl
    go_wp2_with fail
    go_ret
    exact ⟨ret_bool e.symm, KK.out⟩
  | false =>
    have HR2 : Hid (y = h.fSpans.any (fun s => withinF s l)) := by show _ = _; rw [HR.out, Bool.false_or]
    clear HR x1 HK
    go_wp2_with fail
    generalize (w.alloc (.cells #[.int .u64 h.fTxn, .slice aK h.fKeys.length cK, .slice aS h.fSpans.length cS, .slice aW h.fWrites.length cW] 28)) = w0 at *
    go_loopw [5] (fun i wr => ∃ k : Nat, k ≤ h.fSpans.length ∧ i = .int .i64 (k : Int) ∧ Hid ((h.fSpans.take k).any (fun s => withinF s l) = false) ∧ Keep Nix w0 wr) (fun i _ => h.fSpans.length - (intOf i).toNat)
    case atStart => exact ⟨0, Nat.zero_le _, rfl, rfl, Keep.refl _ _⟩
    case round =>
      obtain ⟨k, hk, rfl, hno, kw⟩ := hrel
      have x2 : wr.cell? ⟨w.heap.size, 2, none⟩ = some (.slice aS h.fSpans.length cS) := (RW.out.keep kw id).cell 2
      have KW := Lib.hid kw
      clear kw
      by_cases hlt : k < h.fSpans.length
      · have hi0 : (0 : Int) ≤ (k : Int) := by omega
        have hi1 : (k : Int) < (h.fSpans.length : Int) := by omega
        have hwk : IntKind.i64.wrap ((k : Int) + 1) = (k : Int) + 1 := by rw [IntKind.wrap_i64]; omega
        obtain ⟨b, o, cc, cx, e1, -, hbb, rx, hcx⟩ := rList_at rGSpan_lawful (by decide) HX.out k hlt
        simp only [List.cons.injEq, Value.slice.injEq, and_true] at e1
        obtain ⟨rfl, -, -⟩ := e1
        have hld := Whole.at (P := Try.prog) (w := wr) (b := b) (o := o + k * 2) S_Span (rGSpan_lawful.len rx) (fun j u hu => (KW.out.cell (p := ⟨b, _, none⟩) hbb id).trans (hcx j u hu))
        have HS := any_step h.fSpans k hlt (fun s => withinF s l)
        have HF := any_found h.fSpans k hlt (fun s => withinF s l)
        unfold Whole at hld
        obtain ⟨z, hz⟩ : ∃ z, h.fSpans[k] = z := ⟨_, rfl⟩
        rw [hz] at rx HS HF
        have HE := Lib.hid (within_c z cx ak ck l wr (rGSpan_lawful.nix rx KW.out) (HL.out.keep KW.out (fun _ _ h => h)))
        have HS := Lib.hid HS
        have HF := Lib.hid HF
        clear hcx rx hz
        go_wp2_with fail
        clear hld
        go_fit HE.out
        rintro e w1 ⟨rfl, k1⟩
        have K1 := Lib.hid (KW.out.trans k1)
        clear k1 x2 HE
        by_cases he : withinF z l = true
        · have HRR : Hid (y = true) := by show _ = _; rw [HR2.out]; exact HF.out he
          generalize withinF z l = v2 at *
          subst he
          go_wp2_with fail
          go_ret
          exact ⟨ret_bool HRR.out.symm, KK.out.trans K1.out⟩
        · have HN : Hid ((h.fSpans.take (k + 1)).any (fun s => withinF s l) = false) := by
            show _ = _
            rw [HS.out, hno.out]; simpa using he
          have he : withinF z l = false := by simpa using he
          clear HS HF
          generalize withinF z l = v2 at *
          subst he
          go_wp2_with fail
          go_roundw
          case rel => exact ⟨k + 1, by omega, by go_num, HN, K1.out⟩
          case measure => simp [intOf]; omega
      · obtain rfl : k = h.fSpans.length := by omega
        have HN : Hid (h.fSpans.any (fun s => withinF s l) = false) := by
          have h := hno.out
          rw [List.take_length] at h
          exact h
        go_wp2_with fail
        go_ret
        exact ⟨ret_bool (by rw [HR2.out, HN.out]), KK.out.trans KW.out⟩
end
end Go.Proofs.Ytfagejfcibgigaa
