/- LOCK: the reference's table: what it is; Free. Printed by mac.py. -/
import Derived.Test.YtfagejfcibgigaaQLpB
import Derived.Test.YtfagejfcibgigaaQLkK
namespace Go.Proofs.Ytfagejfcibgigaa
open Go.RowKit

/-- The reference's table at block b, in the blocks Q: the same list as the table's (by rising txn). -/
structure RTab (w : World) (Q : Nat → Prop) (b : Nat) (L : List GHeld) (aL : Option Addr) (cL : Nat) (css : List (List Value)) : Prop where
  row : RowIs w b 54 [.slice aL L.length cL]
  own : w.ownsRow 0 28 4 (.slice aL L.length cL) L.length css.flatten
  els : Els rGHeld w (fun i => Q i ∧ i ≠ b ∧ ¬ OwnB (.slice aL L.length cL) i) css L
  ne : ¬ OwnB (.slice aL L.length cL) b
  lt : ∀ i, Q i → i < w.heap.size
  qb : Q b
  qL : ∀ i, OwnB (.slice aL L.length cL) i → Q i
theorem RTab.keep {w w' : World} {Q : Nat → Prop} {b : Nat} {L : List GHeld} {aL : Option Addr} {cL : Nat} {css : List (List Value)} (h : RTab w Q b L aL cL css) {S : Nat → Prop} (k : Keep S w w') (hs : ∀ i, Q i → ¬ S i) : RTab w' Q b L aL cL css :=
  ⟨h.row.keep k (hs b h.qb), owned_keep h.own k (fun i hi => hs i (h.qL i hi)), h.els.keep rGHeld_lawful k (fun i hi => hs i hi.1), h.ne, fun i hi => Nat.lt_of_lt_of_le (h.lt i hi) k.size, h.qb, h.qL⟩
theorem RTab.nix {w w' : World} {Q : Nat → Prop} {b : Nat} {L : List GHeld} {aL : Option Addr} {cL : Nat} {css : List (List Value)} (h : RTab w Q b L aL cL css) (k : Keep Nix w w') : RTab w' Q b L aL cL css := h.keep k (fun _ _ h => h)
theorem flat4_at : ∀ (css : List (List Value)), (∀ z ∈ css, z.length = 4) → ∀ (k : Nat) (c : List Value), css[k]? = some c → ∀ (j : Nat) (u : Value), c[j]? = some u → css.flatten[k * 4 + j]? = some u
  | x :: css, h, 0, c, hc, j, u, hu => by
    cases hc
    rw [List.flatten_cons, Nat.zero_mul, Nat.zero_add, List.getElem?_append_left (List.getElem?_eq_some_iff.1 hu).1]; exact hu
  | x :: css, h, k + 1, c, hc, j, u, hu => by
    have hx := h x (by simp)
    rw [List.flatten_cons, List.getElem?_append_right (by omega), show (k + 1) * 4 + j - x.length = k * 4 + j by omega]
    exact flat4_at css (fun z hz => h z (by simp [hz])) k c (by simpa using hc) j u hu
theorem RTab.len4 {w : World} {Q : Nat → Prop} {b : Nat} {L : List GHeld} {aL : Option Addr} {cL : Nat} {css : List (List Value)} (h : RTab w Q b L aL cL css) : ∀ z ∈ css, z.length = 4 := fun z hz => by
  obtain ⟨i, hi, rfl⟩ := List.mem_iff_getElem.1 hz
  exact rGHeld_lawful.len (h.els.2 i css[i] (L[i]'(by rw [← h.els.1]; exact hi)) (List.getElem?_eq_getElem hi) (List.getElem?_eq_getElem _))
/-- One element's cells. -/
theorem RTab.cells {w : World} {Q : Nat → Prop} {b : Nat} {L : List GHeld} {aL : Option Addr} {cL : Nat} {css : List (List Value)} (h : RTab w Q b L aL cL css) {k : Nat} (hlt : k < L.length) :
    ∃ (bL : Nat) (cx : List Value), aL = some ⟨bL, 0, none⟩ ∧ css[k]? = some cx ∧ rGHeld w (fun i => Q i ∧ i ≠ b ∧ ¬ OwnB (.slice aL L.length cL) i) cx L[k] ∧ ∀ (j : Nat) (u : Value), cx[j]? = some u → w.cell? ⟨bL, k * 4 + j, none⟩ = some u := by
  have hkc : k < css.length := by rw [h.els.1]; exact hlt
  have rx := h.els.2 k css[k] L[k] (List.getElem?_eq_getElem hkc) (List.getElem?_eq_getElem hlt)
  obtain ⟨bL, rest, e1, -, row, -⟩ := own_row h.own (by omega)
  refine ⟨bL, css[k], e1, List.getElem?_eq_getElem hkc, rx, fun j u hu => ?_⟩
  have hf := flat4_at css h.len4 k css[k] (List.getElem?_eq_getElem hkc) j u hu
  rw [row.cell, List.getElem?_append_left (List.getElem?_eq_some_iff.1 hf).1]
  exact hf
section
attribute [local go_sem ↓] ldz_Held
set_option maxRecDepth 100000 in
set_option maxHeartbeats 2000000 in
theorem rfree_c {q : Nat → Prop} (Q : Nat → Prop) (b : Nat) (L : List GHeld) (aL : Option Addr) (cL : Nat) (css : List (List Value)) (ak : Option Addr) (ck : Nat) (l : List UInt8) (w : World) (T : RTab w Q b L aL cL css) (hL : L.length ≤ 100000) (hl : Lies w q ak (l.map bv)) :
    Calls Try.prog 28 #[.pointer (some ⟨b, 0, none⟩), .slice ak l.length ck] w fun e w' => e = .returned (.bool (!L.any (fun h => wrB h l))) ∧ Keep Nix w w' := by
  have HT := Lib.hid T
  have HL := Lib.hid hl
  clear T hl
  go_enter Try.func28, Try.ntmps28
  go_wp2_with fail
  go_loopw [5] (fun i wr => ∃ k : Nat, k ≤ L.length ∧ i = .int .i64 (k : Int) ∧ Hid ((L.take k).any (fun h => wrB h l) = false) ∧ Keep Nix w wr) (fun i _ => L.length - (intOf i).toNat)
  case atStart => exact ⟨0, Nat.zero_le _, rfl, rfl, Keep.refl _ _⟩
  case round =>
    obtain ⟨k, hk, rfl, hno, kw⟩ := hrel
    have HR := Lib.hid (HT.out.nix kw)
    have x0 : wr.cell? ⟨b, 0, none⟩ = some (.slice aL L.length cL) := HR.out.row.cell 0
    have KW := Lib.hid kw
    clear kw
    by_cases hlt : k < L.length
    · have hi0 : (0 : Int) ≤ (k : Int) := by omega
      have hi1 : (k : Int) < (L.length : Int) := by omega
      have hwk : IntKind.i64.wrap ((k : Int) + 1) = (k : Int) + 1 := by rw [IntKind.wrap_i64]; omega
      obtain ⟨bL, cx, e1, -, rx, hcx⟩ := HR.out.cells hlt
      have HS := any_step L k hlt (fun h => wrB h l)
      have HF := any_found L k hlt (fun h => wrB h l)
      obtain ⟨z, hz⟩ : ∃ z, L[k] = z := ⟨_, rfl⟩
      rw [hz] at rx HS HF
      rw [e1] at x0
      have hld := Whole.at (P := Try.prog) (w := wr) (b := bL) (o := k * 4) S_Held (rGHeld_lawful.len rx) hcx
      unfold Whole at hld
      obtain ⟨v, hv⟩ : ∃ v, wrB z l = v := ⟨_, rfl⟩
      have HE := rwrites_c z cx ak ck l wr rx (HL.out.keep KW.out (fun _ _ h => h))
      rw [hv] at HE HS HF
      have HE := Lib.hid HE
      have HS := Lib.hid HS
      have HF := Lib.hid HF
      clear hcx rx hz hv e1
      go_wp2_with fail
      clear hld x0
      go_fit HE.out
      rintro e w1 ⟨rfl, k1⟩
      have K1 := Lib.hid (KW.out.trans k1)
      clear k1 HE
      cases v with
      | true =>
        have HY := Lib.hid (HF.out rfl)
        go_wp2_with fail
        go_ret
        exact ⟨ret_bool (by rw [HY.out]; rfl), K1.out⟩
      | false =>
        have HN : Hid ((L.take (k + 1)).any (fun h => wrB h l) = false) := by show _ = _; rw [HS.out, hno.out]; rfl
        go_wp2_with fail
        go_roundw
        case rel => exact ⟨k + 1, by omega, by go_num, HN, K1.out⟩
        case measure => simp [intOf]; omega
    · obtain rfl : k = L.length := by omega
      have HN : Hid (L.any (fun h => wrB h l) = false) := by
        have h := hno.out
        rw [List.take_length] at h
        exact h
      go_wp2_with fail
      go_ret
      exact ⟨ret_bool (by rw [HN.out]; rfl), KW.out⟩
end
end Go.Proofs.Ytfagejfcibgigaa
namespace Go.Proofs.Ytfagejfcibgigaa
open Go.RowKit

theorem nil_L {α : Type} {R : RD α} (w : World) (p : Nat → Prop) : rList R w p [.slice none 0 0] [] := ⟨none, 0, [], rfl, rfl, Lies.nil _ _ _, Nat.le_refl _, Nat.zero_le _, fun i c x h => by cases h⟩
theorem find_step (L : List GHeld) (k : Nat) (h : k < L.length) (t : Int) (hn : findT (L.take k) t = none) : findT (L.take (k + 1)) t = if L[k].fTxn = t then some L[k] else none := by
  unfold findT at hn ⊢
  rw [List.take_succ_eq_append_getElem h, List.find?_append, hn]
  by_cases e : L[k].fTxn = t
  · simp [e]
  · simp [e]
theorem find_take (L : List GHeld) (k : Nat) (t : Int) (x : GHeld) (h : findT (L.take k) t = some x) : findT L t = some x := by
  unfold findT at h ⊢
  rw [← List.take_append_drop k L, List.find?_append, h]; rfl
def RGetPost (w : World) (Q : Nat → Prop) (x : Option GHeld) (e : Ending) (w' : World) : Prop := ∃ cs : List Value, e = .returned (.tuple #[.agg cs.toArray, .bool x.isSome]) ∧ rGHeld w' Q cs (valO x) ∧ Keep Nix w w'
theorem zero_R (w : World) (Q : Nat → Prop) : rGHeld w Q [.int .u64 0, .slice none 0 0, .slice none 0 0, .slice none 0 0] ⟨0, [], [], []⟩ := ⟨[.int .u64 0], [.slice none 0 0], [.slice none 0 0], [.slice none 0 0], rfl, ⟨rfl, by decide⟩, nil_L _ _, nil_L _ _, nil_L _ _⟩
section
attribute [local go_sem ↓] ldz_Held stz_Held
set_option maxRecDepth 100000 in
set_option maxHeartbeats 2000000 in
theorem rget_c (Q : Nat → Prop) (b : Nat) (L : List GHeld) (aL : Option Addr) (cL : Nat) (css : List (List Value)) (t : Int) (w : World) (T : RTab w Q b L aL cL css) (hL : L.length ≤ 100000) :
    Calls Try.prog 25 #[.pointer (some ⟨b, 0, none⟩), .int .u64 t] w (RGetPost w (fun i => Q i ∧ i ≠ b) (findT L t)) := by
  have hinfo : (Try.prog.info? 28).map (·.size) = some 4 := by kernel_rfl
  have kA : Keep Nix w (w.alloc (.cells #[.int .u64 0, .slice none 0 0, .slice none 0 0, .slice none 0 0] 28)) := (Keep.refl Nix w).alloc _
  have RZ := Lib.hid (RowIs.alloc w #[.int .u64 0, .slice none 0 0, .slice none 0 0, .slice none 0 0] 28)
  have HT := Lib.hid (T.nix kA)
  have KA := Lib.hid kA
  have HQW := Lib.hid T.lt
  clear T kA
  go_enter Try.func25, Try.ntmps25
  go_wp2_with fail
  generalize (w.alloc (.cells #[.int .u64 0, .slice none 0 0, .slice none 0 0, .slice none 0 0] 28)) = w0 at *
  go_loopw [6] (fun i wr => ∃ k : Nat, k ≤ L.length ∧ i = .int .i64 (k : Int) ∧ Hid (findT (L.take k) t = none) ∧ Keep Nix w0 wr) (fun i _ => L.length - (intOf i).toNat)
  case atStart => exact ⟨0, Nat.zero_le _, rfl, rfl, Keep.refl _ _⟩
  case round =>
    obtain ⟨k, hk, rfl, hno, kw⟩ := hrel
    have HR := Lib.hid (HT.out.nix kw)
    have rowZ : RowIs wr w.heap.size 28 [.int .u64 0, .slice none 0 0, .slice none 0 0, .slice none 0 0] := by have h := RZ.out.keep kw id; simpa using h
    have x0 : wr.cell? ⟨b, 0, none⟩ = some (.slice aL L.length cL) := HR.out.row.cell 0
    have KW := Lib.hid kw
    clear kw
    by_cases hlt : k < L.length
    · have hi0 : (0 : Int) ≤ (k : Int) := by omega
      have hi1 : (k : Int) < (L.length : Int) := by omega
      have hwk : IntKind.i64.wrap ((k : Int) + 1) = (k : Int) + 1 := by rw [IntKind.wrap_i64]; omega
      obtain ⟨bL, cx, e1, -, rx, hcx⟩ := HR.out.cells hlt
      have HS := find_step L k hlt t hno.out
      obtain ⟨z, hz⟩ : ∃ z, L[k] = z := ⟨_, rfl⟩
      rw [hz] at rx HS
      rw [e1] at x0
      have rx2 := rx
      obtain ⟨aK, cK, aS, cS, aW, cW, rfl, -⟩ := rGHeld_open rx
      have hld := Whole.at (P := Try.prog) (w := wr) (b := bL) (o := k * 4) S_Held rfl hcx
      unfold Whole at hld
      have y0 := hcx 0 _ rfl
      (try simp only [Nat.add_zero] at y0)
      have RX := Lib.hid rx2
      have HS := Lib.hid HS
      clear hcx rx rx2 hz e1
      by_cases he : z.fTxn = t
      · have HF : Hid (findT L t = some z) := find_take L (k + 1) t z (by rw [HS.out, if_pos he])
        have ht : (z.fTxn == t) = true := by simp [he]
        have hst := store_run (P := Try.prog) (cs := [.int .u64 z.fTxn, .slice aK z.fKeys.length cK, .slice aS z.fSpans.length cS, .slice aW z.fWrites.length cW]) S_Held rowZ rfl rfl rfl
        have HZR := Lib.hid (rowZ.setRow [.int .u64 z.fTxn, .slice aK z.fKeys.length cK, .slice aS z.fSpans.length cS, .slice aW z.fWrites.length cW])
        have kS : Keep (· = w.heap.size) wr (wr.setRow w.heap.size ([.int .u64 z.fTxn, .slice aK z.fKeys.length cK, .slice aS z.fSpans.length cS, .slice aW z.fWrites.length cW] : List Value).toArray) := (Keep.refl (· = w.heap.size) wr).setRow (fun _ => rfl) _
        have KS := Lib.hid kS
        clear he rowZ kS
        go_wp2_with fail
        refine bodyPost_ret (results_cell_row2 (by rfl) _ _ _ _ _ _ _ (by rfl) HZR.out Try.underlying28 (by rfl) hinfo) rfl ?_
        rw [HF.out]
        exact ⟨_, rfl, rGHeld_lawful.mono (rGHeld_lawful.keep RX.out KS.out (fun i hi e => by have := HQW.out i hi.1; omega)) (fun i hi => ⟨hi.1, hi.2.1⟩), (KA.out.trans KW.out).then KS.out (fun i hi e => by omega)⟩
      · have ht : (z.fTxn == t) = false := by simp [he]
        have HN : Hid (findT (L.take (k + 1)) t = none) := by show _ = _; rw [HS.out, if_neg he]
        clear he rowZ hld
        go_wp2_with fail
        go_roundw
        case rel => exact ⟨k + 1, by omega, by go_num, HN, KW.out⟩
        case measure => simp [intOf]; omega
    · obtain rfl : k = L.length := by omega
      have HN : Hid (findT L t = none) := by
        have h := hno.out
        rw [List.take_length] at h
        exact h
      have hst := store_run (P := Try.prog) (cs := [.int .u64 0, .slice none 0 0, .slice none 0 0, .slice none 0 0]) S_Held rowZ rfl rfl rfl
      have HZR := Lib.hid (rowZ.setRow [.int .u64 0, .slice none 0 0, .slice none 0 0, .slice none 0 0])
      have kS : Keep (· = w.heap.size) wr (wr.setRow w.heap.size ([.int .u64 0, .slice none 0 0, .slice none 0 0, .slice none 0 0] : List Value).toArray) := (Keep.refl (· = w.heap.size) wr).setRow (fun _ => rfl) _
      have KS := Lib.hid kS
      clear rowZ kS
      go_wp2_with fail
      refine bodyPost_ret (results_cell_row2 (by rfl) _ _ _ _ _ _ _ (by rfl) HZR.out Try.underlying28 (by rfl) hinfo) rfl ?_
      rw [HN.out]
      exact ⟨_, rfl, zero_R _ _, (KA.out.trans KW.out).then KS.out (fun i hi e => by omega)⟩
end
end Go.Proofs.Ytfagejfcibgigaa
namespace Go.Proofs.Ytfagejfcibgigaa
open Go.RowKit

section
attribute [local go_sem ↓] ldz_Held stz_Held
set_option maxRecDepth 100000 in
set_option maxHeartbeats 4000000 in
theorem rmay_c {p : Nat → Prop} (Q : Nat → Prop) (b : Nat) (L : List GHeld) (aL : Option Addr) (cL : Nat) (css : List (List Value)) (h : GHeld) (csh : List Value) (w : World) (T : RTab w Q b L aL cL css) (hL : L.length ≤ 100000) (hh : rGHeld w p csh h) :
    Calls Try.prog 26 #[.pointer (some ⟨b, 0, none⟩), .agg csh.toArray] w fun e w' => e = .returned (.int .i64 (mayF L h)) ∧ Keep Nix w w' := by
  have hh2 := hh
  obtain ⟨aK, cK, aS, cS, aW, cW, rfl, -⟩ := rGHeld_open hh
  have kA : Keep Nix w (w.alloc (.cells #[.int .u64 h.fTxn, .slice aK h.fKeys.length cK, .slice aS h.fSpans.length cS, .slice aW h.fWrites.length cW] 28)) := (Keep.refl Nix w).alloc _
  have row0 : RowIs (w.alloc (.cells #[.int .u64 h.fTxn, .slice aK h.fKeys.length cK, .slice aS h.fSpans.length cS, .slice aW h.fWrites.length cW] 28)) w.heap.size 28 [.int .u64 h.fTxn, .slice aK h.fKeys.length cK, .slice aS h.fSpans.length cS, .slice aW h.fWrites.length cW] := RowIs.alloc w _ _
  have x0 : (w.alloc (.cells #[.int .u64 h.fTxn, .slice aK h.fKeys.length cK, .slice aS h.fSpans.length cS, .slice aW h.fWrites.length cW] 28)).cell? ⟨w.heap.size, 0, none⟩ = some (.int .u64 h.fTxn) := row0.cell 0
  have HG := Lib.hid (rget_c Q b L aL cL css h.fTxn (w.alloc (.cells #[.int .u64 h.fTxn, .slice aK h.fKeys.length cK, .slice aS h.fSpans.length cS, .slice aW h.fWrites.length cW] 28)) (T.nix kA) hL)
  have HT := Lib.hid (T.nix kA)
  have HH := Lib.hid (rGHeld_lawful.nix hh2 kA)
  have R0 := Lib.hid row0
  have KA := Lib.hid kA
  obtain ⟨y, HY⟩ : ∃ y, Hid (mayF L h = y) := ⟨_, rfl⟩
  rw [HY.out]
  clear T hh hh2 kA row0
  by_cases ht : h.fTxn = 0
  · have t0 : (h.fTxn == 0) = true := by simp [ht]
    have e : y = 1 := by rw [← HY.out]; unfold mayF; rw [if_pos ht]
    clear ht
    go_enter Try.func26, Try.ntmps26
    go_wp2_with fail
    go_ret
    rw [e]
    exact ⟨rfl, KA.out⟩
  · have t0 : (h.fTxn == 0) = false := by simp [ht]
    have HE : Hid (y = if (findT L h.fTxn).isSome = true then 6 else if disT L h = true then 12 else 0) := by show _ = _; rw [← HY.out]; unfold mayF; rw [if_neg ht]
    clear ht
    obtain ⟨fo, hfo⟩ : ∃ f, findT L h.fTxn = f := ⟨_, rfl⟩
    rw [hfo] at HG HE
    clear hfo
    go_enter Try.func26, Try.ntmps26
    go_wp2_with fail
    go_fit HG.out
    rintro e w1 ⟨cs, rfl, hR, k1⟩
    obtain ⟨bK, dK, bS, dS, bW, dW, rfl, -⟩ := rGHeld_open hR
    generalize valO fo = z at *
    have rowZ : RowIs (w1.alloc (.cells #[.int .u64 0, .slice none 0 0, .slice none 0 0, .slice none 0 0] 28)) w1.heap.size 28 [.int .u64 0, .slice none 0 0, .slice none 0 0, .slice none 0 0] := by simpa using RowIs.alloc w1 #[.int .u64 0, .slice none 0 0, .slice none 0 0, .slice none 0 0] 28
    have hst := store_run (P := Try.prog) (cs := [.int .u64 z.fTxn, .slice bK z.fKeys.length dK, .slice bS z.fSpans.length dS, .slice bW z.fWrites.length dW]) S_Held rowZ rfl rfl rfl
    have kX : Keep Nix w1 ((w1.alloc (.cells #[.int .u64 0, .slice none 0 0, .slice none 0 0, .slice none 0 0] 28)).setRow w1.heap.size ([.int .u64 z.fTxn, .slice bK z.fKeys.length dK, .slice bS z.fSpans.length dS, .slice bW z.fWrites.length dW] : List Value).toArray) := ((Keep.refl Nix w1).alloc _).setRow (fun h => absurd h (Nat.lt_irrefl _)) _
    generalize ((w1.alloc (.cells #[.int .u64 0, .slice none 0 0, .slice none 0 0, .slice none 0 0] 28)).setRow w1.heap.size ([.int .u64 z.fTxn, .slice bK z.fKeys.length dK, .slice bS z.fSpans.length dS, .slice bW z.fWrites.length dW] : List Value).toArray) = w2 at *
    have K2 := Lib.hid (k1.trans kX)
    clear HG k1 kX rowZ hR x0
    obtain ⟨f, hf⟩ : ∃ f, fo.isSome = f := ⟨_, rfl⟩
    rw [hf] at HE ⊢
    clear hf
    cases f with
    | true =>
      have e : y = 6 := by rw [HE.out, if_pos rfl]
      go_wp2_with fail
      go_ret
      rw [e]
      exact ⟨rfl, KA.out.trans K2.out⟩
    | false =>
      have HE : Hid (y = if L.any (fun o => disB h o || disB o h) = true then 12 else 0) := by show _ = _; rw [HE.out, if_neg (by decide)]; rfl
      go_wp2_with fail
      clear hst
      generalize (w.alloc (.cells #[.int .u64 h.fTxn, .slice aK h.fKeys.length cK, .slice aS h.fSpans.length cS, .slice aW h.fWrites.length cW] 28)) = w0 at *
      go_loopw [7] (fun i wr => ∃ k : Nat, k ≤ L.length ∧ i = .int .i64 (k : Int) ∧ Hid ((L.take k).any (fun o => disB h o || disB o h) = false) ∧ Keep Nix w0 wr) (fun i _ => L.length - (intOf i).toNat)
      case atStart => exact ⟨0, Nat.zero_le _, rfl, rfl, K2.out⟩
      case round =>
        clear K2
        obtain ⟨k, hk, rfl, hno, kw⟩ := hrel
        have x0 : wr.cell? ⟨b, 0, none⟩ = some (.slice aL L.length cL) := (HT.out.nix kw).row.cell 0
        have KW := Lib.hid kw
        clear kw
        by_cases hlt : k < L.length
        · have hi0 : (0 : Int) ≤ (k : Int) := by omega
          have hi1 : (k : Int) < (L.length : Int) := by omega
          have hwk : IntKind.i64.wrap ((k : Int) + 1) = (k : Int) + 1 := by rw [IntKind.wrap_i64]; omega
          have HS := any_step L k hlt (fun o => disB h o || disB o h)
          have HF := any_found L k hlt (fun o => disB h o || disB o h)
          obtain ⟨bL, cx, e1, -, rx, hcx⟩ := HT.out.cells hlt
          have hbL : bL < w0.heap.size := HT.out.lt _ (HT.out.qL _ (by rw [e1]; rfl))
          obtain ⟨o, ho⟩ : ∃ z, L[k] = z := ⟨_, rfl⟩
          rw [ho] at rx HS HF
          rw [e1] at x0
          have hlx := rGHeld_lawful.len rx
          have HLO := Lib.hid (fun w' (k' : Keep Nix w0 w') => (Whole.at (P := Try.prog) (w := w') (b := bL) (o := k * 4) S_Held hlx (fun j u hu => (k'.cell (p := ⟨bL, _, none⟩) hbL id).trans (hcx j u hu))))
          have HLH := Lib.hid (fun w' (k' : Keep Nix w0 w') => Whole.row (P := Try.prog) S_Held rfl (R0.out.keep k' id))
          have HA := Lib.hid (fun w' (k' : Keep Nix w0 w') => rdisturbs_c h o [.int .u64 h.fTxn, .slice aK h.fKeys.length cK, .slice aS h.fSpans.length cS, .slice aW h.fWrites.length cW] cx w' (rGHeld_lawful.nix HH.out k') (rGHeld_lawful.nix rx k'))
          have HB := Lib.hid (fun w' (k' : Keep Nix w0 w') => rdisturbs_c o h cx [.int .u64 h.fTxn, .slice aK h.fKeys.length cK, .slice aS h.fSpans.length cS, .slice aW h.fWrites.length cW] w' (rGHeld_lawful.nix rx k') (rGHeld_lawful.nix HH.out k'))
          have HRW := Lib.hid (fun w' (k' : Keep Nix w0 w') => (show w'.cell? ⟨b, 0, none⟩ = some (.slice (some ⟨bL, 0, none⟩) L.length cL) from by rw [← e1]; exact (HT.out.nix k').row.cell 0))
          have HS := Lib.hid HS
          have HF := Lib.hid HF
          obtain ⟨v1, hv1⟩ : ∃ v, disB h o = v := ⟨_, rfl⟩
          obtain ⟨v2, hv2⟩ : ∃ v, disB o h = v := ⟨_, rfl⟩
          rw [hv1, hv2] at HS HF
          rw [hv1] at HA
          rw [hv2] at HB
          have KD := Lib.hid KW.out.drew
          clear hcx rx ho e1 hv1 hv2
          go_wp2_with fail
          clear x0
          have x0 := HRW.out _ KD.out
          have hlh := HLH.out _ KD.out
          have hlo := HLO.out _ KD.out
          unfold Whole at hlh hlo
          refine wp_region_held_drew (S := (fun w' => w'.cell? ⟨b, 0, none⟩ = some (.slice (some ⟨bL, 0, none⟩) L.length cL) ∧ (wholeSem 28 (.pointer (some ⟨w.heap.size, 0, none⟩))).run Try.prog w' = .ok (.value (.agg ([.int .u64 h.fTxn, .slice aK h.fKeys.length cK, .slice aS h.fSpans.length cS, .slice aW h.fWrites.length cW] : List Value).toArray)) w' ∧ (wholeSem 28 (.pointer (some ⟨bL, k * 4, none⟩))).run Try.prog w' = .ok (.value (.agg cx.toArray)) w')) (by kernel_rfl) (⟨x0, hlh, hlo⟩) (fun hHeld => ?_)
          refine wpAnyH_take (i := 0) (v := ?_) rfl (by kernel_rfl) (by kernel_rfl) (by kernel_rfl) (fun _ _ _ h => h) (Or.inl ⟨by kernel_rfl, ?_⟩) hHeld ?_
          rotate_left
          · intro w' hSw
            (try dsimp only at hSw)
            (try simp only [List.getElem_toArray]); (try simp only [List.getElem_cons_succ]); (try simp only [List.getElem_cons_zero])
            go_simp
            try with_reducible rfl
          (try simp only [Act.put]); (try simp only [List.getElem_toArray]); (try simp only [List.getElem_cons_succ]); (try simp only [List.getElem_cons_zero]); (try simp only [List.setIfInBounds_toArray]); (try simp only [List.set_cons_succ]); (try simp only [List.set_cons_zero])
          refine wpAnyH_take (i := 1) (v := ?_) rfl (by kernel_rfl) (by kernel_rfl) (by kernel_rfl) (fun _ _ _ h => h) (Or.inl ⟨by kernel_rfl, ?_⟩) hHeld ?_
          rotate_left
          · intro w' hSw
            (try dsimp only at hSw)
            (try simp only [List.getElem_toArray]); (try simp only [List.getElem_cons_succ]); (try simp only [List.getElem_cons_zero])
            go_simp
            try with_reducible rfl
          (try simp only [Act.put]); (try simp only [List.getElem_toArray]); (try simp only [List.getElem_cons_succ]); (try simp only [List.getElem_cons_zero]); (try simp only [List.setIfInBounds_toArray]); (try simp only [List.set_cons_succ]); (try simp only [List.set_cons_zero])
          refine wpAnyH_take (i := 2) (v := ?_) rfl (by kernel_rfl) (by kernel_rfl) (by kernel_rfl) (fun _ _ _ h => h) (Or.inl ⟨by kernel_rfl, ?_⟩) hHeld ?_
          rotate_left
          · intro w' hSw
            (try dsimp only at hSw)
            (try simp only [List.getElem_toArray]); (try simp only [List.getElem_cons_succ]); (try simp only [List.getElem_cons_zero])
            go_simp
            try with_reducible rfl
          (try simp only [Act.put]); (try simp only [List.getElem_toArray]); (try simp only [List.getElem_cons_succ]); (try simp only [List.getElem_cons_zero]); (try simp only [List.setIfInBounds_toArray]); (try simp only [List.set_cons_succ]); (try simp only [List.set_cons_zero])
          refine wpAnyH_take (i := 3) (v := ?_) rfl (by kernel_rfl) (by kernel_rfl) (by kernel_rfl) (fun _ _ _ h => h) (Or.inl ⟨by kernel_rfl, ?_⟩) hHeld ?_
          rotate_left
          · intro w' hSw
            (try dsimp only at hSw)
            (try simp only [List.getElem_toArray]); (try simp only [List.getElem_cons_succ]); (try simp only [List.getElem_cons_zero])
            go_simp
            try with_reducible rfl
          (try simp only [Act.put]); (try simp only [List.getElem_toArray]); (try simp only [List.getElem_cons_succ]); (try simp only [List.getElem_cons_zero]); (try simp only [List.setIfInBounds_toArray]); (try simp only [List.set_cons_succ]); (try simp only [List.set_cons_zero])
          refine wpAnyH_take (i := 4) (v := ?_) rfl (by kernel_rfl) (by kernel_rfl) (by kernel_rfl) (fun _ _ _ h => h) (Or.inl ⟨by kernel_rfl, ?_⟩) hHeld ?_
          rotate_left
          · intro w' hSw
            (try dsimp only at hSw)
            (try simp only [List.getElem_toArray]); (try simp only [List.getElem_cons_succ]); (try simp only [List.getElem_cons_zero])
            go_simp
            try with_reducible rfl
          (try simp only [Act.put]); (try simp only [List.getElem_toArray]); (try simp only [List.getElem_cons_succ]); (try simp only [List.getElem_cons_zero]); (try simp only [List.setIfInBounds_toArray]); (try simp only [List.set_cons_succ]); (try simp only [List.set_cons_zero])
          refine wpAnyH_take (i := 5) (v := ?_) rfl (by kernel_rfl) (by kernel_rfl) (by kernel_rfl) (fun _ _ _ h => h) (Or.inl ⟨by kernel_rfl, ?_⟩) hHeld ?_
          rotate_left
          · intro w' hSw
            (try dsimp only at hSw)
            (try simp only [List.getElem_toArray]); (try simp only [List.getElem_cons_succ]); (try simp only [List.getElem_cons_zero])
            go_simp
            try with_reducible rfl
          (try simp only [Act.put]); (try simp only [List.getElem_toArray]); (try simp only [List.getElem_cons_succ]); (try simp only [List.getElem_cons_zero]); (try simp only [List.setIfInBounds_toArray]); (try simp only [List.set_cons_succ]); (try simp only [List.set_cons_zero])
          refine wpAnyH_take (i := 6) (v := ?_) rfl (by kernel_rfl) (by kernel_rfl) (by kernel_rfl) (fun _ _ _ h => h) (Or.inl ⟨by kernel_rfl, ?_⟩) hHeld ?_
          rotate_left
          · intro w' hSw
            (try dsimp only at hSw)
            (try simp only [List.getElem_toArray]); (try simp only [List.getElem_cons_succ]); (try simp only [List.getElem_cons_zero])
            go_simp
            try with_reducible rfl
          (try simp only [Act.put]); (try simp only [List.getElem_toArray]); (try simp only [List.getElem_cons_succ]); (try simp only [List.getElem_cons_zero]); (try simp only [List.setIfInBounds_toArray]); (try simp only [List.set_cons_succ]); (try simp only [List.set_cons_zero])
          refine wpAnyH_take (i := 7) (v := ?_) rfl (by kernel_rfl) (by kernel_rfl) (by kernel_rfl) (fun _ _ _ h => h) (Or.inl ⟨by kernel_rfl, ?_⟩) hHeld ?_
          rotate_left
          · intro w' hSw
            (try dsimp only at hSw)
            (try simp only [List.getElem_toArray]); (try simp only [List.getElem_cons_succ]); (try simp only [List.getElem_cons_zero])
            go_simp
            try with_reducible rfl
          (try simp only [Act.put]); (try simp only [List.getElem_toArray]); (try simp only [List.getElem_cons_succ]); (try simp only [List.getElem_cons_zero]); (try simp only [List.setIfInBounds_toArray]); (try simp only [List.set_cons_succ]); (try simp only [List.set_cons_zero])
          generalize wr.drew = wd at *
          refine wpAnyH_ready (rs := [8]) (by kernel_rfl) (by simp) ?_
          refine AllReadyH.cons rfl (fun K hK => ?_) AllReadyH.nil
          go_simp
          go_fit (HA.out wd KD.out)
          rintro e w3 ⟨rfl, k3⟩
          have K3 := Lib.hid (KD.out.trans k3)
          clear x0 hlh hlo k3
          have x0 := HRW.out _ K3.out
          have hlh := HLH.out _ K3.out
          have hlo := HLO.out _ K3.out
          unfold Whole at hlh hlo
          cases v1 with
          | true =>
            have HRR : Hid (y = 12) := by show _ = _; rw [HE.out, if_pos (HF.out rfl)]
            go_wp2_with fail
            refine hK.out _ _ (⟨x0, hlh, hlo⟩) (fun hHeld => ?_)
            clear hK K
            (try simp only [Act.put]); (try simp only [List.getElem_toArray]); (try simp only [List.getElem_cons_succ]); (try simp only [List.getElem_cons_zero]); (try simp only [List.setIfInBounds_toArray]); (try simp only [List.set_cons_succ]); (try simp only [List.set_cons_zero])
            refine wpAnyH_take (i := 9) (v := ?_) rfl (by kernel_rfl) (by kernel_rfl) (by kernel_rfl) (fun _ _ _ h => h) (Or.inl ⟨by kernel_rfl, ?_⟩) hHeld ?_
            rotate_left
            · intro w' hSw
              (try dsimp only at hSw)
              (try simp only [List.getElem_toArray]); (try simp only [List.getElem_cons_succ]); (try simp only [List.getElem_cons_zero])
              go_simp
              try with_reducible rfl
            (try simp only [Act.put]); (try simp only [List.getElem_toArray]); (try simp only [List.getElem_cons_succ]); (try simp only [List.getElem_cons_zero]); (try simp only [List.setIfInBounds_toArray]); (try simp only [List.set_cons_succ]); (try simp only [List.set_cons_zero])
            refine wpAnyH_take (i := 10) (v := undef) rfl (by kernel_rfl) (by kernel_rfl) (by kernel_rfl) (fun _ _ _ h => h) (Or.inr ⟨by kernel_rfl, rfl⟩) hHeld ?_
            (try simp only [Act.put]); (try simp only [List.getElem_toArray]); (try simp only [List.getElem_cons_succ]); (try simp only [List.getElem_cons_zero]); (try simp only [List.setIfInBounds_toArray]); (try simp only [List.set_cons_succ]); (try simp only [List.set_cons_zero])
            refine wpAnyH_take (i := 11) (v := undef) rfl (by kernel_rfl) (by kernel_rfl) (by kernel_rfl) (fun _ _ _ h => h) (Or.inr ⟨by kernel_rfl, rfl⟩) hHeld ?_
            (try simp only [Act.put]); (try simp only [List.getElem_toArray]); (try simp only [List.getElem_cons_succ]); (try simp only [List.getElem_cons_zero]); (try simp only [List.setIfInBounds_toArray]); (try simp only [List.set_cons_succ]); (try simp only [List.set_cons_zero])
            refine wpAnyH_take (i := 12) (v := undef) rfl (by kernel_rfl) (by kernel_rfl) (by kernel_rfl) (fun _ _ _ h => h) (Or.inr ⟨by kernel_rfl, rfl⟩) hHeld ?_
            (try simp only [Act.put]); (try simp only [List.getElem_toArray]); (try simp only [List.getElem_cons_succ]); (try simp only [List.getElem_cons_zero]); (try simp only [List.setIfInBounds_toArray]); (try simp only [List.set_cons_succ]); (try simp only [List.set_cons_zero])
            refine wpAnyH_take (i := 13) (v := undef) rfl (by kernel_rfl) (by kernel_rfl) (by kernel_rfl) (fun _ _ _ h => h) (Or.inr ⟨by kernel_rfl, rfl⟩) hHeld ?_
            (try simp only [Act.put]); (try simp only [List.getElem_toArray]); (try simp only [List.getElem_cons_succ]); (try simp only [List.getElem_cons_zero]); (try simp only [List.setIfInBounds_toArray]); (try simp only [List.set_cons_succ]); (try simp only [List.set_cons_zero])
            refine wpAnyH_take (i := 14) (v := undef) rfl (by kernel_rfl) (by kernel_rfl) (by kernel_rfl) (fun _ _ _ h => h) (Or.inr ⟨by kernel_rfl, rfl⟩) hHeld ?_
            (try simp only [Act.put]); (try simp only [List.getElem_toArray]); (try simp only [List.getElem_cons_succ]); (try simp only [List.getElem_cons_zero]); (try simp only [List.setIfInBounds_toArray]); (try simp only [List.set_cons_succ]); (try simp only [List.set_cons_zero])
            refine wpAnyH_take (i := 15) (v := undef) rfl (by kernel_rfl) (by kernel_rfl) (by kernel_rfl) (fun _ _ _ h => h) (Or.inr ⟨by kernel_rfl, rfl⟩) hHeld ?_
            (try simp only [Act.put]); (try simp only [List.getElem_toArray]); (try simp only [List.getElem_cons_succ]); (try simp only [List.getElem_cons_zero]); (try simp only [List.setIfInBounds_toArray]); (try simp only [List.set_cons_succ]); (try simp only [List.set_cons_zero])
            refine wpAnyH_take (i := 16) (v := undef) rfl (by kernel_rfl) (by kernel_rfl) (by kernel_rfl) (fun _ _ _ h => h) (Or.inr ⟨by kernel_rfl, rfl⟩) hHeld ?_
            (try simp only [Act.put]); (try simp only [List.getElem_toArray]); (try simp only [List.getElem_cons_succ]); (try simp only [List.getElem_cons_zero]); (try simp only [List.setIfInBounds_toArray]); (try simp only [List.set_cons_succ]); (try simp only [List.set_cons_zero])
            refine wpAnyH_take (i := 17) (v := undef) rfl (by kernel_rfl) (by kernel_rfl) (by kernel_rfl) (fun _ _ _ h => h) (Or.inr ⟨by kernel_rfl, rfl⟩) hHeld ?_
            (try simp only [Act.put]); (try simp only [List.getElem_toArray]); (try simp only [List.getElem_cons_succ]); (try simp only [List.getElem_cons_zero]); (try simp only [List.setIfInBounds_toArray]); (try simp only [List.set_cons_succ]); (try simp only [List.set_cons_zero])
            refine wpAnyH_take (i := 18) (v := undef) rfl (by kernel_rfl) (by kernel_rfl) (by kernel_rfl) (fun _ _ _ h => h) (Or.inr ⟨by kernel_rfl, rfl⟩) hHeld ?_
            (try simp only [Act.put]); (try simp only [List.getElem_toArray]); (try simp only [List.getElem_cons_succ]); (try simp only [List.getElem_cons_zero]); (try simp only [List.setIfInBounds_toArray]); (try simp only [List.set_cons_succ]); (try simp only [List.set_cons_zero])
            refine wpAnyH_take (i := 19) (v := ?_) rfl (by kernel_rfl) (by kernel_rfl) (by kernel_rfl) (fun _ _ _ h => h) (Or.inl ⟨by kernel_rfl, ?_⟩) hHeld ?_
            rotate_left
            · intro w' hSw
              (try dsimp only at hSw)
              (try simp only [List.getElem_toArray]); (try simp only [List.getElem_cons_succ]); (try simp only [List.getElem_cons_zero])
              go_simp
              try with_reducible rfl
            (try simp only [Act.put]); (try simp only [List.getElem_toArray]); (try simp only [List.getElem_cons_succ]); (try simp only [List.getElem_cons_zero]); (try simp only [List.setIfInBounds_toArray]); (try simp only [List.set_cons_succ]); (try simp only [List.set_cons_zero])
            refine wpAnyH_done (by kernel_rfl) ?_ _
            clear hHeld x0 hlh hlo
            go_wp2_with fail
            go_ret
            rw [HRR.out]
            exact ⟨rfl, KA.out.trans K3.out⟩
          | false =>
            go_wp2_with fail
            refine hK.out _ _ (⟨x0, hlh, hlo⟩) (fun hHeld => ?_)
            clear hK K
            (try simp only [Act.put]); (try simp only [List.getElem_toArray]); (try simp only [List.getElem_cons_succ]); (try simp only [List.getElem_cons_zero]); (try simp only [List.setIfInBounds_toArray]); (try simp only [List.set_cons_succ]); (try simp only [List.set_cons_zero])
            refine wpAnyH_take (i := 9) (v := ?_) rfl (by kernel_rfl) (by kernel_rfl) (by kernel_rfl) (fun _ _ _ h => h) (Or.inl ⟨by kernel_rfl, ?_⟩) hHeld ?_
            rotate_left
            · intro w' hSw
              (try dsimp only at hSw)
              (try simp only [List.getElem_toArray]); (try simp only [List.getElem_cons_succ]); (try simp only [List.getElem_cons_zero])
              go_simp
              try with_reducible rfl
            (try simp only [Act.put]); (try simp only [List.getElem_toArray]); (try simp only [List.getElem_cons_succ]); (try simp only [List.getElem_cons_zero]); (try simp only [List.setIfInBounds_toArray]); (try simp only [List.set_cons_succ]); (try simp only [List.set_cons_zero])
            refine wpAnyH_take (i := 10) (v := ?_) rfl (by kernel_rfl) (by kernel_rfl) (by kernel_rfl) (fun _ _ _ h => h) (Or.inl ⟨by kernel_rfl, ?_⟩) hHeld ?_
            rotate_left
            · intro w' hSw
              (try dsimp only at hSw)
              (try simp only [List.getElem_toArray]); (try simp only [List.getElem_cons_succ]); (try simp only [List.getElem_cons_zero])
              go_simp
              try with_reducible rfl
            (try simp only [Act.put]); (try simp only [List.getElem_toArray]); (try simp only [List.getElem_cons_succ]); (try simp only [List.getElem_cons_zero]); (try simp only [List.setIfInBounds_toArray]); (try simp only [List.set_cons_succ]); (try simp only [List.set_cons_zero])
            refine wpAnyH_take (i := 11) (v := ?_) rfl (by kernel_rfl) (by kernel_rfl) (by kernel_rfl) (fun _ _ _ h => h) (Or.inl ⟨by kernel_rfl, ?_⟩) hHeld ?_
            rotate_left
            · intro w' hSw
              (try dsimp only at hSw)
              (try simp only [List.getElem_toArray]); (try simp only [List.getElem_cons_succ]); (try simp only [List.getElem_cons_zero])
              go_simp
              try with_reducible rfl
            (try simp only [Act.put]); (try simp only [List.getElem_toArray]); (try simp only [List.getElem_cons_succ]); (try simp only [List.getElem_cons_zero]); (try simp only [List.setIfInBounds_toArray]); (try simp only [List.set_cons_succ]); (try simp only [List.set_cons_zero])
            refine wpAnyH_take (i := 12) (v := ?_) rfl (by kernel_rfl) (by kernel_rfl) (by kernel_rfl) (fun _ _ _ h => h) (Or.inl ⟨by kernel_rfl, ?_⟩) hHeld ?_
            rotate_left
            · intro w' hSw
              (try dsimp only at hSw)
              (try simp only [List.getElem_toArray]); (try simp only [List.getElem_cons_succ]); (try simp only [List.getElem_cons_zero])
              go_simp
              try with_reducible rfl
            (try simp only [Act.put]); (try simp only [List.getElem_toArray]); (try simp only [List.getElem_cons_succ]); (try simp only [List.getElem_cons_zero]); (try simp only [List.setIfInBounds_toArray]); (try simp only [List.set_cons_succ]); (try simp only [List.set_cons_zero])
            refine wpAnyH_take (i := 13) (v := ?_) rfl (by kernel_rfl) (by kernel_rfl) (by kernel_rfl) (fun _ _ _ h => h) (Or.inl ⟨by kernel_rfl, ?_⟩) hHeld ?_
            rotate_left
            · intro w' hSw
              (try dsimp only at hSw)
              (try simp only [List.getElem_toArray]); (try simp only [List.getElem_cons_succ]); (try simp only [List.getElem_cons_zero])
              go_simp
              try with_reducible rfl
            (try simp only [Act.put]); (try simp only [List.getElem_toArray]); (try simp only [List.getElem_cons_succ]); (try simp only [List.getElem_cons_zero]); (try simp only [List.setIfInBounds_toArray]); (try simp only [List.set_cons_succ]); (try simp only [List.set_cons_zero])
            refine wpAnyH_take (i := 14) (v := ?_) rfl (by kernel_rfl) (by kernel_rfl) (by kernel_rfl) (fun _ _ _ h => h) (Or.inl ⟨by kernel_rfl, ?_⟩) hHeld ?_
            rotate_left
            · intro w' hSw
              (try dsimp only at hSw)
              (try simp only [List.getElem_toArray]); (try simp only [List.getElem_cons_succ]); (try simp only [List.getElem_cons_zero])
              go_simp
              try with_reducible rfl
            (try simp only [Act.put]); (try simp only [List.getElem_toArray]); (try simp only [List.getElem_cons_succ]); (try simp only [List.getElem_cons_zero]); (try simp only [List.setIfInBounds_toArray]); (try simp only [List.set_cons_succ]); (try simp only [List.set_cons_zero])
            refine wpAnyH_take (i := 15) (v := ?_) rfl (by kernel_rfl) (by kernel_rfl) (by kernel_rfl) (fun _ _ _ h => h) (Or.inl ⟨by kernel_rfl, ?_⟩) hHeld ?_
            rotate_left
            · intro w' hSw
              (try dsimp only at hSw)
              (try simp only [List.getElem_toArray]); (try simp only [List.getElem_cons_succ]); (try simp only [List.getElem_cons_zero])
              go_simp
              try with_reducible rfl
            (try simp only [Act.put]); (try simp only [List.getElem_toArray]); (try simp only [List.getElem_cons_succ]); (try simp only [List.getElem_cons_zero]); (try simp only [List.setIfInBounds_toArray]); (try simp only [List.set_cons_succ]); (try simp only [List.set_cons_zero])
            refine wpAnyH_take (i := 16) (v := ?_) rfl (by kernel_rfl) (by kernel_rfl) (by kernel_rfl) (fun _ _ _ h => h) (Or.inl ⟨by kernel_rfl, ?_⟩) hHeld ?_
            rotate_left
            · intro w' hSw
              (try dsimp only at hSw)
              (try simp only [List.getElem_toArray]); (try simp only [List.getElem_cons_succ]); (try simp only [List.getElem_cons_zero])
              go_simp
              try with_reducible rfl
            (try simp only [Act.put]); (try simp only [List.getElem_toArray]); (try simp only [List.getElem_cons_succ]); (try simp only [List.getElem_cons_zero]); (try simp only [List.setIfInBounds_toArray]); (try simp only [List.set_cons_succ]); (try simp only [List.set_cons_zero])
            refine wpAnyH_take (i := 17) (v := ?_) rfl (by kernel_rfl) (by kernel_rfl) (by kernel_rfl) (fun _ _ _ h => h) (Or.inl ⟨by kernel_rfl, ?_⟩) hHeld ?_
            rotate_left
            · intro w' hSw
              (try dsimp only at hSw)
              (try simp only [List.getElem_toArray]); (try simp only [List.getElem_cons_succ]); (try simp only [List.getElem_cons_zero])
              go_simp
              try with_reducible rfl
            (try simp only [Act.put]); (try simp only [List.getElem_toArray]); (try simp only [List.getElem_cons_succ]); (try simp only [List.getElem_cons_zero]); (try simp only [List.setIfInBounds_toArray]); (try simp only [List.set_cons_succ]); (try simp only [List.set_cons_zero])
            refine wpAnyH_ready (rs := [18]) (by kernel_rfl) (by simp) ?_
            refine AllReadyH.cons rfl (fun K hK => ?_) AllReadyH.nil
            rw [if_pos (by kernel_rfl)]
            go_simp
            go_fit (HB.out w3 K3.out)
            rintro e w4 ⟨rfl, k4⟩
            have K4 := Lib.hid (K3.out.trans k4)
            clear x0 hlh hlo k4
            have x0 := HRW.out _ K4.out
            have hlh := HLH.out _ K4.out
            have hlo := HLO.out _ K4.out
            unfold Whole at hlh hlo
            go_wp2_with fail
            refine hK.out _ _ (⟨x0, hlh, hlo⟩) (fun hHeld => ?_)
            clear hK K
            (try simp only [Act.put]); (try simp only [List.getElem_toArray]); (try simp only [List.getElem_cons_succ]); (try simp only [List.getElem_cons_zero]); (try simp only [List.setIfInBounds_toArray]); (try simp only [List.set_cons_succ]); (try simp only [List.set_cons_zero])
            refine wpAnyH_take (i := 19) (v := ?_) rfl (by kernel_rfl) (by kernel_rfl) (by kernel_rfl) (fun _ _ _ h => h) (Or.inl ⟨by kernel_rfl, ?_⟩) hHeld ?_
            rotate_left
            · intro w' hSw
              (try dsimp only at hSw)
              (try simp only [List.getElem_toArray]); (try simp only [List.getElem_cons_succ]); (try simp only [List.getElem_cons_zero])
              go_simp
              try with_reducible rfl
            (try simp only [Act.put]); (try simp only [List.getElem_toArray]); (try simp only [List.getElem_cons_succ]); (try simp only [List.getElem_cons_zero]); (try simp only [List.setIfInBounds_toArray]); (try simp only [List.set_cons_succ]); (try simp only [List.set_cons_zero])
            cases v2 with
            | true =>
              have HRR : Hid (y = 12) := by show _ = _; rw [HE.out, if_pos (HF.out rfl)]
              refine wpAnyH_done (by kernel_rfl) ?_ _
              clear hHeld x0 hlh hlo
              go_wp2_with fail
              go_ret
              rw [HRR.out]
              exact ⟨rfl, KA.out.trans K4.out⟩
            | false =>
              have HN : Hid ((L.take (k + 1)).any (fun o => disB h o || disB o h) = false) := by
                show _ = _
                rw [HS.out, hno.out]; rfl
              refine wpAnyH_done (by kernel_rfl) ?_ _
              clear hHeld x0 hlh hlo
              go_wp2_with fail
              go_roundw
              case rel => exact ⟨k + 1, by omega, by go_num, HN, K4.out⟩
              case measure => simp [intOf]; omega
        · obtain rfl : k = L.length := by omega
          have HN : Hid (L.any (fun o => disB h o || disB o h) = false) := by
            have h := hno.out
            rw [List.take_length] at h
            exact h
          have HRR : Hid (y = 0) := by show _ = _; rw [HE.out, if_neg (by rw [HN.out]; decide)]
          go_wp2_with fail
          go_ret
          rw [HRR.out]
          exact ⟨rfl, KA.out.trans KW.out⟩
end
end Go.Proofs.Ytfagejfcibgigaa
namespace Go.Proofs.Ytfagejfcibgigaa
open Go.RowKit

set_option maxRecDepth 100000 in
set_option maxHeartbeats 2000000 in
theorem rtxns_c (Q : Nat → Prop) (b : Nat) (L : List GHeld) (aL : Option Addr) (cL : Nat) (css : List (List Value)) (w : World) (T : RTab w Q b L aL cL css) (hL : L.length ≤ 100000) :
    Calls Try.prog 34 #[.pointer (some ⟨b, 0, none⟩)] w fun e w' => ∃ (a : Option Addr) (cp : Nat), e = .returned (.slice a L.length cp) ∧ w'.ownsRow w.heap.size 23 1 (.slice a L.length cp) L.length ((L.map (·.fTxn)).map iv) ∧ Keep Nix w w' := by
  have HT := Lib.hid T
  clear T
  go_enter Try.func34, Try.ntmps34
  go_wp2_with fail
  go_loopw [3, 4] (fun v i wr => ∃ (k : Nat) (a : Option Addr) (cp : Nat), k ≤ L.length ∧ v = .slice a k cp ∧ i = .int .i64 (k : Int) ∧ wr.ownsRow w.heap.size 23 1 (.slice a k cp) k (((L.take k).map (·.fTxn)).map iv) ∧ Keep Nix w wr) (fun _ i _ => L.length - (intOf i).toNat)
  case atStart => exact ⟨0, none, 0, Nat.zero_le _, rfl, rfl, World.ownsRow_nil _ _ _ _, Keep.refl _ _⟩
  case round =>
    obtain ⟨k, a, cp, hk, rfl, rfl, own, kw⟩ := hrel
    have HR := Lib.hid (HT.out.nix kw)
    have x0 : wr.cell? ⟨b, 0, none⟩ = some (.slice aL L.length cL) := HR.out.row.cell 0
    have KW := Lib.hid kw
    have hsw : w.heap.size ≤ wr.heap.size := kw.size
    have OW := Lib.hid own
    clear kw own
    by_cases hlt : k < L.length
    · have hi0 : (0 : Int) ≤ (k : Int) := by omega
      have hi1 : (k : Int) < (L.length : Int) := by omega
      have hwk : IntKind.i64.wrap ((k : Int) + 1) = (k : Int) + 1 := by rw [IntKind.wrap_i64]; omega
      obtain ⟨bL, cx, e1, -, rx, hcx⟩ := HR.out.cells hlt
      have hst : Hid ((L.take (k + 1)).map (·.fTxn) = (L.take k).map (·.fTxn) ++ [L[k].fTxn]) := by
        show _ = _
        rw [List.take_succ_eq_append_getElem hlt, List.map_append]; rfl
      obtain ⟨z, hz⟩ : ∃ z, L[k] = z := ⟨_, rfl⟩
      rw [hz] at rx hst
      rw [e1] at x0
      obtain ⟨aK, cK, aS, cS, aW, cW, rfl, -⟩ := rGHeld_open rx
      have y0 := hcx 0 _ rfl
      (try simp only [Nat.add_zero] at y0)
      clear hcx rx hz e1
      go_wp2_with (at_builtin; refine wpl_append1 T_lU rfl (.tmp 14) (.tmp 23) rfl w.heap.size rfl OW.out rfl rfl ?c1 ?c2 ?c3 hsw ?_)
      (try case c1 => simp [Value.oneCell'])
      (try case c2 => unfold maxLen; omega)
      (try case c3 => omega)
      intro a' cp' w2 own2 k2
      have hge := OW.out.lt
      have K2 := Lib.hid (KW.out.then k2 (fun i hi h => by have := (hge i h).1; omega))
      have OW2 : Hid (w2.ownsRow w.heap.size 23 1 (.slice a' (k + 1) cp') (k + 1) (((L.take (k + 1)).map (·.fTxn)).map iv)) := by
        show w2.ownsRow w.heap.size 23 1 (.slice a' (k + 1) cp') (k + 1) (((L.take (k + 1)).map (·.fTxn)).map iv)
        rw [hst.out, List.map_append]
        have e : List.take k (List.map (iv ∘ fun x : GHeld => x.fTxn) L) = List.map iv (List.map (fun x => x.fTxn) (List.take k L)) := by rw [List.map_map, List.map_take]
        rw [← e]; exact own2
      clear own2 k2 hge x0 y0
      go_wp2_with fail
      go_roundw
      case rel => exact ⟨k + 1, a', cp', by omega, by go_num, by go_num, OW2.out, K2.out⟩
      case measure => simp [intOf]; omega
    · obtain rfl : k = L.length := by omega
      have OW2 := OW.out
      rw [List.take_length] at OW2
      go_wp2_with fail
      go_ret
      exact ⟨a, cp, rfl, OW2, KW.out⟩
end Go.Proofs.Ytfagejfcibgigaa
