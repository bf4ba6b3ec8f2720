/- LOCK: All, any, Free, Clear, Touches. Printed by mac.py. -/
import Derived.Test.YtfagejfcibgigaaQLkJ
import Derived.Test.YtfagejfcibgigaaQLkE
namespace Go.Proofs.Ytfagejfcibgigaa
open Go.RowKit Go.Shelf

set_option maxRecDepth 100000 in
set_option maxHeartbeats 2000000 in
theorem allW_c (O : Nat → Prop) (g n : Nat) (L : List GHeld) (w : World) (T : IsTab w O g n L) (hn : n ≤ 1000000) (h12 : L.length ≤ 1000000) :
    Calls Try.prog 14 #[.pointer (some ⟨g, 0, none⟩)] w fun e w' => ∃ (a : Option Addr) (cp : Nat) (css : List (List Value)), e = .returned (.slice a L.length cp) ∧ w'.ownsRow w.heap.size 28 4 (.slice a L.length cp) L.length css.flatten ∧ Els wGHeld w' (fun b => NewIn w w' b ∧ ¬ OwnB (.slice a L.length cp) b) css L ∧ Keep Nix w w' := by
  have HX := Lib.hid (txns_c O g n L w T hn h12)
  have HT := Lib.hid T
  clear T
  go_enter Try.func14, Try.ntmps14
  go_wp2_with fail
  go_fit HX.out
  rintro e w1 ⟨aX, cX, rfl, ownX, k1⟩
  have HO := Lib.hid ownX
  clear HX ownX
  go_wp2_with fail
  go_loopw [3, 9] (fun l i wr => ∃ (k : Nat) (a : Option Addr) (c : Nat) (css : List (List Value)), k ≤ L.length ∧ i = .int .i64 k ∧ l = .slice a k c ∧ wr.ownsRow w1.heap.size 28 4 (.slice a k c) k css.flatten ∧ Els wGHeld wr (fun b => NewIn w1 wr b ∧ ¬ OwnB (.slice a k c) b) css (L.take k) ∧ Keep Nix w1 wr) (fun _ i _ => L.length - (intOf i).toNat)
  case atStart => exact ⟨0, none, 0, [], by omega, rfl, rfl, World.ownsRow_nil _ _ _ _, Els.nil _ _ _, Keep.refl _ _⟩
  case round =>
    obtain ⟨k, a1, c1, css, hk, rfl, rfl, own, els, kx⟩ := hrel
    have hsx := kx.size
    by_cases hlt : k < L.length
    · have hi0 : (0 : Int) ≤ (k : Int) := by omega
      have hi1 : (k : Int) < (L.length : Int) := by omega
      obtain ⟨b, rest, rfl, hb, rowX, hlr, hlx, hc, hm⟩ := own_row HO.out (by omega)
      obtain ⟨lt, og, ok, bM, D, oM, ne, row, m⟩ := (HT.out.nix k1).nix kx
      obtain ⟨h, HH⟩ : ∃ h, L[k] = h := ⟨_, rfl⟩
      have hmem : h ∈ L := by rw [← HH]; exact List.getElem_mem hlt
      have y0 : wr.cell? ⟨b, k, none⟩ = some (.int .u64 h.fTxn) := by
        have := (rowX.keep kx id).cell k
        rw [List.getElem?_append_left (by simpa using hlt), List.getElem?_map, List.getElem?_map, List.getElem?_eq_getElem hlt, HH] at this
        exact this
      have hu := ok.u64 h hmem
      obtain ⟨v, hv, ⟨cs, rfl, rh⟩, hhas⟩ := m.2 h.fTxn hu
      rw [findT_of_mem ok hmem] at rh
      have rh : rGHeld wr (fun b => O b ∧ b ≠ g ∧ b ≠ bM) cs h := rh
      have hlk := look_run m.1 hu hv
      have hsm := ok.small h hmem
      have rh2 := rh
      obtain ⟨aK, cK, aS, cS, aW, cW, rfl, -⟩ := rGHeld_open rh
      have HC := Lib.hid (ownW_c h [.int .u64 h.fTxn, .slice aK h.fKeys.length cK, .slice aS h.fSpans.length cS, .slice aW h.fWrites.length cW] wr rh2 hsm (fun b hb => lt b hb.1))
      have HTK : Hid (L.take (k + 1) = L.take k ++ [h]) := by show _ = _; rw [← HH]; exact List.take_succ_eq_append_getElem hlt
      have x0 := row.cell 0
      (try simp only [List.getElem?_cons_zero] at x0)
      clear rh rh2 hv hhas m row rowX HH
      go_wp2_with fail
      go_fit HC.out
      rintro e w2 ⟨cn, rfl, hG, k2⟩
      have hG2 := hG
      obtain ⟨bK, dK, bS, dS, bW, dW, rfl, -⟩ := hG
      have hk2 := k2.size
      have own2 := owned_keep own k2 (fun _ _ h => h)
      clear HC y0 x0 hlk
      go_wp2_with (at_builtin; refine wpl_append1_at (c := 1) T_lHeld ?hgd (.tmp 13) (.tmp 21) ?ho w1.heap.size ?hs own2 ?hx ?c0 ?c1 ?c2 ?c3 ?c4 ?_)
      case hgd => rfl
      case ho => rfl
      case hs => rfl
      case hx => rfl
      case c0 => rfl
      case c1 => simp [Value.oneCell']
      case c2 => unfold maxLen; omega
      case c3 => omega
      case c4 => omega
      intro a' cap' w6 own6 k6 hfresh
      have els2 := els.push0 wGHeld_lawful hG2 k2 k6 (by omega) (fun b hb => (own.lt b hb).2) hfresh
      have hn6 : ∀ b, OwnB (.slice a1 k c1) b → w1.heap.size ≤ b := fun b hb => (own.lt b hb).1
      have kk2 := (kx.trans k2).then k6 (fun i hi hb => by have := hn6 _ hb; omega)
      clear own own2 els hfresh k6 k2 kx hG2
      go_wp2_with fail
      go_roundw
      case rel => exact ⟨k + 1, a', cap', css ++ [[.int .u64 h.fTxn, .slice bK h.fKeys.length dK, .slice bS h.fSpans.length dS, .slice bW h.fWrites.length dW]], by omega, by go_num, rfl, by simpa using own6, by rw [HTK.out]; exact els2, kk2⟩
      case measure => simp [intOf]; omega
    · obtain rfl : k = L.length := by omega
      rw [List.take_length] at els
      have hs1 := k1.size
      go_wp2_with fail
      go_ret
      exact ⟨a1, c1, css, rfl, own_from own hs1, els.mono wGHeld_lawful (fun b hb => ⟨⟨by have := hb.1.1; omega, hb.1.2⟩, hb.2⟩), k1.trans kx⟩
theorem all_c (O : Nat → Prop) (g n : Nat) (L : List GHeld) (w : World) (T : IsTab w O g n L) (hn : n ≤ 1000000) (h12 : L.length ≤ 1000000) :
    Calls Try.prog 14 #[.pointer (some ⟨g, 0, none⟩)] w fun e w' => ∃ (a : Option Addr) (cp : Nat), e = .returned (.slice a L.length cp) ∧ rList rGHeld w' (NewIn w w') [.slice a L.length cp] L ∧ Keep Nix w w' := by
  refine (allW_c O g n L w T hn h12).mono ?_
  rintro e w' ⟨a, cp, css, rfl, own, els, k⟩
  exact ⟨a, cp, rfl, Els.list (Nat.le_refl _) own (Els_to (fun h => wGHeld_to h) els) rGHeld_lawful rfl (by unfold far; omega), k⟩

theorem any_c (O : Nat → Prop) (g n : Nat) (L : List GHeld) (fv : FuncId) (u : Value) (P : GHeld → Bool) (w : World) (T : IsTab w O g n L) (hn : n ≤ 1000000) (h12 : L.length ≤ 1000000) (hE : ∀ args w, (callFunc fv args).run Try.prog w = .ok (.enter fv args) w)
    (hF : (∀ (w' : World) (x : GHeld) (cs : List Value) (R : Nat → Prop), Keep Nix w w' → rGHeld w' R cs x → Calls Try.prog fv #[.agg cs.toArray, u] w' fun e w'' => e = .returned (.bool (P x)) ∧ Keep Nix w' w'')) :
    Calls Try.prog 46 #[.pointer (some ⟨g, 0, none⟩), .func (.func fv) #[] #[u]] w fun e w' => e = .returned (.bool (L.any P)) ∧ Keep Nix w w' := by
  have HA := Lib.hid (all_c O g n L w T hn h12)
  have HE := Lib.hid hE
  have HF := Lib.hid hF
  clear hE hF T
  go_enter Try.func46, Try.ntmps46
  go_wp2_with fail
  go_fit HA.out
  rintro e w1 ⟨a, cp, rfl, hl, k1⟩
  have HC := Lib.hid (cfHeld_c a L.length cp L fv u P w1 hl HE.out (fun w' x cs k _ r => HF.out w' x cs _ (k1.trans k) r))
  clear hl HA
  go_wp2_with fail
  go_fit HC.out
  rintro e w2 ⟨rfl, k2⟩
  go_wp2_with fail
  go_ret
  exact ⟨rfl, k1.trans k2⟩
set_option maxRecDepth 100000 in
theorem free_c {q : Nat → Prop} (O : Nat → Prop) (g n : Nat) (L : List GHeld) (a : Option Addr) (cp : Nat) (l : List UInt8) (w : World) (T : IsTab w O g n L) (hn : n ≤ 1000000) (h12 : L.length ≤ 1000000) (hl : Lies w q a (l.map bv)) :
    Calls Try.prog 27 #[.pointer (some ⟨g, 0, none⟩), .slice a l.length cp] w fun e w' => e = .returned (.bool (!L.any (fun h => wrB h l))) ∧ Keep Nix w w' := by
  have kk : Keep Nix w (w.alloc (.cells #[.slice a l.length cp] 42)) := (Keep.refl Nix w).alloc _
  have row : RowIs (w.alloc (.cells #[.slice a l.length cp] 42)) w.heap.size 42 [.slice a l.length cp] := RowIs.alloc w _ _
  have hA := Lib.hid (any_c O g n L 57 (.pointer (some ⟨w.heap.size, 0, none⟩)) (fun h => wrB h l) (w.alloc (.cells #[.slice a l.length cp] 42)) (T.nix kk) hn h12 (fun args w => by rfl) (fun w' x cs R k r =>
    free1_c x cs w.heap.size a cp l w' r (Nat.lt_of_lt_of_le row.lt k.size) (by simpa using (row.keep k id).cell 0) (hl.keep (kk.trans k) (fun _ _ h => h))))
  generalize L.any (fun h => wrB h l) = d at *
  clear T hl row
  go_enter Try.func27, Try.ntmps27
  go_wp2_with fail
  go_fit hA.out
  rintro e w1 ⟨rfl, k1⟩
  go_wp2_with fail
  go_ret
  exact ⟨rfl, kk.trans k1⟩
set_option maxRecDepth 100000 in
theorem clear_c {q : Nat → Prop} (O : Nat → Prop) (g n : Nat) (L : List GHeld) (s : GSpan) (css : List Value) (w : World) (T : IsTab w O g n L) (hn : n ≤ 1000000) (h12 : L.length ≤ 1000000) (hs : rGSpan w q css s) :
    Calls Try.prog 29 #[.pointer (some ⟨g, 0, none⟩), .agg css.toArray] w fun e w' => e = .returned (.bool (!L.any (fun h => toB h s))) ∧ Keep Nix w w' := by
  have hs2 := hs
  obtain ⟨aF, cF, aT, cT, rfl, -⟩ := rGSpan_open hs
  have kk : Keep Nix w (w.alloc (.cells #[.slice aF s.fFrom.length cF, .slice aT s.fTo.length cT] 46)) := (Keep.refl Nix w).alloc _
  have row : RowIs (w.alloc (.cells #[.slice aF s.fFrom.length cF, .slice aT s.fTo.length cT] 46)) w.heap.size 46 [.slice aF s.fFrom.length cF, .slice aT s.fTo.length cT] := RowIs.alloc w _ _
  have hA := Lib.hid (any_c O g n L 59 (.pointer (some ⟨w.heap.size, 0, none⟩)) (fun h => toB h s) (w.alloc (.cells #[.slice aF s.fFrom.length cF, .slice aT s.fTo.length cT] 46)) (T.nix kk) hn h12 (fun args w => by rfl) (fun w' x cs R k r =>
    clear1_c x cs w.heap.size s [.slice aF s.fFrom.length cF, .slice aT s.fTo.length cT] w' r (rGSpan_lawful.nix hs2 (kk.trans k)) (row.keep k id)))
  generalize L.any (fun h => toB h s) = d at *
  clear T hs hs2 row
  go_enter Try.func29, Try.ntmps29
  go_wp2_with fail
  go_fit hA.out
  rintro e w1 ⟨rfl, k1⟩
  go_wp2_with fail
  go_ret
  exact ⟨rfl, kk.trans k1⟩
set_option maxRecDepth 100000 in
theorem touches_c {q : Nat → Prop} (O : Nat → Prop) (g n : Nat) (L : List GHeld) (s : GSpan) (css : List Value) (w : World) (T : IsTab w O g n L) (hn : n ≤ 1000000) (h12 : L.length ≤ 1000000) (hs : rGSpan w q css s) :
    Calls Try.prog 19 #[.pointer (some ⟨g, 0, none⟩), .agg css.toArray] w fun e w' => e = .returned (.bool (L.any (fun h => toucheB h s))) ∧ Keep Nix w w' := by
  have hs2 := hs
  obtain ⟨aF, cF, aT, cT, rfl, -⟩ := rGSpan_open hs
  have kk : Keep Nix w (w.alloc (.cells #[.slice aF s.fFrom.length cF, .slice aT s.fTo.length cT] 46)) := (Keep.refl Nix w).alloc _
  have row : RowIs (w.alloc (.cells #[.slice aF s.fFrom.length cF, .slice aT s.fTo.length cT] 46)) w.heap.size 46 [.slice aF s.fFrom.length cF, .slice aT s.fTo.length cT] := RowIs.alloc w _ _
  have hA := Lib.hid (any_c O g n L 47 (.pointer (some ⟨w.heap.size, 0, none⟩)) (fun h => toucheB h s) (w.alloc (.cells #[.slice aF s.fFrom.length cF, .slice aT s.fTo.length cT] 46)) (T.nix kk) hn h12 (fun args w => by rfl) (fun w' x cs R k r =>
    touches1_c x cs w.heap.size s [.slice aF s.fFrom.length cF, .slice aT s.fTo.length cT] w' r (rGSpan_lawful.nix hs2 (kk.trans k)) (row.keep k id)))
  generalize L.any (fun h => toucheB h s) = d at *
  clear T hs hs2 row
  go_enter Try.func19, Try.ntmps19
  go_wp2_with fail
  go_fit hA.out
  rintro e w1 ⟨rfl, k1⟩
  go_wp2_with fail
  go_ret
  exact ⟨rfl, kk.trans k1⟩
end Go.Proofs.Ytfagejfcibgigaa
