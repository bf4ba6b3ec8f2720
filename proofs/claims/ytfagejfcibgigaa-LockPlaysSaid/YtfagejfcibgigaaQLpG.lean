/- LOCK: the reference's table: Drop. Printed by mac.py. -/
import Derived.Test.YtfagejfcibgigaaQLpX
namespace Go.Proofs.Ytfagejfcibgigaa
open Go.RowKit

/-- A new block of a type, a struct stored into it. -/
theorem boxed {P : Program} {T n : Nat} {zs cs : List Value} (S : StructT P T n) (w : World) (hz : zs.length = n) (hc : cs.length = n) (ho : ones cs = true) :
    (storeSem T (.pointer (some ⟨w.heap.size, 0, none⟩)) (.agg cs.toArray)).run P (w.alloc (.cells zs.toArray T)) = .ok .skip ((w.alloc (.cells zs.toArray T)).setRow w.heap.size cs.toArray) ∧
      RowIs ((w.alloc (.cells zs.toArray T)).setRow w.heap.size cs.toArray) w.heap.size T cs ∧ Keep Nix w ((w.alloc (.cells zs.toArray T)).setRow w.heap.size cs.toArray) := by
  have r0 : RowIs (w.alloc (.cells zs.toArray T)) w.heap.size T zs := by have := RowIs.alloc w zs.toArray T; simpa using this
  exact ⟨store_run S r0 hz hc ho, r0.setRow cs, ((Keep.refl Nix w).alloc _).setRow (fun h => absurd h (Nat.lt_irrefl _)) _⟩
theorem dropT_step (L : List GHeld) (k : Nat) (h : k < L.length) (t : Int) : dropT (L.take (k + 1)) t = if L[k].fTxn = t then dropT (L.take k) t else dropT (L.take k) t ++ [L[k]] := by
  unfold dropT
  rw [List.take_succ_eq_append_getElem h, List.filter_append]
  by_cases e : L[k].fTxn = t
  · simp [e]
  · simp [e]
theorem dropT_le (L : List GHeld) (t : Int) : (dropT L t).length ≤ L.length := List.length_filter_le _ _
def RDropPost (w : World) (Q : Nat → Prop) (b : Nat) (L : List GHeld) (t : Int) (e : Ending) (w' : World) : Prop :=
  ∃ (cs : List Value) (aL : Option Addr) (cL : Nat) (css : List (List Value)), e = .returned (.tuple #[.agg cs.toArray, .bool (findT L t).isSome]) ∧ rGHeld w' Q cs (valO (findT L t)) ∧ RTab w' (fun i => Q i ∨ NewIn w w' i) b (dropT L t) aL cL css ∧ Keep (· = b) w w'
section
attribute [local go_sem ↓] ldz_Held stz_Held
set_option maxRecDepth 100000 in
set_option maxHeartbeats 2000000 in
theorem rdrop_c (Q : Nat → Prop) (b : Nat) (L : List GHeld) (aL : Option Addr) (cL : Nat) (css : List (List Value)) (t : Int) (w : World) (T : RTab w Q b L aL cL css) (hL : L.length ≤ 100000) :
    Calls Try.prog 20 #[.pointer (some ⟨b, 0, none⟩), .int .u64 t] w (RDropPost w Q b L t) := by
  have hinfo : (Try.prog.info? 28).map (·.size) = some 4 := by kernel_rfl
  have kA : Keep Nix w (w.alloc (.cells #[.int .u64 0, .slice none 0 0, .slice none 0 0, .slice none 0 0] 28)) := (Keep.refl Nix w).alloc _
  have RZ := Lib.hid (RowIs.alloc w #[.int .u64 0, .slice none 0 0, .slice none 0 0, .slice none 0 0] 28)
  have hwZ : Hid (((w.alloc (.cells #[.int .u64 0, .slice none 0 0, .slice none 0 0, .slice none 0 0] 28))).heap.size = w.heap.size + 1) := by show _ = _; simp
  have HG := Lib.hid (rget_c Q b L aL cL css t (w.alloc (.cells #[.int .u64 0, .slice none 0 0, .slice none 0 0, .slice none 0 0] 28)) (T.nix kA) hL)
  have HT := Lib.hid T
  have hbw : b < w.heap.size := T.lt b T.qb
  have KA := Lib.hid kA
  obtain ⟨fo, HFO⟩ : ∃ y, Hid (findT L t = y) := ⟨_, rfl⟩
  unfold RDropPost
  rw [HFO.out] at HG ⊢
  obtain ⟨is, HIS⟩ : ∃ y, Hid (fo.isSome = y) := ⟨_, rfl⟩
  unfold RGetPost at HG
  rw [HIS.out] at HG ⊢
  obtain ⟨y, HV⟩ : ∃ y, Hid (valO fo = y) := ⟨_, rfl⟩
  rw [HV.out] at HG ⊢
  clear T kA
  go_enter Try.func20, Try.ntmps20
  go_wp2_with fail
  go_fit HG.out
  rintro e w1 ⟨cs, rfl, rn, k1⟩
  have RN := Lib.hid rn
  obtain ⟨bK, dK, bS, dS, bW, dW, rfl, -⟩ := rGHeld_open rn
  obtain ⟨hst, row6, kX⟩ := boxed (P := Try.prog) (zs := [.int .u64 0, .slice none 0 0, .slice none 0 0, .slice none 0 0]) (cs := [.int .u64 y.fTxn, .slice bK y.fKeys.length dK, .slice bS y.fSpans.length dS, .slice bW y.fWrites.length dW]) S_Held w1 rfl rfl rfl
  have KB := Lib.hid ((KA.out.trans k1).trans kX)
  have hs1 := k1.size
  have hsX := kX.size
  have hb6 := row6.lt
  have RZ0 := Lib.hid (((RZ.out.keep k1 id).keep kX id))
  have R6 := Lib.hid row6
  have RN0 := Lib.hid (rGHeld_lawful.nix RN.out kX)
  rw [hwZ.out] at hs1
  have hs1 := Lib.hid hs1
  have hsX := Lib.hid hsX
  clear HG rn RN kX k1 row6 RZ
  go_wp2_with fail
  clear hst
  generalize ((w1.alloc (.cells ([.int .u64 0, .slice none 0 0, .slice none 0 0, .slice none 0 0] : List Value).toArray 28)).setRow w1.heap.size ([.int .u64 y.fTxn, .slice bK y.fKeys.length dK, .slice bS y.fSpans.length dS, .slice bW y.fWrites.length dW] : List Value).toArray) = w0 at *
  have hww : w.heap.size + 1 ≤ w1.heap.size := hs1.out
  have hwx : w1.heap.size < w0.heap.size := hb6
  clear hb6
  go_loopw [8, 9] (fun v i wr => ∃ (k : Nat) (a : Option Addr) (c : Nat) (css' : List (List Value)), k ≤ L.length ∧ i = .int .i64 (k : Int) ∧ v = .slice a (dropT (L.take k) t).length c ∧ wr.ownsRow w0.heap.size 28 4 (.slice a (dropT (L.take k) t).length c) (dropT (L.take k) t).length css'.flatten ∧ Els rGHeld wr (fun i => Q i ∧ i ≠ b) css' (dropT (L.take k) t) ∧ Keep Nix w0 wr) (fun _ i _ => L.length - (intOf i).toNat)
  case atStart => exact ⟨0, none, 0, [], Nat.zero_le _, rfl, rfl, World.ownsRow_nil _ _ _ _, Els.nil _ _ _, Keep.refl _ _⟩
  case round =>
    obtain ⟨k, a, c, css', hk, rfl, rfl, own, els, kw⟩ := hrel
    have kkw := KB.out.trans kw
    have HR := Lib.hid (HT.out.nix kkw)
    have x0 : wr.cell? ⟨b, 0, none⟩ = some (.slice aL L.length cL) := HR.out.row.cell 0
    have hsw : w0.heap.size ≤ wr.heap.size := kw.size
    have KW := Lib.hid kw
    have OW := Lib.hid own
    have ES := Lib.hid els
    clear kw own els kkw
    by_cases hlt : k < L.length
    · have hi0 : (0 : Int) ≤ (k : Int) := by omega
      have hi1 : (k : Int) < (L.length : Int) := by omega
      have hwk : IntKind.i64.wrap ((k : Int) + 1) = (k : Int) + 1 := by rw [IntKind.wrap_i64]; omega
      obtain ⟨bL, cx, e1, -, rx, hcx⟩ := HR.out.cells hlt
      have HS := dropT_step L k hlt t
      obtain ⟨z, hz⟩ : ∃ z, L[k] = z := ⟨_, rfl⟩
      rw [hz] at rx HS
      rw [e1] at x0
      have RX := Lib.hid rx
      obtain ⟨aK, cK, aS, cS, aW, cW, rfl, -⟩ := rGHeld_open rx
      have hld := Whole.at (P := Try.prog) (w := wr) (b := bL) (o := k * 4) S_Held rfl hcx
      unfold Whole at hld
      have y0 := hcx 0 _ rfl
      (try simp only [Nat.add_zero] at y0)
      have HS := Lib.hid HS
      have hle : Hid ((dropT (L.take k) t).length ≤ k) := by
        have h := dropT_le (L.take k) t
        rw [List.length_take] at h
        show _ ≤ _
        omega
      obtain ⟨M, HM⟩ : ∃ M, Hid (dropT (L.take k) t = M) := ⟨_, rfl⟩
      rw [HM.out] at HS OW ES hle
      rw [HM.out]
      clear hcx rx hz e1 HM
      have hM := hle.out
      by_cases he : z.fTxn = t
      · have ht : (z.fTxn != t) = false := by simp [he]
        have HN : Hid (dropT (L.take (k + 1)) t = M) := by show _ = _; rw [HS.out, if_pos he]
        clear he hld
        go_wp2_with fail
        go_roundw
        case rel => exact ⟨k + 1, a, c, css', by omega, by go_num, by rw [HN.out], by rw [HN.out]; exact OW.out, by rw [HN.out]; exact ES.out, KW.out⟩
        case measure => simp [intOf]; omega
      · have ht : (z.fTxn != t) = true := by simp [he]
        have HN : Hid (dropT (L.take (k + 1)) t = M ++ [z]) := by show _ = _; rw [HS.out, if_neg he]
        clear he
        go_wp2_with (at_builtin; refine wpl_append1_at (c := 1) T_lHeld ?hgd (.tmp 35) (.tmp 43) ?ho w0.heap.size ?hs OW.out ?hx ?c0 ?c1 ?c2 ?c3 ?c4 ?_)
        case hgd => rfl
        case ho => rfl
        case hs => rfl
        case hx => rfl
        case c0 => rfl
        case c1 => simp [Value.oneCell']
        case c2 => unfold maxLen; omega
        case c3 => omega
        case c4 => omega
        intro a' cap' w6 own6 k6 hfresh
        have hge := OW.out.lt
        have els6 := ((ES.out.keep rGHeld_lawful k6 (fun i hi h => by have := (hge i h).1; have := HT.out.lt i hi.1; omega)).snoc (rGHeld_lawful.mono (rGHeld_lawful.keep RX.out k6 (fun i hi h => by have := (hge i h).1; have := HT.out.lt i hi.1; omega)) (q := fun i => Q i ∧ i ≠ b) (fun i hi => ⟨hi.1, hi.2.1⟩)))
        have K6 := Lib.hid (KW.out.then k6 (fun i hi h => by have := (hge i h).1; omega))
        have OW6 : Hid (w6.ownsRow w0.heap.size 28 4 (.slice a' (M.length + 1) cap') (M.length + 1) (css' ++ ([[.int .u64 z.fTxn, .slice aK z.fKeys.length cK, .slice aS z.fSpans.length cS, .slice aW z.fWrites.length cW]] : List (List Value))).flatten) := by show World.ownsRow _ _ _ _ _ _ _; simpa using own6
        have ES6 := Lib.hid els6
        clear own6 k6 hge hfresh els6 x0 y0 hld
        go_wp2_with fail
        go_roundw
        case rel => exact ⟨k + 1, a', cap', css' ++ [[.int .u64 z.fTxn, .slice aK z.fKeys.length cK, .slice aS z.fSpans.length cS, .slice aW z.fWrites.length cW]], by omega, by go_num, by rw [HN.out]; simp, by rw [HN.out, List.length_append]; exact OW6.out, by rw [HN.out]; exact ES6.out, K6.out⟩
        case measure => simp [intOf]; omega
    · obtain rfl : k = L.length := by omega
      rw [List.take_length] at OW ES
      rw [List.take_length]
      have zf := HR.out.row.frozen 0
      have hge := OW.out.lt
      have kS : Keep (· = b) wr (wr.setCell ⟨b, 0, none⟩ (.slice a (dropT L t).length c)) := (Keep.refl (· = b) wr).setCell (p := ⟨b, 0, none⟩) (fun _ => rfl) _
      have rowB := HR.out.row.set 0 (.slice a (dropT L t).length c)
      (try simp only [List.set_cons_zero] at rowB)
      have row6 := (R6.out.keep KW.out id).keep kS (by omega)
      have rowZ : RowIs (wr.setCell ⟨b, 0, none⟩ (.slice a (dropT L t).length c)) w.heap.size 28 [.int .u64 0, .slice none 0 0, .slice none 0 0, .slice none 0 0] := by have h := (RZ0.out.keep KW.out id).keep kS (by omega); simpa using h
      have hld := Whole.row (P := Try.prog) S_Held rfl row6
      unfold Whole at hld
      have hst := store_run (P := Try.prog) (cs := [.int .u64 y.fTxn, .slice bK y.fKeys.length dK, .slice bS y.fSpans.length dS, .slice bW y.fWrites.length dW]) S_Held rowZ rfl rfl rfl
      have kR : Keep (· = w.heap.size) (wr.setCell ⟨b, 0, none⟩ (.slice a (dropT L t).length c)) (((wr.setCell ⟨b, 0, none⟩ (.slice a (dropT L t).length c))).setRow w.heap.size ([.int .u64 y.fTxn, .slice bK y.fKeys.length dK, .slice bS y.fSpans.length dS, .slice bW y.fWrites.length dW] : List Value).toArray) := (Keep.refl (· = w.heap.size) (wr.setCell ⟨b, 0, none⟩ (.slice a (dropT L t).length c))).setRow (fun _ => rfl) _
      have HZR := Lib.hid (rowZ.setRow [.int .u64 y.fTxn, .slice bK y.fKeys.length dK, .slice bS y.fSpans.length dS, .slice bW y.fWrites.length dW])
      have OWS := Lib.hid (owned_keep (owned_keep OW.out kS (fun i h => by have := (hge i h).1; omega)) kR (fun i h => by have := (hge i h).1; omega))
      have ESS := Lib.hid ((ES.out.keep rGHeld_lawful kS (fun i hi => hi.2)).keep rGHeld_lawful kR (fun i hi e => by have := HT.out.lt i hi.1; omega))
      have RNS := Lib.hid (rGHeld_lawful.mono (rGHeld_lawful.keep (rGHeld_lawful.keep (rGHeld_lawful.nix RN0.out KW.out) kS (fun i hi => hi.2)) kR (fun i hi e => by have := HT.out.lt i hi.1; omega)) (q := Q) (fun i hi => hi.1))
      have RBS := Lib.hid (rowB.keep kR (by omega))
      have KS := Lib.hid (((KB.out.trans KW.out).nix.trans kS).then kR (fun i hi e => by omega))
      have HSZ := Lib.hid (Nat.le_trans kS.size kR.size)
      have HGE := Lib.hid hge
      clear hge kS rowB row6 rowZ kR
      go_wp2_with fail
      refine bodyPost_ret (results_cell_row2 (by rfl) _ _ _ _ _ _ _ (by rfl) HZR.out Try.underlying28 (by rfl) hinfo) rfl ?_
      have hsz := HSZ.out
      refine ⟨[.int .u64 y.fTxn, .slice bK y.fKeys.length dK, .slice bS y.fSpans.length dS, .slice bW y.fWrites.length dW], a, c, css', rfl, RNS.out, ⟨RBS.out, owned_base OWS.out (Nat.zero_le _), ESS.out.mono rGHeld_lawful (fun i hi => ⟨.inl hi.1, hi.2, fun h => by have := (HGE.out i h).1; have := HT.out.lt i hi.1; omega⟩), fun h => by have := (HGE.out b h).1; omega, fun i hi => ?_, .inl HT.out.qb, fun i hi => .inr ?_⟩, KS.out⟩
      · rcases hi with h | h
        · have := HT.out.lt i h; omega
        · exact h.2
      · have := HGE.out i hi
        exact ⟨by omega, by omega⟩
end
end Go.Proofs.Ytfagejfcibgigaa
