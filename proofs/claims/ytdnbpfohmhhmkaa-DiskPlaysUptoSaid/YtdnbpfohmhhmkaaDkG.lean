/- DISK: the reference's disk: New, hit, Start, Show. Printed by mac.py. -/
import Derived.Test.YtdnbpfohmhhmkaaDkF
namespace Go.Proofs.Ytdnbpfohmhhmkaa
open Go.RowKit

theorem A_arr : AggT Try.prog 64 64 := ⟨⟨_, Try.underlying64, rfl⟩, by kernel_rfl⟩
theorem ldz_arr (a : Act) (dst : Option Tmp) (x : Operand) (ty : TypeId) (pos : String) (after : Array Edge) (guard : Option (Nat × Bool)) : execOp a.eval { dst := dst, op := .load 64 x, type := ty, pos := pos, after := after, guard := guard } = wholeSem 64 (a.eval x) := rfl
theorem stz_arr (a : Act) (dst : Option Tmp) (x y : Operand) (ty : TypeId) (pos : String) (after : Array Edge) (guard : Option (Nat × Bool)) : execOp a.eval { dst := dst, op := .store 64 x y, type := ty, pos := pos, after := after, guard := guard } = storeSem 64 (a.eval x) (a.eval y) := rfl
/-- A disk of the reference's, in blocks of p. -/
def IsRef (w : World) (p : Nat → Prop) (g : Nat) (S : List (List UInt8)) (Q : List (Int × List UInt8)) (dn : Bool) (ar : Int) : Prop :=
  ∃ (aS : Option Addr) (cS : Nat) (aQ : Option Addr) (cQ : Nat), RowIs w g 49 [.slice aS S.length cS, .slice aQ Q.length cQ, .int .i64 ar, .bool dn] ∧ w.ownsRow 0 64 64 (.slice aS S.length cS) S.length (secs S) ∧ w.ownsRow 0 70 65 (.slice aQ Q.length cQ) Q.length (wrts Q) ∧
    p g ∧ (∀ b, OwnB (.slice aS S.length cS) b → p b ∧ b ≠ g) ∧ (∀ b, OwnB (.slice aQ Q.length cQ) b → p b ∧ b ≠ g ∧ ¬ OwnB (.slice aS S.length cS) b)
theorem IsRef.mono {w : World} {p q : Nat → Prop} {g : Nat} {S : List (List UInt8)} {Q : List (Int × List UInt8)} {dn : Bool} {ar : Int} (h : IsRef w p g S Q dn ar) (hq : ∀ b, p b → q b) : IsRef w q g S Q dn ar := by
  obtain ⟨aS, cS, aQ, cQ, h1, h2, h3, h4, h5, h6⟩ := h
  exact ⟨aS, cS, aQ, cQ, h1, h2, h3, hq g h4, fun b hb => ⟨hq b (h5 b hb).1, (h5 b hb).2⟩, fun b hb => ⟨hq b (h6 b hb).1, (h6 b hb).2⟩⟩
theorem IsRef.keep {S' : Nat → Prop} {w w' : World} {p : Nat → Prop} {g : Nat} {S : List (List UInt8)} {Q : List (Int × List UInt8)} {dn : Bool} {ar : Int} (h : IsRef w p g S Q dn ar) (k : Keep S' w w') (hs : ∀ b, p b → ¬ S' b) : IsRef w' p g S Q dn ar := by
  obtain ⟨aS, cS, aQ, cQ, h1, h2, h3, h4, h5, h6⟩ := h
  exact ⟨aS, cS, aQ, cQ, h1.keep k (hs g h4), owned_keep h2 k (fun b hb => hs b (h5 b hb).1), owned_keep h3 k (fun b hb => hs b (h6 b hb).1), h4, h5, h6⟩
theorem IsRef.tight {w : World} {p : Nat → Prop} {g : Nat} {S : List (List UInt8)} {Q : List (Int × List UInt8)} {dn : Bool} {ar : Int} (h : IsRef w p g S Q dn ar) : IsRef w (fun b => p b ∧ b < w.heap.size) g S Q dn ar := by
  obtain ⟨aS, cS, aQ, cQ, h1, h2, h3, h4, h5, h6⟩ := h
  exact ⟨aS, cS, aQ, cQ, h1, h2, h3, ⟨h4, h1.lt⟩, fun b hb => ⟨⟨(h5 b hb).1, (h2.lt b hb).2⟩, (h5 b hb).2⟩, fun b hb => ⟨⟨(h6 b hb).1, (h3.lt b hb).2⟩, (h6 b hb).2⟩⟩
theorem rnew_c (n : Nat) (h1 : 1 ≤ n) (h2 : n ≤ 65536) (w : World) : Calls Try.prog 17 #[.int .i64 n] w fun e w' => ∃ g, e = .returned (.pointer (some ⟨g, 0, none⟩)) ∧ IsRef w' (fun b => w.heap.size ≤ b) g (List.replicate n zero64) [] false 0 ∧ Keep Nix w w' := by
  have i1 : (1 : Int) ≤ (n : Int) := by omega
  have i2 : (n : Int) ≤ 65536 := by omega
  obtain ⟨i, hi, hz, hsz, hby⟩ := info_parts (by kernel_rfl : (Try.prog.info? 64).map (fun i => (i.zero, i.size, i.bytes)) = some (some (.agg (List.replicate 64 (bv 0)).toArray), 64, 64))
  obtain ⟨w1, hmk, hown, hgrow⟩ := run_make_full (P := Try.prog) w 0 46 64 i _ 64 Try.underlying46 hi hz hsz .i64 .i64 n (by rw [hby]; omega) (by unfold maxLen; omega) (by omega)
  have hb : ∀ w', (Instr.build 49 #[(0, .slice (some ⟨w.heap.size, 0, none⟩) n n)]).run Try.prog w' = .ok (.agg #[.slice (some ⟨w.heap.size, 0, none⟩) n n, .slice none 0 0, .int .i64 0, .bool false]) w' := fun w' => by kernel_rfl
  have hz2 : secs (List.replicate n zero64) = (madeCells (List.replicate 64 (bv 0)).toArray (n * 64)).toList := (made_zero n).symm
  have kk : Keep Nix w w1 := (Keep.refl Nix w).grown hgrow (fun k hk => nomatch hk)
  have HO : Hid (w1.ownsRow 0 64 64 (.slice (some ⟨w.heap.size, 0, none⟩) n n) n (secs (List.replicate n zero64))) := (by rw [hz2]; exact hown)
  have hlt : Hid (w.heap.size < w1.heap.size) := hown.lt w.heap.size rfl |>.2
  have HK := Lib.hid kk
  clear hown hgrow kk hz2 hz hsz hby hi
  go_enter Try.func17, Try.ntmps17
  go_wp2
  go_ret
  refine ⟨w1.heap.size, rfl, ⟨some ⟨w.heap.size, 0, none⟩, n, none, 0, ?_, ?_, ?_, ?_, ?_, ?_⟩, HK.out.alloc _⟩
  · rw [List.length_replicate]; exact RowIs.alloc w1 _ _
  · rw [List.length_replicate]; exact owned_keep HO.out ((Keep.refl Nix _).alloc _) (fun _ _ h => h)
  · exact ⟨rfl, .inl ⟨rfl, rfl⟩⟩
  · exact HK.out.size
  · intro b hb'
    rw [List.length_replicate] at hb'
    cases hb'
    exact ⟨Nat.le_refl _, by show w.heap.size ≠ w1.heap.size; have := hlt.out; omega⟩
  · intro b hb'; cases hb'
theorem rhit_c (g : Nat) (s1 s2 : Value) (ar : Int) (w : World) (row : RowIs w g 49 [s1, s2, .int .i64 ar, .bool false]) (h0 : 0 ≤ ar) (h1 : ar ≤ 9223372036854775807) : Calls Try.prog 36 #[.pointer (some ⟨g, 0, none⟩)] w fun e w' => e = .returned (.bool (hitF false ar).2.2) ∧ RowIs w' g 49 [s1, s2, .int .i64 (hitF false ar).2.1, .bool (hitF false ar).1] ∧ Keep (· = g) w w' := by
  have x2 := row.cell 2
  (try simp only [List.getElem?_cons_succ] at x2); (try simp only [List.getElem?_cons_zero] at x2)
  have f2 := row.frozen 2
  rcases (show ar = 0 ∨ ar = 1 ∨ (0 < ar ∧ ar ≠ 1) by omega) with rfl | rfl | ⟨h2, h3⟩
  · have HR := Lib.hid row
    clear row
    go_enter Try.func36, Try.ntmps36
    go_wp2
    go_ret
    exact ⟨rfl, HR.out, Keep.refl _ _⟩
  · have row2 : RowIs (w.setCell ⟨g, 2, none⟩ (.int .i64 0)) g 49 [s1, s2, .int .i64 0, .bool false] := row.set 2 _
    have f3 := row2.frozen 3
    have x3 := row2.cell 3
    (try simp only [List.getElem?_cons_succ] at x3); (try simp only [List.getElem?_cons_zero] at x3)
    have HR : Hid (RowIs ((w.setCell ⟨g, 2, none⟩ (.int .i64 0)).setCell ⟨g, 3, none⟩ (.bool true)) g 49 [s1, s2, .int .i64 0, .bool true]) := row2.set 3 _
    have HK : Hid (Keep (· = g) w ((w.setCell ⟨g, 2, none⟩ (.int .i64 0)).setCell ⟨g, 3, none⟩ (.bool true))) := (((Keep.refl (· = g) w).setCell (p := ⟨g, 2, none⟩) (fun _ => rfl) _).setCell (p := ⟨g, 3, none⟩) (fun _ => rfl) _)
    have y2 := row2.cell 2
    (try simp only [List.getElem?_cons_succ] at y2); (try simp only [List.getElem?_cons_zero] at y2)
    clear row row2
    go_enter Try.func36, Try.ntmps36
    go_wp2
    go_ret
    exact ⟨rfl, HR.out, HK.out⟩
  · have hF : Hid (hitF false ar = (false, ar - 1, false)) := (by
      show hitF false ar = _
      unfold hitF
      rw [if_neg (by omega)]
      simp [h3])
    have hw1 : IntKind.i64.wrap (ar - 1) = ar - 1 := by rw [IntKind.wrap_i64]; omega
    have row2 : RowIs (w.setCell ⟨g, 2, none⟩ (.int .i64 (ar - 1))) g 49 [s1, s2, .int .i64 (ar - 1), .bool false] := row.set 2 _
    have HR := Lib.hid row2
    have HK : Hid (Keep (· = g) w (w.setCell ⟨g, 2, none⟩ (.int .i64 (ar - 1)))) := (Keep.refl (· = g) w).setCell (p := ⟨g, 2, none⟩) (fun _ => rfl) _
    have y2 := row2.cell 2
    (try simp only [List.getElem?_cons_succ] at y2); (try simp only [List.getElem?_cons_zero] at y2)
    rcases test_eq (ar - 1) 0 with ⟨t1, t2⟩ | ⟨t1, t2⟩
    · exact absurd t2.out (by omega)
    · clear row row2 t2
      go_enter Try.func36, Try.ntmps36
      go_wp2
      go_ret
      rw [hF.out]
      exact ⟨rfl, HR.out, HK.out⟩
theorem rstart_c (g : Nat) (s1 s2 s3 : Value) (dn : Bool) (w : World) (row : RowIs w g 49 [s1, s2, s3, .bool dn]) : Calls Try.prog 25 #[.pointer (some ⟨g, 0, none⟩)] w fun e w' => e = .returned (.tuple #[]) ∧ RowIs w' g 49 [s1, if dn then .slice none 0 0 else s2, .int .i64 0, .bool false] ∧ Keep (· = g) w w' := by
  have x2 := row.cell 2
  (try simp only [List.getElem?_cons_succ] at x2); (try simp only [List.getElem?_cons_zero] at x2)
  have f2 := row.frozen 2
  have row1 : RowIs (w.setCell ⟨g, 2, none⟩ (.int .i64 0)) g 49 [s1, s2, .int .i64 0, .bool dn] := row.set 2 _
  have k1 : Keep (· = g) w (w.setCell ⟨g, 2, none⟩ (.int .i64 0)) := (Keep.refl (· = g) w).setCell (p := ⟨g, 2, none⟩) (fun _ => rfl) _
  have y3 := row1.cell 3
  (try simp only [List.getElem?_cons_succ] at y3); (try simp only [List.getElem?_cons_zero] at y3)
  cases dn with
  | false =>
    have h3 := row1.frozen 3
    have HR : Hid (RowIs ((w.setCell ⟨g, 2, none⟩ (.int .i64 0)).setCell ⟨g, 3, none⟩ (.bool false)) g 49 [s1, s2, .int .i64 0, .bool false]) := row1.set 3 _
    have HK := Lib.hid (k1.setCell (p := ⟨g, 3, none⟩) (fun _ => rfl) (.bool false))
    clear row row1 k1
    go_enter Try.func25, Try.ntmps25
    go_wp2
    go_end0
    exact ⟨rfl, HR.out, HK.out⟩
  | true =>
    have h1 := row1.frozen 1
    have y1 := row1.cell 1
    (try simp only [List.getElem?_cons_succ] at y1); (try simp only [List.getElem?_cons_zero] at y1)
    have row2 : RowIs ((w.setCell ⟨g, 2, none⟩ (.int .i64 0)).setCell ⟨g, 1, none⟩ (.slice none 0 0)) g 49 [s1, .slice none 0 0, .int .i64 0, .bool true] := row1.set 1 _
    have z3 := row2.cell 3
    (try simp only [List.getElem?_cons_succ] at z3); (try simp only [List.getElem?_cons_zero] at z3)
    have h3 := row2.frozen 3
    have HR : Hid (RowIs (((w.setCell ⟨g, 2, none⟩ (.int .i64 0)).setCell ⟨g, 1, none⟩ (.slice none 0 0)).setCell ⟨g, 3, none⟩ (.bool false)) g 49 [s1, .slice none 0 0, .int .i64 0, .bool false]) := row2.set 3 _
    have HK := Lib.hid ((k1.setCell (p := ⟨g, 1, none⟩) (fun _ => rfl) (.slice none 0 0)).setCell (p := ⟨g, 3, none⟩) (fun _ => rfl) (.bool false))
    clear row row1 row2 k1
    go_enter Try.func25, Try.ntmps25
    go_wp2
    go_end0
    exact ⟨rfl, HR.out, HK.out⟩
theorem show_nil {S : List (List UInt8)} {k : Nat} (h : k < S.length) : showF S [] k = S[k] := by
  unfold showF
  rw [List.foldl_nil, Int.toNat_natCast, List.getD_eq_getElem?_getD, List.getElem?_eq_getElem h]; rfl
def zA : List Value := List.replicate 64 (bv 0)
section
attribute [local go_sem ↓] ldz_arr stz_arr
set_option maxRecDepth 100000 in
set_option maxHeartbeats 4000000 in
theorem rshow_c {p : Nat → Prop} (g : Nat) (S : List (List UInt8)) (Q : List (Int × List UInt8)) (dn : Bool) (ar n : Int) (w : World) (hd : IsRef w p g S Q dn ar) (ok : DiskOk S Q ar) (hQ : Q.length ≤ 1000) (h0 : 0 ≤ n) (h1 : n < S.length) :
    Calls Try.prog 35 #[.pointer (some ⟨g, 0, none⟩), .int .i64 n] w fun e w' => e = .returned (.agg ((showF S Q n).map bv).toArray) ∧ Keep Nix w w' := by
  obtain ⟨aS, cS, aQ, cQ, row, hown, howq, hp, hap, haq⟩ := hd
  have hnS : S.length ≤ 65536 := ok.n
  obtain ⟨k0, rfl⟩ : ∃ k : Nat, n = (k : Int) := ⟨n.toNat, by omega⟩
  have hk0 : k0 < S.length := by omega
  have hz64 : ∀ w' : World, (zeroValue 64).run Try.prog w' = .ok (.agg zA.toArray) w' := fun w' => by kernel_rfl
  have rowT := RowIs.alloc w zA.toArray 64
  rw [show zA.toArray.toList = zA from rfl] at rowT
  have kA : Keep Nix w (w.alloc (.cells zA.toArray 64)) := (Keep.refl Nix w).alloc _
  have rowG := row.keep kA id
  have hlS := (Lies.of_owned hown).keep kA (fun _ _ h => h)
  have hlQ := (Lies.of_owned howq).keep kA (fun _ _ h => h)
  have x0 := rowG.cell 0
  (try simp only [List.getElem?_cons_succ] at x0); (try simp only [List.getElem?_cons_zero] at x0)
  have x1 := rowG.cell 1
  (try simp only [List.getElem?_cons_succ] at x1); (try simp only [List.getElem?_cons_zero] at x1)
  have hn0 : (Q.length : Int) ≤ 1000 := by omega
  have hzl : zA.length = 64 := by decide
  clear hown howq row
  go_enter Try.func35, Try.ntmps35
  go_upto_region 2 with fail
  generalize hT : w.heap.size = gT at *
  generalize w.alloc (.cells zA.toArray 64) = w1 at *
  have hTg : gT < w1.heap.size := rowT.lt
  go_loopw [5] (fun i wr => ((i = .int .i64 (-1) ∧ Hid (showF S Q k0 = S[k0])) ∨ ∃ k : Nat, k < Q.length ∧ i = .int .i64 k ∧ Hid (showF S Q k0 = showF S (Q.take (k + 1)) k0)) ∧ w1 = wr) (fun i _ => (intOf i + 1).toNat)
  case atStart =>
    refine ⟨?_, rfl⟩
    cases hq : Q.length with
    | zero =>
      obtain rfl : Q = [] := List.eq_nil_of_length_eq_zero hq
      exact .inl ⟨rfl, show_nil hk0⟩
    | succ m =>
      refine .inr ⟨m, by omega, by simp, ?_⟩
      show showF S Q k0 = _
      rw [List.take_of_length_le (by omega)]
  case round =>
    obtain ⟨hi, rfl⟩ := hrel
    rcases hi with ⟨rfl, hsh⟩ | ⟨k, hk, rfl, hsh⟩
    · obtain ⟨bS, oS, rfl, -, hbS, hcS⟩ := hlS (by
        intro e
        have := secs_len ok.s64
        rw [e] at this; simp at this; omega)
      have hl64 : (S[k0].map bv).length = 64 := by rw [List.length_map]; exact ok.s64 _ (List.getElem_mem hk0)
      have ldS := A_arr.load (P := Try.prog) (w := w1) (b := bS) (o := oS + k0 * 64) hl64 (fun j v hv => by rw [Nat.add_assoc]; exact hcS _ v (secs_at ok.s64 hk0 j v hv))
      have hst := A_arr.rowStore (P := Try.prog) (cs := S[k0].map bv) rowT hzl hl64 (by rw [ones, List.all_eq_true]; exact fun u hu => bv_one _ u hu)
      have rowF := rowT.setRow (S[k0].map bv)
      have HK : Hid (Keep Nix w (w1.setRow gT (S[k0].map bv).toArray)) := kA.setRow (g := gT) (fun h => by omega) (S[k0].map bv).toArray
      have hkS : (k0 : Int) < (S.length : Int) := by omega
      have hk00 : (0 : Int) ≤ (k0 : Int) := by omega
      have hinfo : (Try.prog.info? 64).map (·.size) = some (S[k0].map bv).toArray.size := by rw [List.size_toArray, hl64]; kernel_rfl
      clear hcS hlQ
      go_wp2_with fail
      refine bodyPost_ret (results_cell_row (by rfl) _ _ _ _ _ _ _ (by rfl) rowF Try.underlying64 (by rfl) hinfo) rfl ?_
      rw [hsh.out]
      exact ⟨rfl, HK.out⟩
    · obtain ⟨bQ, oQ, rfl, -, hbQ, hcQ⟩ := hlQ (by
        intro e
        have := wrts_at (fun q hq => (ok.q64 q hq).1) hk 0 _ rfl
        rw [e] at this; simp at this)
      have hnx : showF S (Q.take (k + 1)) k0 = seen k0 (showF S (Q.take k) k0) Q[k] := by
        unfold showF
        rw [List.take_succ_eq_append_getElem hk, List.foldl_append]; rfl
      have hq64 := (ok.q64 _ (List.getElem_mem hk)).1
      have z0 := hcQ (k * 65) (.int .i64 Q[k].1) (wrts_at (fun q hq => (ok.q64 q hq).1) hk 0 _ rfl)
      have hl64 : (Q[k].2.map bv).length = 64 := by rw [List.length_map]; exact hq64
      have ldQ := A_arr.load (P := Try.prog) (w := w1) (b := bQ) (o := oQ + k * 65 + 1) hl64 (fun j v hv => by rw [show oQ + k * 65 + 1 + j = oQ + (k * 65 + (j + 1)) by omega]; exact hcQ _ v (wrts_at (fun q hq => (ok.q64 q hq).1) hk (j + 1) v hv))
      have hi0 : (0 : Int) ≤ (k : Int) := by omega
      have hi1 : (k : Int) < (Q.length : Int) := by omega
      generalize hq : Q[k] = q at *
      clear hq hcQ
      rcases test_eq q.1 (k0 : Int) with ⟨t1, t2⟩ | ⟨t1, t2⟩
      · have HS : Hid (showF S Q k0 = q.2) := (by show _ = _; rw [hsh.out, hnx]; unfold seen; rw [if_pos t2.out])
        have hst := A_arr.rowStore (P := Try.prog) (cs := q.2.map bv) rowT hzl hl64 (by rw [ones, List.all_eq_true]; exact fun u hu => bv_one _ u hu)
        have rowF := rowT.setRow (q.2.map bv)
        have HK : Hid (Keep Nix w (w1.setRow gT (q.2.map bv).toArray)) := kA.setRow (g := gT) (fun h => by omega) (q.2.map bv).toArray
        have hinfo : (Try.prog.info? 64).map (·.size) = some (q.2.map bv).toArray.size := by rw [List.size_toArray, hl64]; kernel_rfl
        clear hnx t2 hlS hsh
        go_wp2_with fail
        refine bodyPost_ret (results_cell_row (by rfl) _ _ _ _ _ _ _ (by rfl) rowF Try.underlying64 (by rfl) hinfo) rfl ?_
        rw [HS.out]
        exact ⟨rfl, HK.out⟩
      · have HS : Hid (showF S Q k0 = showF S (Q.take k) k0) := (by show _ = _; rw [hsh.out, hnx]; unfold seen; rw [if_neg t2])
        have hw : IntKind.i64.wrap ((k : Int) - 1) = (k : Int) - 1 := by rw [IntKind.wrap_i64]; omega
        clear hnx t2 hlS hsh ldQ
        go_wp2_with fail
        go_roundw
        case rel =>
          refine ⟨?_, trivial⟩
          cases k with
          | zero => exact .inl ⟨rfl, HS.out.trans (show_nil hk0)⟩
          | succ m => exact .inr ⟨m, by omega, by simp, HS.out⟩
        case measure => simp [intOf]
end
end Go.Proofs.Ytdnbpfohmhhmkaa
