/- THE WALKS of package wire's writer on lists and structs. Printed by gen4.py. -/
import Derived.Test.YtabgbleldbapbaaGreatPre
namespace Go.Proofs.YtabgbleldbapbaaGreat
open Go.RowKit

set_option maxRecDepth 100000 in
set_option maxHeartbeats 4000000 in
theorem wl_int (w : World) (r : Nat) (g : Option Nat) (out : List UInt8) (p : Nat → Prop) (a0 : Option Addr) (n ca : Nat) (l : List Int) (hl : rList (rInt .i64) w p [.slice a0 n ca] l) (hw : Wr w 139 r g out p) (hb : out.length + (encL encI l).length ≤ far) :
    Calls Tryz.prog 146 #[.pointer (some ⟨r, 0, none⟩), .slice a0 n ca, .func (.func 88) #[] #[]] w (Puts 139 r p w g (out ++ encL encI l)) := by
  obtain ⟨hn, hnc, hnf⟩ := rList_len hl
  have hfl := far_len
  unfold maxLen at hfl
  have hnm : n ≤ 9223372036854775807 := by omega
  have hw0 : IntKind.u64.wrap (n : Int) = (n : Int) := by rw [IntKind.wrap_u64]; omega
  have hnu : isU64 (n : Int) := by unfold isU64; omega
  have HE : Hid (encL encI l = numB n ++ l.flatMap encI) := by show _ = _; rw [hn]; rfl
  have HB : Hid (out.length + ((numB n).length + (l.flatMap encI).length) ≤ far) := by
    show _ ≤ _
    rw [HE.out, List.length_append] at hb; exact hb
  have HN := Lib.hid hn
  clear hb hnf hn hfl
  go_enter Tryz.func146, Tryz.ntmps146
  go_wp2_with fail
  go_fit (wnumN w r g out p n hw hnu (by have := HB.out; omega))
  rintro e w1 ⟨rfl, g1, wr1, ch1⟩
  clear hw0 hnu
  go_wp2_with fail
  go_loopw [15] (fun i wr => ∃ (k : Nat) (g' : Option Nat), k ≤ n ∧ i = .int .i64 k ∧ Wr wr 139 r g' (out ++ numB n ++ (l.take k).flatMap encI) p ∧ Chain r w g wr g') (fun i _ => n - (intOf i).toNat)
  case atStart => exact ⟨0, g1, by omega, rfl, by simpa using wr1, ch1⟩
  case round =>
    clear wr1 ch1
    obtain ⟨k, gk, hk, rfl, wk, ck⟩ := hrel
    by_cases hlt : k < n
    · have hll : k < l.length := by rw [← HN.out]; exact hlt
      have HS : Hid (out ++ numB n ++ (l.take (k + 1)).flatMap encI = out ++ numB n ++ (l.take k).flatMap encI ++ encI l[k]) := by
        show _ = _
        rw [take_flat encI l k hll]; simp only [List.append_assoc]
      have HBk : Hid ((out ++ numB n ++ (l.take k).flatMap encI).length + (encI l[k]).length ≤ far) := by
        show _ ≤ _
        have h1 := take_flat_len encI l k hll
        have h2 := HB.out
        simp only [List.length_append]; omega
      obtain ⟨b, off, rfl, hcell, hv0⟩ := rInt_cell hl ck.keep hw.free k hll
      have hv := isI64_wf hv0
      have HV := Lib.hid hv
      clear hv0 hv hl hw
      generalize l[k] = v at hcell HBk HS HV
      go_wp2_with fail
      go_fit (wint_c wr r gk _ p v wk HV.out HBk.out)
      rintro e w2 ⟨rfl, g2, wr2, ch2⟩
      clear wk
      have ck2 := ck.trans ch2
      clear ck ch2
      go_wp2
      go_roundw
      case rel => exact ⟨k + 1, g2, by omega, by go_num, by rw [HS.out]; exact wr2, ck2⟩
      case measure => simp [intOf]; omega
    · obtain rfl : k = n := by omega
      have e : l.take k = l := List.take_of_length_le (by rw [← HN.out]; omega)
      rw [e] at wk
      go_wp2_with fail
      go_end0
      exact ⟨rfl, gk, by rw [HE.out, ← List.append_assoc]; exact wk, ck⟩
set_option maxRecDepth 100000 in
set_option maxHeartbeats 4000000 in
theorem wl_num (w : World) (r : Nat) (g : Option Nat) (out : List UInt8) (p : Nat → Prop) (a0 : Option Addr) (n ca : Nat) (l : List Int) (hl : rList (rInt .u64) w p [.slice a0 n ca] l) (hw : Wr w 139 r g out p) (hb : out.length + (encL encU l).length ≤ far) :
    Calls Tryz.prog 89 #[.pointer (some ⟨r, 0, none⟩), .slice a0 n ca, .func (.func 74) #[] #[]] w (Puts 139 r p w g (out ++ encL encU l)) := by
  obtain ⟨hn, hnc, hnf⟩ := rList_len hl
  have hfl := far_len
  unfold maxLen at hfl
  have hnm : n ≤ 9223372036854775807 := by omega
  have hw0 : IntKind.u64.wrap (n : Int) = (n : Int) := by rw [IntKind.wrap_u64]; omega
  have hnu : isU64 (n : Int) := by unfold isU64; omega
  have HE : Hid (encL encU l = numB n ++ l.flatMap encU) := by show _ = _; rw [hn]; rfl
  have HB : Hid (out.length + ((numB n).length + (l.flatMap encU).length) ≤ far) := by
    show _ ≤ _
    rw [HE.out, List.length_append] at hb; exact hb
  have HN := Lib.hid hn
  clear hb hnf hn hfl
  go_enter Tryz.func89, Tryz.ntmps89
  go_wp2_with fail
  go_fit (wnumN w r g out p n hw hnu (by have := HB.out; omega))
  rintro e w1 ⟨rfl, g1, wr1, ch1⟩
  clear hw0 hnu
  go_wp2_with fail
  go_loopw [15] (fun i wr => ∃ (k : Nat) (g' : Option Nat), k ≤ n ∧ i = .int .i64 k ∧ Wr wr 139 r g' (out ++ numB n ++ (l.take k).flatMap encU) p ∧ Chain r w g wr g') (fun i _ => n - (intOf i).toNat)
  case atStart => exact ⟨0, g1, by omega, rfl, by simpa using wr1, ch1⟩
  case round =>
    clear wr1 ch1
    obtain ⟨k, gk, hk, rfl, wk, ck⟩ := hrel
    by_cases hlt : k < n
    · have hll : k < l.length := by rw [← HN.out]; exact hlt
      have HS : Hid (out ++ numB n ++ (l.take (k + 1)).flatMap encU = out ++ numB n ++ (l.take k).flatMap encU ++ encU l[k]) := by
        show _ = _
        rw [take_flat encU l k hll]; simp only [List.append_assoc]
      have HBk : Hid ((out ++ numB n ++ (l.take k).flatMap encU).length + (encU l[k]).length ≤ far) := by
        show _ ≤ _
        have h1 := take_flat_len encU l k hll
        have h2 := HB.out
        simp only [List.length_append]; omega
      obtain ⟨b, off, rfl, hcell, hv0⟩ := rInt_cell hl ck.keep hw.free k hll
      have hv := isU64_wf hv0
      have HV := Lib.hid hv
      clear hv0 hv hl hw
      generalize l[k] = v at hcell HBk HS HV
      go_wp2_with fail
      go_fit (wnum_c wr r gk _ p v wk HV.out HBk.out)
      rintro e w2 ⟨rfl, g2, wr2, ch2⟩
      clear wk
      have ck2 := ck.trans ch2
      clear ck ch2
      go_wp2
      go_roundw
      case rel => exact ⟨k + 1, g2, by omega, by go_num, by rw [HS.out]; exact wr2, ck2⟩
      case measure => simp [intOf]; omega
    · obtain rfl : k = n := by omega
      have e : l.take k = l := List.take_of_length_le (by rw [← HN.out]; omega)
      rw [e] at wk
      go_wp2_with fail
      go_end0
      exact ⟨rfl, gk, by rw [HE.out, ← List.append_assoc]; exact wk, ck⟩
set_option maxRecDepth 100000 in
set_option maxHeartbeats 4000000 in
theorem wl_bytes (w : World) (r : Nat) (g : Option Nat) (out : List UInt8) (p : Nat → Prop) (a0 : Option Addr) (n ca : Nat) (l : List (List UInt8)) (hl : rList rBytes w p [.slice a0 n ca] l) (hw : Wr w 139 r g out p) (hb : out.length + (encL textB l).length ≤ far) :
    Calls Tryz.prog 155 #[.pointer (some ⟨r, 0, none⟩), .slice a0 n ca, .func (.func 75) #[] #[]] w (Puts 139 r p w g (out ++ encL textB l)) := by
  obtain ⟨hn, hnc, hnf⟩ := rList_len hl
  have hfl := far_len
  unfold maxLen at hfl
  have hnm : n ≤ 9223372036854775807 := by omega
  have hw0 : IntKind.u64.wrap (n : Int) = (n : Int) := by rw [IntKind.wrap_u64]; omega
  have hnu : isU64 (n : Int) := by unfold isU64; omega
  have HE : Hid (encL textB l = numB n ++ l.flatMap textB) := by show _ = _; rw [hn]; rfl
  have HB : Hid (out.length + ((numB n).length + (l.flatMap textB).length) ≤ far) := by
    show _ ≤ _
    rw [HE.out, List.length_append] at hb; exact hb
  have HN := Lib.hid hn
  clear hb hnf hn hfl
  go_enter Tryz.func155, Tryz.ntmps155
  go_wp2_with fail
  go_fit (wnumN w r g out p n hw hnu (by have := HB.out; omega))
  rintro e w1 ⟨rfl, g1, wr1, ch1⟩
  clear hw0 hnu
  go_wp2_with fail
  go_loopw [15] (fun i wr => ∃ (k : Nat) (g' : Option Nat), k ≤ n ∧ i = .int .i64 k ∧ Wr wr 139 r g' (out ++ numB n ++ (l.take k).flatMap textB) p ∧ Chain r w g wr g') (fun i _ => n - (intOf i).toNat)
  case atStart => exact ⟨0, g1, by omega, rfl, by simpa using wr1, ch1⟩
  case round =>
    clear wr1 ch1
    obtain ⟨k, gk, hk, rfl, wk, ck⟩ := hrel
    by_cases hlt : k < n
    · have hll : k < l.length := by rw [← HN.out]; exact hlt
      have HS : Hid (out ++ numB n ++ (l.take (k + 1)).flatMap textB = out ++ numB n ++ (l.take k).flatMap textB ++ textB l[k]) := by
        show _ = _
        rw [take_flat textB l k hll]; simp only [List.append_assoc]
      have HBk : Hid ((out ++ numB n ++ (l.take k).flatMap textB).length + (textB l[k]).length ≤ far) := by
        show _ ≤ _
        have h1 := take_flat_len textB l k hll
        have h2 := HB.out
        simp only [List.length_append]; omega
      obtain ⟨b, off, cap, c, h1, h2, h3, ⟨ae, ce, rfl, le, ql, fl⟩, h5⟩ := rList_at rBytes_lawful (by decide) hl k hll
      simp only [List.cons.injEq, Value.slice.injEq, and_true] at h1
      obtain ⟨rfl, -, -⟩ := h1
      have hcell := (ck.keep.cell (p := ⟨b, off + k * 1 + 0, none⟩) h3 (hw.free b h2)).trans (h5 0 _ rfl)
      rw [Nat.mul_one, Nat.add_zero] at hcell
      have le' := le.keep ck.keep hw.free
      have HFL := Lib.hid fl
      clear h5 hl hw le ql fl
      generalize l[k] = v at hcell HBk HS HFL le'
      go_wp2_with fail
      go_fit (wbytes_c wr r gk _ p ae v.length ce v wk rfl le' (by have := HFL.out; have := far_len; omega) HBk.out)
      rintro e w2 ⟨rfl, g2, wr2, ch2⟩
      clear wk le'
      have ck2 := ck.trans ch2
      clear ck ch2
      go_wp2
      go_roundw
      case rel => exact ⟨k + 1, g2, by omega, by go_num, by rw [HS.out]; exact wr2, ck2⟩
      case measure => simp [intOf]; omega
    · obtain rfl : k = n := by omega
      have e : l.take k = l := List.take_of_length_le (by rw [← HN.out]; omega)
      rw [e] at wk
      go_wp2_with fail
      go_end0
      exact ⟨rfl, gk, by rw [HE.out, ← List.append_assoc]; exact wk, ck⟩
set_option maxRecDepth 100000 in
set_option maxHeartbeats 4000000 in
theorem wValue_c (w : World) (r : Nat) (g : Option Nat) (out : List UInt8) (p : Nat → Prop) (x : GValue) (cs : List Value) (hx : rGValue w p cs x) (hw : Wr w 139 r g out p) (hb : out.length + (encGValue x).length ≤ far) :
    Calls Tryz.prog 152 #[.pointer (some ⟨r, 0, none⟩), .agg cs.toArray] w (Puts 139 r p w g (out ++ encGValue x)) := by
  obtain ⟨rfl, h0, h1, h2, -⟩ := rGValue_open hx
  have hw0 := hw.box (.cells #[.int .i64 x.fKind, .int .i64 x.fI, .string (strB x.fS)] 200)
  have row0 : RowIs (w.alloc (.cells #[.int .i64 x.fKind, .int .i64 x.fI, .string (strB x.fS)] 200)) w.heap.size 200 [.int .i64 x.fKind, .int .i64 x.fI, .string (strB x.fS)] := RowIs.alloc w _ _
  replace h0 := Lib.hid h0
  replace h1 := Lib.hid h1
  replace h2 := Lib.hid h2
  have HL : Hid (out.length + ((encI x.fKind).length + (encI x.fI).length + (textB x.fS).length) ≤ far) := by
    show _ ≤ _
    simp only [encGValue, List.length_append] at hb; omega
  have c0 : Chain r (w.alloc (.cells #[.int .i64 x.fKind, .int .i64 x.fI, .string (strB x.fS)] 200)) g (w.alloc (.cells #[.int .i64 x.fKind, .int .i64 x.fI, .string (strB x.fS)] 200)) g := Chain.refl _ _ _
  have cw : Chain r w g (w.alloc (.cells #[.int .i64 x.fKind, .int .i64 x.fI, .string (strB x.fS)] 200)) g := (Chain.refl r w g).alloc _
  clear hb hx hw
  have hi1 : IntKind.i64.wrap x.fI = x.fI := by rw [IntKind.wrap_i64]; have := h1.out; unfold isI64 at this; omega
  go_enter Tryz.func152, Tryz.ntmps152
  go_wp2_with fail
  go_fit (wint_e _ r _ _ _ x.fKind hw0 h0.out (by have := HL.out; omega))
  rintro e w1 ⟨rfl, g1, wr1, ch⟩
  have c1 := c0.trans ch
  clear ch c0
  have x1 : w1.cell? ⟨w.heap.size, 1, none⟩ = some (.int .i64 x.fI) := (row0.go hw0 c1 (.inr rfl)).cell 1
  have hbk : (out ++ encI x.fKind).length + (encI x.fI).length ≤ far := by have := HL.out; simp only [List.length_append]; omega
  have hfin : Hid ((out ++ encI x.fKind).length + ((encI x.fI).length + (textB x.fS).length) ≤ far) := by
    show _ ≤ _
    have := HL.out; simp only [List.length_append]; omega
  have henc : Hid (out ++ encGValue x = out ++ encI x.fKind ++ encI x.fI ++ textB x.fS) := by
    show _ = _
    simp only [encGValue, ← List.append_assoc]
  generalize out ++ encI x.fKind = out1 at wr1 hbk hfin henc
  obtain ⟨a, cap, hc, hf, own, hg, row⟩ := wr1.cell
  have HB : Hid (out1.length + (encI x.fI).length ≤ far) := hbk
  have hpos : 0 < (encI x.fI).length := by have := numB_len (zig x.fI).toNat; unfold encI; omega
  have hne1 : (encI x.fI).map bv ≠ [] := by intro e; rw [List.map_eq_nil_iff] at e; rw [e] at hpos; simp at hpos
  have hne0 : some r ≠ (Value.slice a out1.length cap).ownBlock := by rw [hg]; exact fun e => wr1.ne e.symm
  obtain ⟨i0, z0, hi0, hz0, hz1, hz2, hz3⟩ := T_bytes.info
  clear hbk
  go_wp2_with fail
  go_region_law (first
    | (refine step_append_lies _ (by rfl) _ _ _ (by rfl) 0 _ i0 _ 1 1 Tryz.underlying22 hi0 hz0 hz1 hz2 hz3 (by omega) _ _ _ (by rfl) own1' _ _ _ ((encI x.fI).map bv) (by rfl) (by simp) hb2 (bv_one _)
        hpos (by have := HB.out; have := far_len; omega) (by have := HB.out; have := far_len; omega) (by omega) _ rfl ?_; intro gg cap2 w2 own2 hgrow hat hlt; have hc2 := (hgrow.cell_far ⟨r, 0, none⟩ hlt1 hne0).trans hc1; have hf2 := (hgrow.frozen_far ⟨r, 0, none⟩ hlt1 hne0).trans hf1)
    | (go_simp; go_at_call 143; go_fit (int_i x.fI _ h1.out); rintro e w8 ⟨a1, c9, rfl, own1, k0⟩; have k1 := (Keep.same (Keep.refl Nix w1) (c := w1.drew)).trans k0; clear k0
       obtain ⟨b1, rfl, hb1⟩ := cells_of_owned own1 hne1
       have hb2 : ∀ j u, ((encI x.fI).map bv)[j]? = some u → w8.cell? ((⟨b1, 0, none⟩ : Addr).add j) = some u := fun j u hu => by rw [Addr.add_lit0]; exact hb1.2.2 j u hu
       clear hb1
       have own1' := owned_keep own k1 (fun _ _ => id); have hlt1 := Nat.lt_of_lt_of_le wr1.lt k1.size; have hc1 := (k1.cell (p := ⟨r, 0, none⟩) wr1.lt id).trans hc; have hf1 := (k1.frozen (p := ⟨r, 0, none⟩) wr1.lt id).trans hf
       go_wp2))
  all_goals
    obtain ⟨g', wr', ch'⟩ := wr1.put rfl row hg k1 own2 hgrow hat
    clear own2 own1 own hgrow hat hb2 k1 row wr1 hc hf own1'
    have c3 := c1.trans ch'
    have x2 := (row0.go hw0 c3 (.inr rfl)).cell 2
    simp only [List.getElem?_cons_succ, List.getElem?_cons_zero] at x2
    clear c1 ch' x1
    go_wp2_with fail
    go_fit (wtext_c _ r _ _ _ x.fS wr' h2.out (by have := hfin.out; simp only [List.length_append]; omega))
    rintro e w4 ⟨rfl, g4, wr4, ch4⟩
    have c4 := cw.trans (c3.trans ch4)
    have wr5 := wr4.mono (q := p) PB.of
    clear c3 ch4 wr4 wr' x2 cw
    go_wp2_with fail
    go_end0
    exact ⟨rfl, _, by rw [henc.out]; exact wr5, c4⟩
set_option maxRecDepth 100000 in
set_option maxHeartbeats 4000000 in
theorem wl_Value (w : World) (r : Nat) (g : Option Nat) (out : List UInt8) (p : Nat → Prop) (a0 : Option Addr) (n ca : Nat) (l : List GValue) (hl : rList rGValue w p [.slice a0 n ca] l) (hw : Wr w 139 r g out p) (hb : out.length + (encL encGValue l).length ≤ far) :
    Calls Tryz.prog 151 #[.pointer (some ⟨r, 0, none⟩), .slice a0 n ca, .func (.func 152) #[] #[]] w (Puts 139 r p w g (out ++ encL encGValue l)) := by
  obtain ⟨hn, hnc, hnf⟩ := rList_len hl
  have hfl := far_len
  unfold maxLen at hfl
  have hnm : n ≤ 9223372036854775807 := by omega
  have hw0 : IntKind.u64.wrap (n : Int) = (n : Int) := by rw [IntKind.wrap_u64]; omega
  have hnu : isU64 (n : Int) := by unfold isU64; omega
  have HE : Hid (encL encGValue l = numB n ++ l.flatMap encGValue) := by show _ = _; rw [hn]; rfl
  have HB : Hid (out.length + ((numB n).length + (l.flatMap encGValue).length) ≤ far) := by
    show _ ≤ _
    rw [HE.out, List.length_append] at hb; exact hb
  have HN := Lib.hid hn
  clear hb hnf hn hfl
  go_enter Tryz.func151, Tryz.ntmps151
  go_wp2_with fail
  go_fit (wnumN w r g out p n hw hnu (by have := HB.out; omega))
  rintro e w1 ⟨rfl, g1, wr1, ch1⟩
  clear hw0 hnu
  go_wp2_with fail
  go_loopw [15] (fun i wr => ∃ (k : Nat) (g' : Option Nat), k ≤ n ∧ i = .int .i64 k ∧ Wr wr 139 r g' (out ++ numB n ++ (l.take k).flatMap encGValue) p ∧ Chain r w g wr g') (fun i _ => n - (intOf i).toNat)
  case atStart => exact ⟨0, g1, by omega, rfl, by simpa using wr1, ch1⟩
  case round =>
    clear wr1 ch1
    obtain ⟨k, gk, hk, rfl, wk, ck⟩ := hrel
    by_cases hlt : k < n
    · have hll : k < l.length := by rw [← HN.out]; exact hlt
      have HS : Hid (out ++ numB n ++ (l.take (k + 1)).flatMap encGValue = out ++ numB n ++ (l.take k).flatMap encGValue ++ encGValue l[k]) := by
        show _ = _
        rw [take_flat encGValue l k hll]; simp only [List.append_assoc]
      have HBk : Hid ((out ++ numB n ++ (l.take k).flatMap encGValue).length + (encGValue l[k]).length ≤ far) := by
        show _ ≤ _
        have h1 := take_flat_len encGValue l k hll
        have h2 := HB.out
        simp only [List.length_append]; omega
      obtain ⟨b, off, cap, c, h1, h2, h3, hx, h5⟩ := rList_at rGValue_lawful (by decide) hl k hll
      simp only [List.cons.injEq, Value.slice.injEq, and_true] at h1
      obtain ⟨rfl, -, -⟩ := h1
      have hx' := rGValue_lawful.keep hx ck.keep hw.free
      have hlt2 := Nat.lt_of_lt_of_le h3 ck.keep.size
      have hcl := rGValue_lawful.len hx
      have hrng : ∀ (j : Nat) (u : Value), c[j]? = some u → wr.cell? ⟨b, off + k * 3 + j, none⟩ = some u := fun j u hu => (ck.keep.cell (p := ⟨b, off + k * 3 + j, none⟩) h3 (hw.free b h2)).trans (h5 j u hu)
      clear h5 hl hx
      obtain ⟨rfl, -⟩ := rGValue_open hx'
      have x0 : wr.cell? ⟨b, off + k * 3, none⟩ = some (.int .i64 l[k].fKind) := hrng 0 _ rfl
      have x1 : wr.cell? ⟨b, off + k * 3 + 1, none⟩ = some (.int .i64 l[k].fI) := hrng 1 _ rfl
      have x2 : wr.cell? ⟨b, off + k * 3 + 2, none⟩ = some (.string (strB l[k].fS)) := hrng 2 _ rfl
      clear hrng
      generalize l[k] = v at *
      have wk3 := wk.box (.cells #[.int .i64 v.fKind, .int .i64 v.fI, .string (strB v.fS)] 200)
      have hx3 := rGValue_lawful.box hx' (.cells #[.int .i64 v.fKind, .int .i64 v.fI, .string (strB v.fS)] 200)
      clear hx' wk hw
      go_wp2_with fail
      go_fit (wValue_c _ r gk _ _ v _ hx3 wk3 HBk.out)
      rintro e w2 ⟨rfl, g2, wr4, ch4⟩
      have wr2 := wr4.mono (q := p) PB.of
      have ch2 := ((Chain.refl r wr gk).alloc (.cells #[.int .i64 v.fKind, .int .i64 v.fI, .string (strB v.fS)] 200)).trans ch4
      clear wr4 ch4 hx3 wk3 x0 x1 x2
      have ck2 := ck.trans ch2
      clear ck ch2
      go_wp2
      go_roundw
      case rel => exact ⟨k + 1, g2, by omega, by go_num, by rw [HS.out]; exact wr2, ck2⟩
      case measure => simp [intOf]; omega
    · obtain rfl : k = n := by omega
      have e : l.take k = l := List.take_of_length_le (by rw [← HN.out]; omega)
      rw [e] at wk
      go_wp2_with fail
      go_end0
      exact ⟨rfl, gk, by rw [HE.out, ← List.append_assoc]; exact wk, ck⟩
set_option maxRecDepth 100000 in
set_option maxHeartbeats 4000000 in
theorem wColumn_c (w : World) (r : Nat) (g : Option Nat) (out : List UInt8) (p : Nat → Prop) (x : GColumn) (cs : List Value) (hx : rGColumn w p cs x) (hw : Wr w 139 r g out p) (hb : out.length + (encGColumn x).length ≤ far) :
    Calls Tryz.prog 145 #[.pointer (some ⟨r, 0, none⟩), .agg cs.toArray] w (Puts 139 r p w g (out ++ encGColumn x)) := by
  obtain ⟨rfl, h0, h1, -⟩ := rGColumn_open hx
  have hw0 := hw.box (.cells #[.string (strB x.fName), .int .i64 x.fKind, .bool x.fNull] 190)
  have row0 : RowIs (w.alloc (.cells #[.string (strB x.fName), .int .i64 x.fKind, .bool x.fNull] 190)) w.heap.size 190 [.string (strB x.fName), .int .i64 x.fKind, .bool x.fNull] := RowIs.alloc w _ _
  replace h0 := Lib.hid h0
  replace h1 := Lib.hid h1
  have HL : Hid (out.length + ((textB x.fName).length + (encI x.fKind).length + (encF x.fNull).length) ≤ far) := by
    show _ ≤ _
    simp only [encGColumn, List.length_append] at hb; omega
  have c0 : Chain r (w.alloc (.cells #[.string (strB x.fName), .int .i64 x.fKind, .bool x.fNull] 190)) g (w.alloc (.cells #[.string (strB x.fName), .int .i64 x.fKind, .bool x.fNull] 190)) g := Chain.refl _ _ _
  have cw : Chain r w g (w.alloc (.cells #[.string (strB x.fName), .int .i64 x.fKind, .bool x.fNull] 190)) g := (Chain.refl r w g).alloc _
  clear hb hx hw
  go_enter Tryz.func145, Tryz.ntmps145
  go_wp2_with fail
  go_fit (wtext_c _ r _ _ _ x.fName hw0 h0.out (by have := HL.out; (try simp only [List.length_append]); omega))
  rintro e w1 ⟨rfl, g1, wr1, ch⟩
  have c1 := c0.trans ch
  clear ch
  replace c0 := c1
  clear c1
  have x1 : w1.cell? ⟨w.heap.size, 1, none⟩ = some (.int .i64 x.fKind) := (row0.go hw0 c0 (.inr rfl)).cell 1
  go_wp2_with fail
  go_fit (wint_e _ r _ _ _ x.fKind wr1 h1.out (by have := HL.out; (try simp only [List.length_append]); omega))
  rintro e w2 ⟨rfl, g2, wr2, ch⟩
  have c2 := c0.trans ch
  clear ch
  clear wr1
  replace c0 := c2
  clear c2 x1
  have x2 : w2.cell? ⟨w.heap.size, 2, none⟩ = some (.bool x.fNull) := (row0.go hw0 c0 (.inr rfl)).cell 2
  go_wp2_with fail
  go_fit (wflag_c _ r _ _ _ x.fNull wr2 (by have := HL.out; (try simp only [List.length_append]); omega))
  rintro e w3 ⟨rfl, g3, wr3, ch⟩
  have c3 := c0.trans ch
  clear ch
  clear wr2
  replace c0 := c3
  clear c3 x2
  go_wp2_with fail
  go_end0
  refine ⟨rfl, _, ?_, cw.trans c0⟩
  simp only [encGColumn, ← List.append_assoc]
  exact wr3.mono PB.of
set_option maxRecDepth 100000 in
set_option maxHeartbeats 4000000 in
theorem wl_Column (w : World) (r : Nat) (g : Option Nat) (out : List UInt8) (p : Nat → Prop) (a0 : Option Addr) (n ca : Nat) (l : List GColumn) (hl : rList rGColumn w p [.slice a0 n ca] l) (hw : Wr w 139 r g out p) (hb : out.length + (encL encGColumn l).length ≤ far) :
    Calls Tryz.prog 144 #[.pointer (some ⟨r, 0, none⟩), .slice a0 n ca, .func (.func 145) #[] #[]] w (Puts 139 r p w g (out ++ encL encGColumn l)) := by
  obtain ⟨hn, hnc, hnf⟩ := rList_len hl
  have hfl := far_len
  unfold maxLen at hfl
  have hnm : n ≤ 9223372036854775807 := by omega
  have hw0 : IntKind.u64.wrap (n : Int) = (n : Int) := by rw [IntKind.wrap_u64]; omega
  have hnu : isU64 (n : Int) := by unfold isU64; omega
  have HE : Hid (encL encGColumn l = numB n ++ l.flatMap encGColumn) := by show _ = _; rw [hn]; rfl
  have HB : Hid (out.length + ((numB n).length + (l.flatMap encGColumn).length) ≤ far) := by
    show _ ≤ _
    rw [HE.out, List.length_append] at hb; exact hb
  have HN := Lib.hid hn
  clear hb hnf hn hfl
  go_enter Tryz.func144, Tryz.ntmps144
  go_wp2_with fail
  go_fit (wnumN w r g out p n hw hnu (by have := HB.out; omega))
  rintro e w1 ⟨rfl, g1, wr1, ch1⟩
  clear hw0 hnu
  go_wp2_with fail
  go_loopw [15] (fun i wr => ∃ (k : Nat) (g' : Option Nat), k ≤ n ∧ i = .int .i64 k ∧ Wr wr 139 r g' (out ++ numB n ++ (l.take k).flatMap encGColumn) p ∧ Chain r w g wr g') (fun i _ => n - (intOf i).toNat)
  case atStart => exact ⟨0, g1, by omega, rfl, by simpa using wr1, ch1⟩
  case round =>
    clear wr1 ch1
    obtain ⟨k, gk, hk, rfl, wk, ck⟩ := hrel
    by_cases hlt : k < n
    · have hll : k < l.length := by rw [← HN.out]; exact hlt
      have HS : Hid (out ++ numB n ++ (l.take (k + 1)).flatMap encGColumn = out ++ numB n ++ (l.take k).flatMap encGColumn ++ encGColumn l[k]) := by
        show _ = _
        rw [take_flat encGColumn l k hll]; simp only [List.append_assoc]
      have HBk : Hid ((out ++ numB n ++ (l.take k).flatMap encGColumn).length + (encGColumn l[k]).length ≤ far) := by
        show _ ≤ _
        have h1 := take_flat_len encGColumn l k hll
        have h2 := HB.out
        simp only [List.length_append]; omega
      obtain ⟨b, off, cap, c, h1, h2, h3, hx, h5⟩ := rList_at rGColumn_lawful (by decide) hl k hll
      simp only [List.cons.injEq, Value.slice.injEq, and_true] at h1
      obtain ⟨rfl, -, -⟩ := h1
      have hx' := rGColumn_lawful.keep hx ck.keep hw.free
      have hlt2 := Nat.lt_of_lt_of_le h3 ck.keep.size
      have hcl := rGColumn_lawful.len hx
      have hrng : ∀ (j : Nat) (u : Value), c[j]? = some u → wr.cell? ⟨b, off + k * 3 + j, none⟩ = some u := fun j u hu => (ck.keep.cell (p := ⟨b, off + k * 3 + j, none⟩) h3 (hw.free b h2)).trans (h5 j u hu)
      clear h5 hl hx
      obtain ⟨rfl, -⟩ := rGColumn_open hx'
      have x0 : wr.cell? ⟨b, off + k * 3, none⟩ = some (.string (strB l[k].fName)) := hrng 0 _ rfl
      have x1 : wr.cell? ⟨b, off + k * 3 + 1, none⟩ = some (.int .i64 l[k].fKind) := hrng 1 _ rfl
      have x2 : wr.cell? ⟨b, off + k * 3 + 2, none⟩ = some (.bool l[k].fNull) := hrng 2 _ rfl
      clear hrng
      generalize l[k] = v at *
      have wk3 := wk.box (.cells #[.string (strB v.fName), .int .i64 v.fKind, .bool v.fNull] 190)
      have hx3 := rGColumn_lawful.box hx' (.cells #[.string (strB v.fName), .int .i64 v.fKind, .bool v.fNull] 190)
      clear hx' wk hw
      go_wp2_with fail
      go_fit (wColumn_c _ r gk _ _ v _ hx3 wk3 HBk.out)
      rintro e w2 ⟨rfl, g2, wr4, ch4⟩
      have wr2 := wr4.mono (q := p) PB.of
      have ch2 := ((Chain.refl r wr gk).alloc (.cells #[.string (strB v.fName), .int .i64 v.fKind, .bool v.fNull] 190)).trans ch4
      clear wr4 ch4 hx3 wk3 x0 x1 x2
      have ck2 := ck.trans ch2
      clear ck ch2
      go_wp2
      go_roundw
      case rel => exact ⟨k + 1, g2, by omega, by go_num, by rw [HS.out]; exact wr2, ck2⟩
      case measure => simp [intOf]; omega
    · obtain rfl : k = n := by omega
      have e : l.take k = l := List.take_of_length_le (by rw [← HN.out]; omega)
      rw [e] at wk
      go_wp2_with fail
      go_end0
      exact ⟨rfl, gk, by rw [HE.out, ← List.append_assoc]; exact wk, ck⟩
set_option maxRecDepth 100000 in
set_option maxHeartbeats 4000000 in
theorem wTable_c (w : World) (r : Nat) (g : Option Nat) (out : List UInt8) (p : Nat → Prop) (x : GTable) (cs : List Value) (hx : rGTable w p cs x) (hw : Wr w 139 r g out p) (hb : out.length + (encGTable x).length ≤ far) :
    Calls Tryz.prog 85 #[.pointer (some ⟨r, 0, none⟩), .agg cs.toArray] w (Puts 139 r p w g (out ++ encGTable x)) := by
  obtain ⟨aColumns, cColumns, aKey, cKey, rfl, h0, h1, h2, h3, -⟩ := rGTable_open hx
  have hw0 := hw.box (.cells #[.int .i64 x.fID, .string (strB x.fName), .slice aColumns x.fColumns.length cColumns, .slice aKey x.fKey.length cKey] 39)
  have row0 : RowIs (w.alloc (.cells #[.int .i64 x.fID, .string (strB x.fName), .slice aColumns x.fColumns.length cColumns, .slice aKey x.fKey.length cKey] 39)) w.heap.size 39 [.int .i64 x.fID, .string (strB x.fName), .slice aColumns x.fColumns.length cColumns, .slice aKey x.fKey.length cKey] := RowIs.alloc w _ _
  replace h0 := Lib.hid h0
  replace h1 := Lib.hid h1
  replace h2 := (rList_lawful rGColumn_lawful).box h2 (.cells #[.int .i64 x.fID, .string (strB x.fName), .slice aColumns x.fColumns.length cColumns, .slice aKey x.fKey.length cKey] 39)
  replace h2 := Lib.hid h2
  replace h3 := (rList_lawful (rInt_lawful _)).box h3 (.cells #[.int .i64 x.fID, .string (strB x.fName), .slice aColumns x.fColumns.length cColumns, .slice aKey x.fKey.length cKey] 39)
  replace h3 := Lib.hid h3
  have HL : Hid (out.length + ((encI x.fID).length + (textB x.fName).length + (encL encGColumn x.fColumns).length + (encL encI x.fKey).length) ≤ far) := by
    show _ ≤ _
    simp only [encGTable, List.length_append] at hb; omega
  have c0 : Chain r (w.alloc (.cells #[.int .i64 x.fID, .string (strB x.fName), .slice aColumns x.fColumns.length cColumns, .slice aKey x.fKey.length cKey] 39)) g (w.alloc (.cells #[.int .i64 x.fID, .string (strB x.fName), .slice aColumns x.fColumns.length cColumns, .slice aKey x.fKey.length cKey] 39)) g := Chain.refl _ _ _
  have cw : Chain r w g (w.alloc (.cells #[.int .i64 x.fID, .string (strB x.fName), .slice aColumns x.fColumns.length cColumns, .slice aKey x.fKey.length cKey] 39)) g := (Chain.refl r w g).alloc _
  clear hb hx hw
  go_enter Tryz.func85, Tryz.ntmps85
  go_wp2_with fail
  go_fit (wint_e _ r _ _ _ x.fID hw0 h0.out (by have := HL.out; (try simp only [List.length_append]); omega))
  rintro e w1 ⟨rfl, g1, wr1, ch⟩
  have c1 := c0.trans ch
  clear ch
  replace c0 := c1
  clear c1
  have x1 : w1.cell? ⟨w.heap.size, 1, none⟩ = some (.string (strB x.fName)) := (row0.go hw0 c0 (.inr rfl)).cell 1
  go_wp2_with fail
  go_fit (wtext_c _ r _ _ _ x.fName wr1 h1.out (by have := HL.out; (try simp only [List.length_append]); omega))
  rintro e w2 ⟨rfl, g2, wr2, ch⟩
  have c2 := c0.trans ch
  clear ch
  clear wr1
  replace c0 := c2
  clear c2 x1
  have x2 : w2.cell? ⟨w.heap.size, 2, none⟩ = some (.slice aColumns x.fColumns.length cColumns) := (row0.go hw0 c0 (.inr rfl)).cell 2
  go_wp2_with fail
  go_fit (wl_Column _ r _ _ _ aColumns _ cColumns x.fColumns ((rList_lawful rGColumn_lawful).go h2.out hw0 c0) wr2 (by have := HL.out; (try simp only [List.length_append]); omega))
  rintro e w3 ⟨rfl, g3, wr3, ch⟩
  have c3 := c0.trans ch
  clear ch
  clear wr2
  replace c0 := c3
  clear c3 x2
  have x3 : w3.cell? ⟨w.heap.size, 3, none⟩ = some (.slice aKey x.fKey.length cKey) := (row0.go hw0 c0 (.inr rfl)).cell 3
  go_wp2_with fail
  go_fit (wl_int _ r _ _ _ aKey _ cKey x.fKey ((rList_lawful (rInt_lawful _)).go h3.out hw0 c0) wr3 (by have := HL.out; (try simp only [List.length_append]); omega))
  rintro e w4 ⟨rfl, g4, wr4, ch⟩
  have c4 := c0.trans ch
  clear ch
  clear wr3
  replace c0 := c4
  clear c4 x3
  go_wp2_with fail
  go_end0
  refine ⟨rfl, _, ?_, cw.trans c0⟩
  simp only [encGTable, ← List.append_assoc]
  exact wr4.mono PB.of
set_option maxRecDepth 100000 in
set_option maxHeartbeats 4000000 in
theorem wl_Table (w : World) (r : Nat) (g : Option Nat) (out : List UInt8) (p : Nat → Prop) (a0 : Option Addr) (n ca : Nat) (l : List GTable) (hl : rList rGTable w p [.slice a0 n ca] l) (hw : Wr w 139 r g out p) (hb : out.length + (encL encGTable l).length ≤ far) :
    Calls Tryz.prog 147 #[.pointer (some ⟨r, 0, none⟩), .slice a0 n ca, .func (.func 85) #[] #[]] w (Puts 139 r p w g (out ++ encL encGTable l)) := by
  obtain ⟨hn, hnc, hnf⟩ := rList_len hl
  have hfl := far_len
  unfold maxLen at hfl
  have hnm : n ≤ 9223372036854775807 := by omega
  have hw0 : IntKind.u64.wrap (n : Int) = (n : Int) := by rw [IntKind.wrap_u64]; omega
  have hnu : isU64 (n : Int) := by unfold isU64; omega
  have HE : Hid (encL encGTable l = numB n ++ l.flatMap encGTable) := by show _ = _; rw [hn]; rfl
  have HB : Hid (out.length + ((numB n).length + (l.flatMap encGTable).length) ≤ far) := by
    show _ ≤ _
    rw [HE.out, List.length_append] at hb; exact hb
  have HN := Lib.hid hn
  clear hb hnf hn hfl
  go_enter Tryz.func147, Tryz.ntmps147
  go_wp2_with fail
  go_fit (wnumN w r g out p n hw hnu (by have := HB.out; omega))
  rintro e w1 ⟨rfl, g1, wr1, ch1⟩
  clear hw0 hnu
  go_wp2_with fail
  go_loopw [15] (fun i wr => ∃ (k : Nat) (g' : Option Nat), k ≤ n ∧ i = .int .i64 k ∧ Wr wr 139 r g' (out ++ numB n ++ (l.take k).flatMap encGTable) p ∧ Chain r w g wr g') (fun i _ => n - (intOf i).toNat)
  case atStart => exact ⟨0, g1, by omega, rfl, by simpa using wr1, ch1⟩
  case round =>
    clear wr1 ch1
    obtain ⟨k, gk, hk, rfl, wk, ck⟩ := hrel
    by_cases hlt : k < n
    · have hll : k < l.length := by rw [← HN.out]; exact hlt
      have HS : Hid (out ++ numB n ++ (l.take (k + 1)).flatMap encGTable = out ++ numB n ++ (l.take k).flatMap encGTable ++ encGTable l[k]) := by
        show _ = _
        rw [take_flat encGTable l k hll]; simp only [List.append_assoc]
      have HBk : Hid ((out ++ numB n ++ (l.take k).flatMap encGTable).length + (encGTable l[k]).length ≤ far) := by
        show _ ≤ _
        have h1 := take_flat_len encGTable l k hll
        have h2 := HB.out
        simp only [List.length_append]; omega
      obtain ⟨b, off, cap, c, h1, h2, h3, hx, h5⟩ := rList_at rGTable_lawful (by decide) hl k hll
      simp only [List.cons.injEq, Value.slice.injEq, and_true] at h1
      obtain ⟨rfl, -, -⟩ := h1
      have hx' := rGTable_lawful.keep hx ck.keep hw.free
      have hlt2 := Nat.lt_of_lt_of_le h3 ck.keep.size
      have hcl := rGTable_lawful.len hx
      have hrng : ∀ (j : Nat) (u : Value), c[j]? = some u → wr.cell? ⟨b, off + k * 4 + j, none⟩ = some u := fun j u hu => (ck.keep.cell (p := ⟨b, off + k * 4 + j, none⟩) h3 (hw.free b h2)).trans (h5 j u hu)
      clear h5 hl hx
      obtain ⟨aColumns, cColumns, aKey, cKey, rfl, -⟩ := rGTable_open hx'
      have x0 : wr.cell? ⟨b, off + k * 4, none⟩ = some (.int .i64 l[k].fID) := hrng 0 _ rfl
      have x1 : wr.cell? ⟨b, off + k * 4 + 1, none⟩ = some (.string (strB l[k].fName)) := hrng 1 _ rfl
      have x2 : wr.cell? ⟨b, off + k * 4 + 2, none⟩ = some (.slice aColumns l[k].fColumns.length cColumns) := hrng 2 _ rfl
      have x3 : wr.cell? ⟨b, off + k * 4 + 3, none⟩ = some (.slice aKey l[k].fKey.length cKey) := hrng 3 _ rfl
      clear hrng
      generalize l[k] = v at *
      have wk3 := wk.box (.cells #[.int .i64 v.fID, .string (strB v.fName), .slice aColumns v.fColumns.length cColumns, .slice aKey v.fKey.length cKey] 39)
      have hx3 := rGTable_lawful.box hx' (.cells #[.int .i64 v.fID, .string (strB v.fName), .slice aColumns v.fColumns.length cColumns, .slice aKey v.fKey.length cKey] 39)
      clear hx' wk hw
      go_wp2_with fail
      go_fit (wTable_c _ r gk _ _ v _ hx3 wk3 HBk.out)
      rintro e w2 ⟨rfl, g2, wr4, ch4⟩
      have wr2 := wr4.mono (q := p) PB.of
      have ch2 := ((Chain.refl r wr gk).alloc (.cells #[.int .i64 v.fID, .string (strB v.fName), .slice aColumns v.fColumns.length cColumns, .slice aKey v.fKey.length cKey] 39)).trans ch4
      clear wr4 ch4 hx3 wk3 x0 x1 x2 x3
      have ck2 := ck.trans ch2
      clear ck ch2
      go_wp2
      go_roundw
      case rel => exact ⟨k + 1, g2, by omega, by go_num, by rw [HS.out]; exact wr2, ck2⟩
      case measure => simp [intOf]; omega
    · obtain rfl : k = n := by omega
      have e : l.take k = l := List.take_of_length_le (by rw [← HN.out]; omega)
      rw [e] at wk
      go_wp2_with fail
      go_end0
      exact ⟨rfl, gk, by rw [HE.out, ← List.append_assoc]; exact wk, ck⟩
set_option maxRecDepth 100000 in
set_option maxHeartbeats 4000000 in
theorem wIndex_c (w : World) (r : Nat) (g : Option Nat) (out : List UInt8) (p : Nat → Prop) (x : GIndex) (cs : List Value) (hx : rGIndex w p cs x) (hw : Wr w 139 r g out p) (hb : out.length + (encGIndex x).length ≤ far) :
    Calls Tryz.prog 86 #[.pointer (some ⟨r, 0, none⟩), .agg cs.toArray] w (Puts 139 r p w g (out ++ encGIndex x)) := by
  obtain ⟨aColumns, cColumns, rfl, h0, h1, h2, h3, h5, -⟩ := rGIndex_open hx
  have hw0 := hw.box (.cells #[.int .i64 x.fID, .int .i64 x.fTable, .string (strB x.fName), .slice aColumns x.fColumns.length cColumns, .bool x.fUnique, .int .i64 x.fState, .bool x.fBad] 41)
  have row0 : RowIs (w.alloc (.cells #[.int .i64 x.fID, .int .i64 x.fTable, .string (strB x.fName), .slice aColumns x.fColumns.length cColumns, .bool x.fUnique, .int .i64 x.fState, .bool x.fBad] 41)) w.heap.size 41 [.int .i64 x.fID, .int .i64 x.fTable, .string (strB x.fName), .slice aColumns x.fColumns.length cColumns, .bool x.fUnique, .int .i64 x.fState, .bool x.fBad] := RowIs.alloc w _ _
  replace h0 := Lib.hid h0
  replace h1 := Lib.hid h1
  replace h2 := Lib.hid h2
  replace h3 := (rList_lawful (rInt_lawful _)).box h3 (.cells #[.int .i64 x.fID, .int .i64 x.fTable, .string (strB x.fName), .slice aColumns x.fColumns.length cColumns, .bool x.fUnique, .int .i64 x.fState, .bool x.fBad] 41)
  replace h3 := Lib.hid h3
  replace h5 := Lib.hid h5
  have HL : Hid (out.length + ((encI x.fID).length + (encI x.fTable).length + (textB x.fName).length + (encL encI x.fColumns).length + (encF x.fUnique).length + (encI x.fState).length + (encF x.fBad).length) ≤ far) := by
    show _ ≤ _
    simp only [encGIndex, List.length_append] at hb; omega
  have c0 : Chain r (w.alloc (.cells #[.int .i64 x.fID, .int .i64 x.fTable, .string (strB x.fName), .slice aColumns x.fColumns.length cColumns, .bool x.fUnique, .int .i64 x.fState, .bool x.fBad] 41)) g (w.alloc (.cells #[.int .i64 x.fID, .int .i64 x.fTable, .string (strB x.fName), .slice aColumns x.fColumns.length cColumns, .bool x.fUnique, .int .i64 x.fState, .bool x.fBad] 41)) g := Chain.refl _ _ _
  have cw : Chain r w g (w.alloc (.cells #[.int .i64 x.fID, .int .i64 x.fTable, .string (strB x.fName), .slice aColumns x.fColumns.length cColumns, .bool x.fUnique, .int .i64 x.fState, .bool x.fBad] 41)) g := (Chain.refl r w g).alloc _
  clear hb hx hw
  go_enter Tryz.func86, Tryz.ntmps86
  go_wp2_with fail
  go_fit (wints_c _ r _ _ _ _ 2 2 [x.fID, x.fTable] (ints_arg _ [x.fID, x.fTable] (by simp only [List.forall_mem_cons, List.not_mem_nil, false_implies, implies_true, and_true]; exact ⟨h0.out, h1.out⟩) (by show 2 ≤ far; decide) _ _ (.inr rfl) (w.heap.size + 1) (by simp)) (hw0.box _) (by have := HL.out; simp only [List.length_append, List.flatMap_cons, List.flatMap_nil, List.append_nil]; omega))
  rintro e w1 ⟨rfl, g1, wq, ch⟩
  have wr1 := wq.mono PB.of
  simp only [List.flatMap_cons, List.flatMap_nil, List.append_nil, ← List.append_assoc] at wr1
  have c1 := (c0.alloc _).trans ch
  clear wq ch
  replace c0 := c1
  clear c1
  have x2 : w1.cell? ⟨w.heap.size, 2, none⟩ = some (.string (strB x.fName)) := (row0.go hw0 c0 (.inr rfl)).cell 2
  go_wp2_with fail
  go_fit (wtext_c _ r _ _ _ x.fName wr1 h2.out (by have := HL.out; (try simp only [List.length_append]); omega))
  rintro e w2 ⟨rfl, g2, wr2, ch⟩
  have c2 := c0.trans ch
  clear ch
  clear wr1
  replace c0 := c2
  clear c2 x2
  have x3 : w2.cell? ⟨w.heap.size, 3, none⟩ = some (.slice aColumns x.fColumns.length cColumns) := (row0.go hw0 c0 (.inr rfl)).cell 3
  go_wp2_with fail
  go_fit (wl_int _ r _ _ _ aColumns _ cColumns x.fColumns ((rList_lawful (rInt_lawful _)).go h3.out hw0 c0) wr2 (by have := HL.out; (try simp only [List.length_append]); omega))
  rintro e w3 ⟨rfl, g3, wr3, ch⟩
  have c3 := c0.trans ch
  clear ch
  clear wr2
  replace c0 := c3
  clear c3 x3
  have x4 : w3.cell? ⟨w.heap.size, 4, none⟩ = some (.bool x.fUnique) := (row0.go hw0 c0 (.inr rfl)).cell 4
  go_wp2_with fail
  go_fit (wflag_c _ r _ _ _ x.fUnique wr3 (by have := HL.out; (try simp only [List.length_append]); omega))
  rintro e w4 ⟨rfl, g4, wr4, ch⟩
  have c4 := c0.trans ch
  clear ch
  clear wr3
  replace c0 := c4
  clear c4 x4
  have x5 : w4.cell? ⟨w.heap.size, 5, none⟩ = some (.int .i64 x.fState) := (row0.go hw0 c0 (.inr rfl)).cell 5
  go_wp2_with fail
  go_fit (wint_e _ r _ _ _ x.fState wr4 h5.out (by have := HL.out; (try simp only [List.length_append]); omega))
  rintro e w5 ⟨rfl, g5, wr5, ch⟩
  have c5 := c0.trans ch
  clear ch
  clear wr4
  replace c0 := c5
  clear c5 x5
  have x6 : w5.cell? ⟨w.heap.size, 6, none⟩ = some (.bool x.fBad) := (row0.go hw0 c0 (.inr rfl)).cell 6
  go_wp2_with fail
  go_fit (wflag_c _ r _ _ _ x.fBad wr5 (by have := HL.out; (try simp only [List.length_append]); omega))
  rintro e w6 ⟨rfl, g6, wr6, ch⟩
  have c6 := c0.trans ch
  clear ch
  clear wr5
  replace c0 := c6
  clear c6 x6
  go_wp2_with fail
  go_end0
  refine ⟨rfl, _, ?_, cw.trans c0⟩
  simp only [encGIndex, ← List.append_assoc]
  exact wr6.mono PB.of
set_option maxRecDepth 100000 in
set_option maxHeartbeats 4000000 in
theorem wl_Index (w : World) (r : Nat) (g : Option Nat) (out : List UInt8) (p : Nat → Prop) (a0 : Option Addr) (n ca : Nat) (l : List GIndex) (hl : rList rGIndex w p [.slice a0 n ca] l) (hw : Wr w 139 r g out p) (hb : out.length + (encL encGIndex l).length ≤ far) :
    Calls Tryz.prog 148 #[.pointer (some ⟨r, 0, none⟩), .slice a0 n ca, .func (.func 86) #[] #[]] w (Puts 139 r p w g (out ++ encL encGIndex l)) := by
  obtain ⟨hn, hnc, hnf⟩ := rList_len hl
  have hfl := far_len
  unfold maxLen at hfl
  have hnm : n ≤ 9223372036854775807 := by omega
  have hw0 : IntKind.u64.wrap (n : Int) = (n : Int) := by rw [IntKind.wrap_u64]; omega
  have hnu : isU64 (n : Int) := by unfold isU64; omega
  have HE : Hid (encL encGIndex l = numB n ++ l.flatMap encGIndex) := by show _ = _; rw [hn]; rfl
  have HB : Hid (out.length + ((numB n).length + (l.flatMap encGIndex).length) ≤ far) := by
    show _ ≤ _
    rw [HE.out, List.length_append] at hb; exact hb
  have HN := Lib.hid hn
  clear hb hnf hn hfl
  go_enter Tryz.func148, Tryz.ntmps148
  go_wp2_with fail
  go_fit (wnumN w r g out p n hw hnu (by have := HB.out; omega))
  rintro e w1 ⟨rfl, g1, wr1, ch1⟩
  clear hw0 hnu
  go_wp2_with fail
  go_loopw [15] (fun i wr => ∃ (k : Nat) (g' : Option Nat), k ≤ n ∧ i = .int .i64 k ∧ Wr wr 139 r g' (out ++ numB n ++ (l.take k).flatMap encGIndex) p ∧ Chain r w g wr g') (fun i _ => n - (intOf i).toNat)
  case atStart => exact ⟨0, g1, by omega, rfl, by simpa using wr1, ch1⟩
  case round =>
    clear wr1 ch1
    obtain ⟨k, gk, hk, rfl, wk, ck⟩ := hrel
    by_cases hlt : k < n
    · have hll : k < l.length := by rw [← HN.out]; exact hlt
      have HS : Hid (out ++ numB n ++ (l.take (k + 1)).flatMap encGIndex = out ++ numB n ++ (l.take k).flatMap encGIndex ++ encGIndex l[k]) := by
        show _ = _
        rw [take_flat encGIndex l k hll]; simp only [List.append_assoc]
      have HBk : Hid ((out ++ numB n ++ (l.take k).flatMap encGIndex).length + (encGIndex l[k]).length ≤ far) := by
        show _ ≤ _
        have h1 := take_flat_len encGIndex l k hll
        have h2 := HB.out
        simp only [List.length_append]; omega
      obtain ⟨b, off, cap, c, h1, h2, h3, hx, h5⟩ := rList_at rGIndex_lawful (by decide) hl k hll
      simp only [List.cons.injEq, Value.slice.injEq, and_true] at h1
      obtain ⟨rfl, -, -⟩ := h1
      have hx' := rGIndex_lawful.keep hx ck.keep hw.free
      have hlt2 := Nat.lt_of_lt_of_le h3 ck.keep.size
      have hcl := rGIndex_lawful.len hx
      have hrng : ∀ (j : Nat) (u : Value), c[j]? = some u → wr.cell? ⟨b, off + k * 7 + j, none⟩ = some u := fun j u hu => (ck.keep.cell (p := ⟨b, off + k * 7 + j, none⟩) h3 (hw.free b h2)).trans (h5 j u hu)
      clear h5 hl hx
      obtain ⟨aColumns, cColumns, rfl, -⟩ := rGIndex_open hx'
      have x0 : wr.cell? ⟨b, off + k * 7, none⟩ = some (.int .i64 l[k].fID) := hrng 0 _ rfl
      have x1 : wr.cell? ⟨b, off + k * 7 + 1, none⟩ = some (.int .i64 l[k].fTable) := hrng 1 _ rfl
      have x2 : wr.cell? ⟨b, off + k * 7 + 2, none⟩ = some (.string (strB l[k].fName)) := hrng 2 _ rfl
      have x3 : wr.cell? ⟨b, off + k * 7 + 3, none⟩ = some (.slice aColumns l[k].fColumns.length cColumns) := hrng 3 _ rfl
      have x4 : wr.cell? ⟨b, off + k * 7 + 4, none⟩ = some (.bool l[k].fUnique) := hrng 4 _ rfl
      have x5 : wr.cell? ⟨b, off + k * 7 + 5, none⟩ = some (.int .i64 l[k].fState) := hrng 5 _ rfl
      have x6 : wr.cell? ⟨b, off + k * 7 + 6, none⟩ = some (.bool l[k].fBad) := hrng 6 _ rfl
      clear hrng
      generalize l[k] = v at *
      have wk3 := wk.box (.cells #[.int .i64 v.fID, .int .i64 v.fTable, .string (strB v.fName), .slice aColumns v.fColumns.length cColumns, .bool v.fUnique, .int .i64 v.fState, .bool v.fBad] 41)
      have hx3 := rGIndex_lawful.box hx' (.cells #[.int .i64 v.fID, .int .i64 v.fTable, .string (strB v.fName), .slice aColumns v.fColumns.length cColumns, .bool v.fUnique, .int .i64 v.fState, .bool v.fBad] 41)
      clear hx' wk hw
      go_wp2_with fail
      go_fit (wIndex_c _ r gk _ _ v _ hx3 wk3 HBk.out)
      rintro e w2 ⟨rfl, g2, wr4, ch4⟩
      have wr2 := wr4.mono (q := p) PB.of
      have ch2 := ((Chain.refl r wr gk).alloc (.cells #[.int .i64 v.fID, .int .i64 v.fTable, .string (strB v.fName), .slice aColumns v.fColumns.length cColumns, .bool v.fUnique, .int .i64 v.fState, .bool v.fBad] 41)).trans ch4
      clear wr4 ch4 hx3 wk3 x0 x1 x2 x3 x4 x5 x6
      have ck2 := ck.trans ch2
      clear ck ch2
      go_wp2
      go_roundw
      case rel => exact ⟨k + 1, g2, by omega, by go_num, by rw [HS.out]; exact wr2, ck2⟩
      case measure => simp [intOf]; omega
    · obtain rfl : k = n := by omega
      have e : l.take k = l := List.take_of_length_le (by rw [← HN.out]; omega)
      rw [e] at wk
      go_wp2_with fail
      go_end0
      exact ⟨rfl, gk, by rw [HE.out, ← List.append_assoc]; exact wk, ck⟩
set_option maxRecDepth 100000 in
set_option maxHeartbeats 4000000 in
theorem wCatalog_c (w : World) (r : Nat) (g : Option Nat) (out : List UInt8) (p : Nat → Prop) (x : GCatalog) (cs : List Value) (hx : rGCatalog w p cs x) (hw : Wr w 139 r g out p) (hb : out.length + (encGCatalog x).length ≤ far) :
    Calls Tryz.prog 90 #[.pointer (some ⟨r, 0, none⟩), .agg cs.toArray] w (Puts 139 r p w g (out ++ encGCatalog x)) := by
  obtain ⟨aTables, cTables, aIndexes, cIndexes, rfl, h0, h1, h2, h3, -⟩ := rGCatalog_open hx
  have hw0 := hw.box (.cells #[.int .i64 x.fVersion, .int .i64 x.fNext, .slice aTables x.fTables.length cTables, .slice aIndexes x.fIndexes.length cIndexes] 50)
  have row0 : RowIs (w.alloc (.cells #[.int .i64 x.fVersion, .int .i64 x.fNext, .slice aTables x.fTables.length cTables, .slice aIndexes x.fIndexes.length cIndexes] 50)) w.heap.size 50 [.int .i64 x.fVersion, .int .i64 x.fNext, .slice aTables x.fTables.length cTables, .slice aIndexes x.fIndexes.length cIndexes] := RowIs.alloc w _ _
  replace h0 := Lib.hid h0
  replace h1 := Lib.hid h1
  replace h2 := (rList_lawful rGTable_lawful).box h2 (.cells #[.int .i64 x.fVersion, .int .i64 x.fNext, .slice aTables x.fTables.length cTables, .slice aIndexes x.fIndexes.length cIndexes] 50)
  replace h2 := Lib.hid h2
  replace h3 := (rList_lawful rGIndex_lawful).box h3 (.cells #[.int .i64 x.fVersion, .int .i64 x.fNext, .slice aTables x.fTables.length cTables, .slice aIndexes x.fIndexes.length cIndexes] 50)
  replace h3 := Lib.hid h3
  have HL : Hid (out.length + ((encI x.fVersion).length + (encI x.fNext).length + (encL encGTable x.fTables).length + (encL encGIndex x.fIndexes).length) ≤ far) := by
    show _ ≤ _
    simp only [encGCatalog, List.length_append] at hb; omega
  have c0 : Chain r (w.alloc (.cells #[.int .i64 x.fVersion, .int .i64 x.fNext, .slice aTables x.fTables.length cTables, .slice aIndexes x.fIndexes.length cIndexes] 50)) g (w.alloc (.cells #[.int .i64 x.fVersion, .int .i64 x.fNext, .slice aTables x.fTables.length cTables, .slice aIndexes x.fIndexes.length cIndexes] 50)) g := Chain.refl _ _ _
  have cw : Chain r w g (w.alloc (.cells #[.int .i64 x.fVersion, .int .i64 x.fNext, .slice aTables x.fTables.length cTables, .slice aIndexes x.fIndexes.length cIndexes] 50)) g := (Chain.refl r w g).alloc _
  clear hb hx hw
  go_enter Tryz.func90, Tryz.ntmps90
  go_wp2_with fail
  go_fit (wints_c _ r _ _ _ _ 2 2 [x.fVersion, x.fNext] (ints_arg _ [x.fVersion, x.fNext] (by simp only [List.forall_mem_cons, List.not_mem_nil, false_implies, implies_true, and_true]; exact ⟨h0.out, h1.out⟩) (by show 2 ≤ far; decide) _ _ (.inr rfl) (w.heap.size + 1) (by simp)) (hw0.box _) (by have := HL.out; simp only [List.length_append, List.flatMap_cons, List.flatMap_nil, List.append_nil]; omega))
  rintro e w1 ⟨rfl, g1, wq, ch⟩
  have wr1 := wq.mono PB.of
  simp only [List.flatMap_cons, List.flatMap_nil, List.append_nil, ← List.append_assoc] at wr1
  have c1 := (c0.alloc _).trans ch
  clear wq ch
  replace c0 := c1
  clear c1
  have x2 : w1.cell? ⟨w.heap.size, 2, none⟩ = some (.slice aTables x.fTables.length cTables) := (row0.go hw0 c0 (.inr rfl)).cell 2
  go_wp2_with fail
  go_fit (wl_Table _ r _ _ _ aTables _ cTables x.fTables ((rList_lawful rGTable_lawful).go h2.out hw0 c0) wr1 (by have := HL.out; (try simp only [List.length_append]); omega))
  rintro e w2 ⟨rfl, g2, wr2, ch⟩
  have c2 := c0.trans ch
  clear ch
  clear wr1
  replace c0 := c2
  clear c2 x2
  have x3 : w2.cell? ⟨w.heap.size, 3, none⟩ = some (.slice aIndexes x.fIndexes.length cIndexes) := (row0.go hw0 c0 (.inr rfl)).cell 3
  go_wp2_with fail
  go_fit (wl_Index _ r _ _ _ aIndexes _ cIndexes x.fIndexes ((rList_lawful rGIndex_lawful).go h3.out hw0 c0) wr2 (by have := HL.out; (try simp only [List.length_append]); omega))
  rintro e w3 ⟨rfl, g3, wr3, ch⟩
  have c3 := c0.trans ch
  clear ch
  clear wr2
  replace c0 := c3
  clear c3 x3
  go_wp2_with fail
  go_end0
  refine ⟨rfl, _, ?_, cw.trans c0⟩
  simp only [encGCatalog, ← List.append_assoc]
  exact wr3.mono PB.of
set_option maxRecDepth 100000 in
set_option maxHeartbeats 4000000 in
theorem wPair_c (w : World) (r : Nat) (g : Option Nat) (out : List UInt8) (p : Nat → Prop) (x : GPair) (cs : List Value) (hx : rGPair w p cs x) (hw : Wr w 139 r g out p) (hb : out.length + (encGPair x).length ≤ far) :
    Calls Tryz.prog 80 #[.pointer (some ⟨r, 0, none⟩), .agg cs.toArray] w (Puts 139 r p w g (out ++ encGPair x)) := by
  obtain ⟨aKey, cKey, aValue, cValue, rfl, h0, h1, h2, -⟩ := rGPair_open hx
  have hw0 := hw.box (.cells #[.slice aKey x.fKey.length cKey, .slice aValue x.fValue.length cValue, .int .i64 x.fVersion] 72)
  have row0 : RowIs (w.alloc (.cells #[.slice aKey x.fKey.length cKey, .slice aValue x.fValue.length cValue, .int .i64 x.fVersion] 72)) w.heap.size 72 [.slice aKey x.fKey.length cKey, .slice aValue x.fValue.length cValue, .int .i64 x.fVersion] := RowIs.alloc w _ _
  replace h0 := And.intro (h0.1.box (.cells #[.slice aKey x.fKey.length cKey, .slice aValue x.fValue.length cValue, .int .i64 x.fVersion] 72)) h0.2
  replace h0 := Lib.hid h0
  replace h1 := And.intro (h1.1.box (.cells #[.slice aKey x.fKey.length cKey, .slice aValue x.fValue.length cValue, .int .i64 x.fVersion] 72)) h1.2
  replace h1 := Lib.hid h1
  replace h2 := Lib.hid h2
  have HL : Hid (out.length + ((textB x.fKey).length + (textB x.fValue).length + (encI x.fVersion).length) ≤ far) := by
    show _ ≤ _
    simp only [encGPair, List.length_append] at hb; omega
  have c0 : Chain r (w.alloc (.cells #[.slice aKey x.fKey.length cKey, .slice aValue x.fValue.length cValue, .int .i64 x.fVersion] 72)) g (w.alloc (.cells #[.slice aKey x.fKey.length cKey, .slice aValue x.fValue.length cValue, .int .i64 x.fVersion] 72)) g := Chain.refl _ _ _
  have cw : Chain r w g (w.alloc (.cells #[.slice aKey x.fKey.length cKey, .slice aValue x.fValue.length cValue, .int .i64 x.fVersion] 72)) g := (Chain.refl r w g).alloc _
  clear hb hx hw
  go_enter Tryz.func80, Tryz.ntmps80
  go_wp2_with fail
  go_fit (wbytes_c _ r _ _ _ aKey _ cKey x.fKey hw0 rfl (h0.out.1.go hw0 c0) (by have := h0.out.2.2; have := far_len; omega) (by have := HL.out; (try simp only [List.length_append]); omega))
  rintro e w1 ⟨rfl, g1, wr1, ch⟩
  have c1 := c0.trans ch
  clear ch
  replace c0 := c1
  clear c1
  have x1 : w1.cell? ⟨w.heap.size, 1, none⟩ = some (.slice aValue x.fValue.length cValue) := (row0.go hw0 c0 (.inr rfl)).cell 1
  go_wp2_with fail
  go_fit (wbytes_c _ r _ _ _ aValue _ cValue x.fValue wr1 rfl (h1.out.1.go hw0 c0) (by have := h1.out.2.2; have := far_len; omega) (by have := HL.out; (try simp only [List.length_append]); omega))
  rintro e w2 ⟨rfl, g2, wr2, ch⟩
  have c2 := c0.trans ch
  clear ch
  clear wr1
  replace c0 := c2
  clear c2 x1
  have x2 : w2.cell? ⟨w.heap.size, 2, none⟩ = some (.int .i64 x.fVersion) := (row0.go hw0 c0 (.inr rfl)).cell 2
  go_wp2_with fail
  go_fit (wint_e _ r _ _ _ x.fVersion wr2 h2.out (by have := HL.out; (try simp only [List.length_append]); omega))
  rintro e w3 ⟨rfl, g3, wr3, ch⟩
  have c3 := c0.trans ch
  clear ch
  clear wr2
  replace c0 := c3
  clear c3 x2
  go_wp2_with fail
  go_end0
  refine ⟨rfl, _, ?_, cw.trans c0⟩
  simp only [encGPair, ← List.append_assoc]
  exact wr3.mono PB.of
set_option maxRecDepth 100000 in
set_option maxHeartbeats 4000000 in
theorem wl_Pair (w : World) (r : Nat) (g : Option Nat) (out : List UInt8) (p : Nat → Prop) (a0 : Option Addr) (n ca : Nat) (l : List GPair) (hl : rList rGPair w p [.slice a0 n ca] l) (hw : Wr w 139 r g out p) (hb : out.length + (encL encGPair l).length ≤ far) :
    Calls Tryz.prog 79 #[.pointer (some ⟨r, 0, none⟩), .slice a0 n ca, .func (.func 80) #[] #[]] w (Puts 139 r p w g (out ++ encL encGPair l)) := by
  obtain ⟨hn, hnc, hnf⟩ := rList_len hl
  have hfl := far_len
  unfold maxLen at hfl
  have hnm : n ≤ 9223372036854775807 := by omega
  have hw0 : IntKind.u64.wrap (n : Int) = (n : Int) := by rw [IntKind.wrap_u64]; omega
  have hnu : isU64 (n : Int) := by unfold isU64; omega
  have HE : Hid (encL encGPair l = numB n ++ l.flatMap encGPair) := by show _ = _; rw [hn]; rfl
  have HB : Hid (out.length + ((numB n).length + (l.flatMap encGPair).length) ≤ far) := by
    show _ ≤ _
    rw [HE.out, List.length_append] at hb; exact hb
  have HN := Lib.hid hn
  clear hb hnf hn hfl
  go_enter Tryz.func79, Tryz.ntmps79
  go_wp2_with fail
  go_fit (wnumN w r g out p n hw hnu (by have := HB.out; omega))
  rintro e w1 ⟨rfl, g1, wr1, ch1⟩
  clear hw0 hnu
  go_wp2_with fail
  go_loopw [15] (fun i wr => ∃ (k : Nat) (g' : Option Nat), k ≤ n ∧ i = .int .i64 k ∧ Wr wr 139 r g' (out ++ numB n ++ (l.take k).flatMap encGPair) p ∧ Chain r w g wr g') (fun i _ => n - (intOf i).toNat)
  case atStart => exact ⟨0, g1, by omega, rfl, by simpa using wr1, ch1⟩
  case round =>
    clear wr1 ch1
    obtain ⟨k, gk, hk, rfl, wk, ck⟩ := hrel
    by_cases hlt : k < n
    · have hll : k < l.length := by rw [← HN.out]; exact hlt
      have HS : Hid (out ++ numB n ++ (l.take (k + 1)).flatMap encGPair = out ++ numB n ++ (l.take k).flatMap encGPair ++ encGPair l[k]) := by
        show _ = _
        rw [take_flat encGPair l k hll]; simp only [List.append_assoc]
      have HBk : Hid ((out ++ numB n ++ (l.take k).flatMap encGPair).length + (encGPair l[k]).length ≤ far) := by
        show _ ≤ _
        have h1 := take_flat_len encGPair l k hll
        have h2 := HB.out
        simp only [List.length_append]; omega
      obtain ⟨b, off, cap, c, h1, h2, h3, hx, h5⟩ := rList_at rGPair_lawful (by decide) hl k hll
      simp only [List.cons.injEq, Value.slice.injEq, and_true] at h1
      obtain ⟨rfl, -, -⟩ := h1
      have hx' := rGPair_lawful.keep hx ck.keep hw.free
      have hlt2 := Nat.lt_of_lt_of_le h3 ck.keep.size
      have hcl := rGPair_lawful.len hx
      have hrng : ∀ (j : Nat) (u : Value), c[j]? = some u → wr.cell? ⟨b, off + k * 3 + j, none⟩ = some u := fun j u hu => (ck.keep.cell (p := ⟨b, off + k * 3 + j, none⟩) h3 (hw.free b h2)).trans (h5 j u hu)
      clear h5 hl hx
      obtain ⟨aKey, cKey, aValue, cValue, rfl, -⟩ := rGPair_open hx'
      have x0 : wr.cell? ⟨b, off + k * 3, none⟩ = some (.slice aKey l[k].fKey.length cKey) := hrng 0 _ rfl
      have x1 : wr.cell? ⟨b, off + k * 3 + 1, none⟩ = some (.slice aValue l[k].fValue.length cValue) := hrng 1 _ rfl
      have x2 : wr.cell? ⟨b, off + k * 3 + 2, none⟩ = some (.int .i64 l[k].fVersion) := hrng 2 _ rfl
      clear hrng
      generalize l[k] = v at *
      have wk3 := wk.box (.cells #[.slice aKey v.fKey.length cKey, .slice aValue v.fValue.length cValue, .int .i64 v.fVersion] 72)
      have hx3 := rGPair_lawful.box hx' (.cells #[.slice aKey v.fKey.length cKey, .slice aValue v.fValue.length cValue, .int .i64 v.fVersion] 72)
      clear hx' wk hw
      go_wp2_with fail
      go_fit (wPair_c _ r gk _ _ v _ hx3 wk3 HBk.out)
      rintro e w2 ⟨rfl, g2, wr4, ch4⟩
      have wr2 := wr4.mono (q := p) PB.of
      have ch2 := ((Chain.refl r wr gk).alloc (.cells #[.slice aKey v.fKey.length cKey, .slice aValue v.fValue.length cValue, .int .i64 v.fVersion] 72)).trans ch4
      clear wr4 ch4 hx3 wk3 x0 x1 x2
      have ck2 := ck.trans ch2
      clear ck ch2
      go_wp2
      go_roundw
      case rel => exact ⟨k + 1, g2, by omega, by go_num, by rw [HS.out]; exact wr2, ck2⟩
      case measure => simp [intOf]; omega
    · obtain rfl : k = n := by omega
      have e : l.take k = l := List.take_of_length_le (by rw [← HN.out]; omega)
      rw [e] at wk
      go_wp2_with fail
      go_end0
      exact ⟨rfl, gk, by rw [HE.out, ← List.append_assoc]; exact wk, ck⟩
set_option maxRecDepth 100000 in
set_option maxHeartbeats 4000000 in
theorem wWrite_c (w : World) (r : Nat) (g : Option Nat) (out : List UInt8) (p : Nat → Prop) (x : GWrite) (cs : List Value) (hx : rGWrite w p cs x) (hw : Wr w 139 r g out p) (hb : out.length + (encGWrite x).length ≤ far) :
    Calls Tryz.prog 84 #[.pointer (some ⟨r, 0, none⟩), .agg cs.toArray] w (Puts 139 r p w g (out ++ encGWrite x)) := by
  obtain ⟨aKey, cKey, aValue, cValue, rfl, h0, h1, -⟩ := rGWrite_open hx
  have hw0 := hw.box (.cells #[.slice aKey x.fKey.length cKey, .slice aValue x.fValue.length cValue, .bool x.fDrop] 122)
  have row0 : RowIs (w.alloc (.cells #[.slice aKey x.fKey.length cKey, .slice aValue x.fValue.length cValue, .bool x.fDrop] 122)) w.heap.size 122 [.slice aKey x.fKey.length cKey, .slice aValue x.fValue.length cValue, .bool x.fDrop] := RowIs.alloc w _ _
  replace h0 := And.intro (h0.1.box (.cells #[.slice aKey x.fKey.length cKey, .slice aValue x.fValue.length cValue, .bool x.fDrop] 122)) h0.2
  replace h0 := Lib.hid h0
  replace h1 := And.intro (h1.1.box (.cells #[.slice aKey x.fKey.length cKey, .slice aValue x.fValue.length cValue, .bool x.fDrop] 122)) h1.2
  replace h1 := Lib.hid h1
  have HL : Hid (out.length + ((textB x.fKey).length + (textB x.fValue).length + (encF x.fDrop).length) ≤ far) := by
    show _ ≤ _
    simp only [encGWrite, List.length_append] at hb; omega
  have c0 : Chain r (w.alloc (.cells #[.slice aKey x.fKey.length cKey, .slice aValue x.fValue.length cValue, .bool x.fDrop] 122)) g (w.alloc (.cells #[.slice aKey x.fKey.length cKey, .slice aValue x.fValue.length cValue, .bool x.fDrop] 122)) g := Chain.refl _ _ _
  have cw : Chain r w g (w.alloc (.cells #[.slice aKey x.fKey.length cKey, .slice aValue x.fValue.length cValue, .bool x.fDrop] 122)) g := (Chain.refl r w g).alloc _
  clear hb hx hw
  go_enter Tryz.func84, Tryz.ntmps84
  go_wp2_with fail
  go_fit (wbytes_c _ r _ _ _ aKey _ cKey x.fKey hw0 rfl (h0.out.1.go hw0 c0) (by have := h0.out.2.2; have := far_len; omega) (by have := HL.out; (try simp only [List.length_append]); omega))
  rintro e w1 ⟨rfl, g1, wr1, ch⟩
  have c1 := c0.trans ch
  clear ch
  replace c0 := c1
  clear c1
  have x1 : w1.cell? ⟨w.heap.size, 1, none⟩ = some (.slice aValue x.fValue.length cValue) := (row0.go hw0 c0 (.inr rfl)).cell 1
  go_wp2_with fail
  go_fit (wbytes_c _ r _ _ _ aValue _ cValue x.fValue wr1 rfl (h1.out.1.go hw0 c0) (by have := h1.out.2.2; have := far_len; omega) (by have := HL.out; (try simp only [List.length_append]); omega))
  rintro e w2 ⟨rfl, g2, wr2, ch⟩
  have c2 := c0.trans ch
  clear ch
  clear wr1
  replace c0 := c2
  clear c2 x1
  have x2 : w2.cell? ⟨w.heap.size, 2, none⟩ = some (.bool x.fDrop) := (row0.go hw0 c0 (.inr rfl)).cell 2
  go_wp2_with fail
  go_fit (wflag_c _ r _ _ _ x.fDrop wr2 (by have := HL.out; (try simp only [List.length_append]); omega))
  rintro e w3 ⟨rfl, g3, wr3, ch⟩
  have c3 := c0.trans ch
  clear ch
  clear wr2
  replace c0 := c3
  clear c3 x2
  go_wp2_with fail
  go_end0
  refine ⟨rfl, _, ?_, cw.trans c0⟩
  simp only [encGWrite, ← List.append_assoc]
  exact wr3.mono PB.of
set_option maxRecDepth 100000 in
set_option maxHeartbeats 4000000 in
theorem wl_Write (w : World) (r : Nat) (g : Option Nat) (out : List UInt8) (p : Nat → Prop) (a0 : Option Addr) (n ca : Nat) (l : List GWrite) (hl : rList rGWrite w p [.slice a0 n ca] l) (hw : Wr w 139 r g out p) (hb : out.length + (encL encGWrite l).length ≤ far) :
    Calls Tryz.prog 83 #[.pointer (some ⟨r, 0, none⟩), .slice a0 n ca, .func (.func 84) #[] #[]] w (Puts 139 r p w g (out ++ encL encGWrite l)) := by
  obtain ⟨hn, hnc, hnf⟩ := rList_len hl
  have hfl := far_len
  unfold maxLen at hfl
  have hnm : n ≤ 9223372036854775807 := by omega
  have hw0 : IntKind.u64.wrap (n : Int) = (n : Int) := by rw [IntKind.wrap_u64]; omega
  have hnu : isU64 (n : Int) := by unfold isU64; omega
  have HE : Hid (encL encGWrite l = numB n ++ l.flatMap encGWrite) := by show _ = _; rw [hn]; rfl
  have HB : Hid (out.length + ((numB n).length + (l.flatMap encGWrite).length) ≤ far) := by
    show _ ≤ _
    rw [HE.out, List.length_append] at hb; exact hb
  have HN := Lib.hid hn
  clear hb hnf hn hfl
  go_enter Tryz.func83, Tryz.ntmps83
  go_wp2_with fail
  go_fit (wnumN w r g out p n hw hnu (by have := HB.out; omega))
  rintro e w1 ⟨rfl, g1, wr1, ch1⟩
  clear hw0 hnu
  go_wp2_with fail
  go_loopw [15] (fun i wr => ∃ (k : Nat) (g' : Option Nat), k ≤ n ∧ i = .int .i64 k ∧ Wr wr 139 r g' (out ++ numB n ++ (l.take k).flatMap encGWrite) p ∧ Chain r w g wr g') (fun i _ => n - (intOf i).toNat)
  case atStart => exact ⟨0, g1, by omega, rfl, by simpa using wr1, ch1⟩
  case round =>
    clear wr1 ch1
    obtain ⟨k, gk, hk, rfl, wk, ck⟩ := hrel
    by_cases hlt : k < n
    · have hll : k < l.length := by rw [← HN.out]; exact hlt
      have HS : Hid (out ++ numB n ++ (l.take (k + 1)).flatMap encGWrite = out ++ numB n ++ (l.take k).flatMap encGWrite ++ encGWrite l[k]) := by
        show _ = _
        rw [take_flat encGWrite l k hll]; simp only [List.append_assoc]
      have HBk : Hid ((out ++ numB n ++ (l.take k).flatMap encGWrite).length + (encGWrite l[k]).length ≤ far) := by
        show _ ≤ _
        have h1 := take_flat_len encGWrite l k hll
        have h2 := HB.out
        simp only [List.length_append]; omega
      obtain ⟨b, off, cap, c, h1, h2, h3, hx, h5⟩ := rList_at rGWrite_lawful (by decide) hl k hll
      simp only [List.cons.injEq, Value.slice.injEq, and_true] at h1
      obtain ⟨rfl, -, -⟩ := h1
      have hx' := rGWrite_lawful.keep hx ck.keep hw.free
      have hlt2 := Nat.lt_of_lt_of_le h3 ck.keep.size
      have hcl := rGWrite_lawful.len hx
      have hrng : ∀ (j : Nat) (u : Value), c[j]? = some u → wr.cell? ⟨b, off + k * 3 + j, none⟩ = some u := fun j u hu => (ck.keep.cell (p := ⟨b, off + k * 3 + j, none⟩) h3 (hw.free b h2)).trans (h5 j u hu)
      clear h5 hl hx
      obtain ⟨aKey, cKey, aValue, cValue, rfl, -⟩ := rGWrite_open hx'
      have x0 : wr.cell? ⟨b, off + k * 3, none⟩ = some (.slice aKey l[k].fKey.length cKey) := hrng 0 _ rfl
      have x1 : wr.cell? ⟨b, off + k * 3 + 1, none⟩ = some (.slice aValue l[k].fValue.length cValue) := hrng 1 _ rfl
      have x2 : wr.cell? ⟨b, off + k * 3 + 2, none⟩ = some (.bool l[k].fDrop) := hrng 2 _ rfl
      clear hrng
      generalize l[k] = v at *
      have wk3 := wk.box (.cells #[.slice aKey v.fKey.length cKey, .slice aValue v.fValue.length cValue, .bool v.fDrop] 122)
      have hx3 := rGWrite_lawful.box hx' (.cells #[.slice aKey v.fKey.length cKey, .slice aValue v.fValue.length cValue, .bool v.fDrop] 122)
      clear hx' wk hw
      go_wp2_with fail
      go_fit (wWrite_c _ r gk _ _ v _ hx3 wk3 HBk.out)
      rintro e w2 ⟨rfl, g2, wr4, ch4⟩
      have wr2 := wr4.mono (q := p) PB.of
      have ch2 := ((Chain.refl r wr gk).alloc (.cells #[.slice aKey v.fKey.length cKey, .slice aValue v.fValue.length cValue, .bool v.fDrop] 122)).trans ch4
      clear wr4 ch4 hx3 wk3 x0 x1 x2
      have ck2 := ck.trans ch2
      clear ck ch2
      go_wp2
      go_roundw
      case rel => exact ⟨k + 1, g2, by omega, by go_num, by rw [HS.out]; exact wr2, ck2⟩
      case measure => simp [intOf]; omega
    · obtain rfl : k = n := by omega
      have e : l.take k = l := List.take_of_length_le (by rw [← HN.out]; omega)
      rw [e] at wk
      go_wp2_with fail
      go_end0
      exact ⟨rfl, gk, by rw [HE.out, ← List.append_assoc]; exact wk, ck⟩
set_option maxRecDepth 100000 in
set_option maxHeartbeats 4000000 in
theorem wSpan_c (w : World) (r : Nat) (g : Option Nat) (out : List UInt8) (p : Nat → Prop) (x : GSpan) (cs : List Value) (hx : rGSpan w p cs x) (hw : Wr w 139 r g out p) (hb : out.length + (encGSpan x).length ≤ far) :
    Calls Tryz.prog 78 #[.pointer (some ⟨r, 0, none⟩), .agg cs.toArray] w (Puts 139 r p w g (out ++ encGSpan x)) := by
  obtain ⟨aFrom, cFrom, aTo, cTo, rfl, h0, h1, -⟩ := rGSpan_open hx
  have hw0 := hw.box (.cells #[.slice aFrom x.fFrom.length cFrom, .slice aTo x.fTo.length cTo] 32)
  have row0 : RowIs (w.alloc (.cells #[.slice aFrom x.fFrom.length cFrom, .slice aTo x.fTo.length cTo] 32)) w.heap.size 32 [.slice aFrom x.fFrom.length cFrom, .slice aTo x.fTo.length cTo] := RowIs.alloc w _ _
  replace h0 := And.intro (h0.1.box (.cells #[.slice aFrom x.fFrom.length cFrom, .slice aTo x.fTo.length cTo] 32)) h0.2
  replace h0 := Lib.hid h0
  replace h1 := And.intro (h1.1.box (.cells #[.slice aFrom x.fFrom.length cFrom, .slice aTo x.fTo.length cTo] 32)) h1.2
  replace h1 := Lib.hid h1
  have HL : Hid (out.length + ((textB x.fFrom).length + (textB x.fTo).length) ≤ far) := by
    show _ ≤ _
    simp only [encGSpan, List.length_append] at hb; omega
  have c0 : Chain r (w.alloc (.cells #[.slice aFrom x.fFrom.length cFrom, .slice aTo x.fTo.length cTo] 32)) g (w.alloc (.cells #[.slice aFrom x.fFrom.length cFrom, .slice aTo x.fTo.length cTo] 32)) g := Chain.refl _ _ _
  have cw : Chain r w g (w.alloc (.cells #[.slice aFrom x.fFrom.length cFrom, .slice aTo x.fTo.length cTo] 32)) g := (Chain.refl r w g).alloc _
  clear hb hx hw
  go_enter Tryz.func78, Tryz.ntmps78
  go_wp2_with fail
  go_fit (wbytes_c _ r _ _ _ aFrom _ cFrom x.fFrom hw0 rfl (h0.out.1.go hw0 c0) (by have := h0.out.2.2; have := far_len; omega) (by have := HL.out; (try simp only [List.length_append]); omega))
  rintro e w1 ⟨rfl, g1, wr1, ch⟩
  have c1 := c0.trans ch
  clear ch
  replace c0 := c1
  clear c1
  have x1 : w1.cell? ⟨w.heap.size, 1, none⟩ = some (.slice aTo x.fTo.length cTo) := (row0.go hw0 c0 (.inr rfl)).cell 1
  go_wp2_with fail
  go_fit (wbytes_c _ r _ _ _ aTo _ cTo x.fTo wr1 rfl (h1.out.1.go hw0 c0) (by have := h1.out.2.2; have := far_len; omega) (by have := HL.out; (try simp only [List.length_append]); omega))
  rintro e w2 ⟨rfl, g2, wr2, ch⟩
  have c2 := c0.trans ch
  clear ch
  clear wr1
  replace c0 := c2
  clear c2 x1
  go_wp2_with fail
  go_end0
  refine ⟨rfl, _, ?_, cw.trans c0⟩
  simp only [encGSpan, ← List.append_assoc]
  exact wr2.mono PB.of
set_option maxRecDepth 100000 in
set_option maxHeartbeats 4000000 in
theorem wSeen_c (w : World) (r : Nat) (g : Option Nat) (out : List UInt8) (p : Nat → Prop) (x : GSeen) (cs : List Value) (hx : rGSeen w p cs x) (hw : Wr w 139 r g out p) (hb : out.length + (encGSeen x).length ≤ far) :
    Calls Tryz.prog 82 #[.pointer (some ⟨r, 0, none⟩), .agg cs.toArray] w (Puts 139 r p w g (out ++ encGSeen x)) := by
  obtain ⟨aSpanFrom, cSpanFrom, aSpanTo, cSpanTo, aPairs, cPairs, rfl, h0, h1, -⟩ := rGSeen_open hx
  have hw0 := hw.box (.cells #[.slice aSpanFrom x.fSpan.fFrom.length cSpanFrom, .slice aSpanTo x.fSpan.fTo.length cSpanTo, .slice aPairs x.fPairs.length cPairs] 118)
  have row0 : RowIs (w.alloc (.cells #[.slice aSpanFrom x.fSpan.fFrom.length cSpanFrom, .slice aSpanTo x.fSpan.fTo.length cSpanTo, .slice aPairs x.fPairs.length cPairs] 118)) w.heap.size 118 [.slice aSpanFrom x.fSpan.fFrom.length cSpanFrom, .slice aSpanTo x.fSpan.fTo.length cSpanTo, .slice aPairs x.fPairs.length cPairs] := RowIs.alloc w _ _
  replace h0 := rGSpan_lawful.box h0 (.cells #[.slice aSpanFrom x.fSpan.fFrom.length cSpanFrom, .slice aSpanTo x.fSpan.fTo.length cSpanTo, .slice aPairs x.fPairs.length cPairs] 118)
  replace h0 := Lib.hid h0
  replace h1 := (rList_lawful rGPair_lawful).box h1 (.cells #[.slice aSpanFrom x.fSpan.fFrom.length cSpanFrom, .slice aSpanTo x.fSpan.fTo.length cSpanTo, .slice aPairs x.fPairs.length cPairs] 118)
  replace h1 := Lib.hid h1
  have HL : Hid (out.length + ((encGSpan x.fSpan).length + (encL encGPair x.fPairs).length) ≤ far) := by
    show _ ≤ _
    simp only [encGSeen, List.length_append] at hb; omega
  have c0 : Chain r (w.alloc (.cells #[.slice aSpanFrom x.fSpan.fFrom.length cSpanFrom, .slice aSpanTo x.fSpan.fTo.length cSpanTo, .slice aPairs x.fPairs.length cPairs] 118)) g (w.alloc (.cells #[.slice aSpanFrom x.fSpan.fFrom.length cSpanFrom, .slice aSpanTo x.fSpan.fTo.length cSpanTo, .slice aPairs x.fPairs.length cPairs] 118)) g := Chain.refl _ _ _
  have cw : Chain r w g (w.alloc (.cells #[.slice aSpanFrom x.fSpan.fFrom.length cSpanFrom, .slice aSpanTo x.fSpan.fTo.length cSpanTo, .slice aPairs x.fPairs.length cPairs] 118)) g := (Chain.refl r w g).alloc _
  clear hb hx hw
  go_enter Tryz.func82, Tryz.ntmps82
  go_wp2_with fail
  go_fit (wSpan_c _ r _ _ _ x.fSpan _ (rGSpan_lawful.go h0.out hw0 c0) hw0 (by have := HL.out; (try simp only [List.length_append]); omega))
  rintro e w1 ⟨rfl, g1, wr1, ch⟩
  have c1 := c0.trans ch
  clear ch
  replace c0 := c1
  clear c1
  have x2 : w1.cell? ⟨w.heap.size, 2, none⟩ = some (.slice aPairs x.fPairs.length cPairs) := (row0.go hw0 c0 (.inr rfl)).cell 2
  go_wp2_with fail
  go_fit (wl_Pair _ r _ _ _ aPairs _ cPairs x.fPairs ((rList_lawful rGPair_lawful).go h1.out hw0 c0) wr1 (by have := HL.out; (try simp only [List.length_append]); omega))
  rintro e w2 ⟨rfl, g2, wr2, ch⟩
  have c2 := c0.trans ch
  clear ch
  clear wr1
  replace c0 := c2
  clear c2 x2
  go_wp2_with fail
  go_end0
  refine ⟨rfl, _, ?_, cw.trans c0⟩
  simp only [encGSeen, ← List.append_assoc]
  exact wr2.mono PB.of
set_option maxRecDepth 100000 in
set_option maxHeartbeats 4000000 in
theorem wl_Seen (w : World) (r : Nat) (g : Option Nat) (out : List UInt8) (p : Nat → Prop) (a0 : Option Addr) (n ca : Nat) (l : List GSeen) (hl : rList rGSeen w p [.slice a0 n ca] l) (hw : Wr w 139 r g out p) (hb : out.length + (encL encGSeen l).length ≤ far) :
    Calls Tryz.prog 81 #[.pointer (some ⟨r, 0, none⟩), .slice a0 n ca, .func (.func 82) #[] #[]] w (Puts 139 r p w g (out ++ encL encGSeen l)) := by
  obtain ⟨hn, hnc, hnf⟩ := rList_len hl
  have hfl := far_len
  unfold maxLen at hfl
  have hnm : n ≤ 9223372036854775807 := by omega
  have hw0 : IntKind.u64.wrap (n : Int) = (n : Int) := by rw [IntKind.wrap_u64]; omega
  have hnu : isU64 (n : Int) := by unfold isU64; omega
  have HE : Hid (encL encGSeen l = numB n ++ l.flatMap encGSeen) := by show _ = _; rw [hn]; rfl
  have HB : Hid (out.length + ((numB n).length + (l.flatMap encGSeen).length) ≤ far) := by
    show _ ≤ _
    rw [HE.out, List.length_append] at hb; exact hb
  have HN := Lib.hid hn
  clear hb hnf hn hfl
  go_enter Tryz.func81, Tryz.ntmps81
  go_wp2_with fail
  go_fit (wnumN w r g out p n hw hnu (by have := HB.out; omega))
  rintro e w1 ⟨rfl, g1, wr1, ch1⟩
  clear hw0 hnu
  go_wp2_with fail
  go_loopw [15] (fun i wr => ∃ (k : Nat) (g' : Option Nat), k ≤ n ∧ i = .int .i64 k ∧ Wr wr 139 r g' (out ++ numB n ++ (l.take k).flatMap encGSeen) p ∧ Chain r w g wr g') (fun i _ => n - (intOf i).toNat)
  case atStart => exact ⟨0, g1, by omega, rfl, by simpa using wr1, ch1⟩
  case round =>
    clear wr1 ch1
    obtain ⟨k, gk, hk, rfl, wk, ck⟩ := hrel
    by_cases hlt : k < n
    · have hll : k < l.length := by rw [← HN.out]; exact hlt
      have HS : Hid (out ++ numB n ++ (l.take (k + 1)).flatMap encGSeen = out ++ numB n ++ (l.take k).flatMap encGSeen ++ encGSeen l[k]) := by
        show _ = _
        rw [take_flat encGSeen l k hll]; simp only [List.append_assoc]
      have HBk : Hid ((out ++ numB n ++ (l.take k).flatMap encGSeen).length + (encGSeen l[k]).length ≤ far) := by
        show _ ≤ _
        have h1 := take_flat_len encGSeen l k hll
        have h2 := HB.out
        simp only [List.length_append]; omega
      obtain ⟨b, off, cap, c, h1, h2, h3, hx, h5⟩ := rList_at rGSeen_lawful (by decide) hl k hll
      simp only [List.cons.injEq, Value.slice.injEq, and_true] at h1
      obtain ⟨rfl, -, -⟩ := h1
      have hx' := rGSeen_lawful.keep hx ck.keep hw.free
      have hlt2 := Nat.lt_of_lt_of_le h3 ck.keep.size
      have hcl := rGSeen_lawful.len hx
      have hrng : ∀ (j : Nat) (u : Value), c[j]? = some u → wr.cell? ⟨b, off + k * 3 + j, none⟩ = some u := fun j u hu => (ck.keep.cell (p := ⟨b, off + k * 3 + j, none⟩) h3 (hw.free b h2)).trans (h5 j u hu)
      clear h5 hl hx
      obtain ⟨aSpanFrom, cSpanFrom, aSpanTo, cSpanTo, aPairs, cPairs, rfl, -⟩ := rGSeen_open hx'
      have x0 : wr.cell? ⟨b, off + k * 3, none⟩ = some (.slice aSpanFrom l[k].fSpan.fFrom.length cSpanFrom) := hrng 0 _ rfl
      have x1 : wr.cell? ⟨b, off + k * 3 + 1, none⟩ = some (.slice aSpanTo l[k].fSpan.fTo.length cSpanTo) := hrng 1 _ rfl
      have x2 : wr.cell? ⟨b, off + k * 3 + 2, none⟩ = some (.slice aPairs l[k].fPairs.length cPairs) := hrng 2 _ rfl
      clear hrng
      generalize l[k] = v at *
      have wk3 := wk.box (.cells #[.slice aSpanFrom v.fSpan.fFrom.length cSpanFrom, .slice aSpanTo v.fSpan.fTo.length cSpanTo, .slice aPairs v.fPairs.length cPairs] 118)
      have hx3 := rGSeen_lawful.box hx' (.cells #[.slice aSpanFrom v.fSpan.fFrom.length cSpanFrom, .slice aSpanTo v.fSpan.fTo.length cSpanTo, .slice aPairs v.fPairs.length cPairs] 118)
      clear hx' wk hw
      go_wp2_with fail
      go_fit (wSeen_c _ r gk _ _ v _ hx3 wk3 HBk.out)
      rintro e w2 ⟨rfl, g2, wr4, ch4⟩
      have wr2 := wr4.mono (q := p) PB.of
      have ch2 := ((Chain.refl r wr gk).alloc (.cells #[.slice aSpanFrom v.fSpan.fFrom.length cSpanFrom, .slice aSpanTo v.fSpan.fTo.length cSpanTo, .slice aPairs v.fPairs.length cPairs] 118)).trans ch4
      clear wr4 ch4 hx3 wk3 x0 x1 x2
      have ck2 := ck.trans ch2
      clear ck ch2
      go_wp2
      go_roundw
      case rel => exact ⟨k + 1, g2, by omega, by go_num, by rw [HS.out]; exact wr2, ck2⟩
      case measure => simp [intOf]; omega
    · obtain rfl : k = n := by omega
      have e : l.take k = l := List.take_of_length_le (by rw [← HN.out]; omega)
      rw [e] at wk
      go_wp2_with fail
      go_end0
      exact ⟨rfl, gk, by rw [HE.out, ← List.append_assoc]; exact wk, ck⟩
set_option maxRecDepth 100000 in
set_option maxHeartbeats 4000000 in
theorem wSet_c (w : World) (r : Nat) (g : Option Nat) (out : List UInt8) (p : Nat → Prop) (x : GSet) (cs : List Value) (hx : rGSet w p cs x) (hw : Wr w 139 r g out p) (hb : out.length + (encGSet x).length ≤ far) :
    Calls Tryz.prog 154 #[.pointer (some ⟨r, 0, none⟩), .agg cs.toArray] w (Puts 139 r p w g (out ++ encGSet x)) := by
  obtain ⟨rfl, h0, h1, -⟩ := rGSet_open hx
  have hw0 := hw.box (.cells #[.int .i64 x.fColumn, .int .i64 x.fValue.fKind, .int .i64 x.fValue.fI, .string (strB x.fValue.fS)] 203)
  have row0 : RowIs (w.alloc (.cells #[.int .i64 x.fColumn, .int .i64 x.fValue.fKind, .int .i64 x.fValue.fI, .string (strB x.fValue.fS)] 203)) w.heap.size 203 [.int .i64 x.fColumn, .int .i64 x.fValue.fKind, .int .i64 x.fValue.fI, .string (strB x.fValue.fS)] := RowIs.alloc w _ _
  replace h0 := Lib.hid h0
  replace h1 := rGValue_lawful.box h1 (.cells #[.int .i64 x.fColumn, .int .i64 x.fValue.fKind, .int .i64 x.fValue.fI, .string (strB x.fValue.fS)] 203)
  replace h1 := Lib.hid h1
  have HL : Hid (out.length + ((encI x.fColumn).length + (encGValue x.fValue).length) ≤ far) := by
    show _ ≤ _
    simp only [encGSet, List.length_append] at hb; omega
  have c0 : Chain r (w.alloc (.cells #[.int .i64 x.fColumn, .int .i64 x.fValue.fKind, .int .i64 x.fValue.fI, .string (strB x.fValue.fS)] 203)) g (w.alloc (.cells #[.int .i64 x.fColumn, .int .i64 x.fValue.fKind, .int .i64 x.fValue.fI, .string (strB x.fValue.fS)] 203)) g := Chain.refl _ _ _
  have cw : Chain r w g (w.alloc (.cells #[.int .i64 x.fColumn, .int .i64 x.fValue.fKind, .int .i64 x.fValue.fI, .string (strB x.fValue.fS)] 203)) g := (Chain.refl r w g).alloc _
  clear hb hx hw
  go_enter Tryz.func154, Tryz.ntmps154
  go_wp2_with fail
  go_fit (wint_e _ r _ _ _ x.fColumn hw0 h0.out (by have := HL.out; (try simp only [List.length_append]); omega))
  rintro e w1 ⟨rfl, g1, wr1, ch⟩
  have c1 := c0.trans ch
  clear ch
  replace c0 := c1
  clear c1
  have x1 : w1.cell? ⟨w.heap.size, 1, none⟩ = some (.int .i64 x.fValue.fKind) := (row0.go hw0 c0 (.inr rfl)).cell 1
  have x2 : w1.cell? ⟨w.heap.size, 2, none⟩ = some (.int .i64 x.fValue.fI) := (row0.go hw0 c0 (.inr rfl)).cell 2
  have x3 : w1.cell? ⟨w.heap.size, 3, none⟩ = some (.string (strB x.fValue.fS)) := (row0.go hw0 c0 (.inr rfl)).cell 3
  go_wp2_with fail
  go_fit (wValue_c _ r _ _ _ x.fValue _ (rGValue_lawful.go h1.out hw0 c0) wr1 (by have := HL.out; (try simp only [List.length_append]); omega))
  rintro e w2 ⟨rfl, g2, wr2, ch⟩
  have c2 := c0.trans ch
  clear ch
  clear wr1
  replace c0 := c2
  clear c2 x1 x2 x3
  go_wp2_with fail
  go_end0
  refine ⟨rfl, _, ?_, cw.trans c0⟩
  simp only [encGSet, ← List.append_assoc]
  exact wr2.mono PB.of
set_option maxRecDepth 100000 in
set_option maxHeartbeats 4000000 in
theorem wl_Set (w : World) (r : Nat) (g : Option Nat) (out : List UInt8) (p : Nat → Prop) (a0 : Option Addr) (n ca : Nat) (l : List GSet) (hl : rList rGSet w p [.slice a0 n ca] l) (hw : Wr w 139 r g out p) (hb : out.length + (encL encGSet l).length ≤ far) :
    Calls Tryz.prog 153 #[.pointer (some ⟨r, 0, none⟩), .slice a0 n ca, .func (.func 154) #[] #[]] w (Puts 139 r p w g (out ++ encL encGSet l)) := by
  obtain ⟨hn, hnc, hnf⟩ := rList_len hl
  have hfl := far_len
  unfold maxLen at hfl
  have hnm : n ≤ 9223372036854775807 := by omega
  have hw0 : IntKind.u64.wrap (n : Int) = (n : Int) := by rw [IntKind.wrap_u64]; omega
  have hnu : isU64 (n : Int) := by unfold isU64; omega
  have HE : Hid (encL encGSet l = numB n ++ l.flatMap encGSet) := by show _ = _; rw [hn]; rfl
  have HB : Hid (out.length + ((numB n).length + (l.flatMap encGSet).length) ≤ far) := by
    show _ ≤ _
    rw [HE.out, List.length_append] at hb; exact hb
  have HN := Lib.hid hn
  clear hb hnf hn hfl
  go_enter Tryz.func153, Tryz.ntmps153
  go_wp2_with fail
  go_fit (wnumN w r g out p n hw hnu (by have := HB.out; omega))
  rintro e w1 ⟨rfl, g1, wr1, ch1⟩
  clear hw0 hnu
  go_wp2_with fail
  go_loopw [15] (fun i wr => ∃ (k : Nat) (g' : Option Nat), k ≤ n ∧ i = .int .i64 k ∧ Wr wr 139 r g' (out ++ numB n ++ (l.take k).flatMap encGSet) p ∧ Chain r w g wr g') (fun i _ => n - (intOf i).toNat)
  case atStart => exact ⟨0, g1, by omega, rfl, by simpa using wr1, ch1⟩
  case round =>
    clear wr1 ch1
    obtain ⟨k, gk, hk, rfl, wk, ck⟩ := hrel
    by_cases hlt : k < n
    · have hll : k < l.length := by rw [← HN.out]; exact hlt
      have HS : Hid (out ++ numB n ++ (l.take (k + 1)).flatMap encGSet = out ++ numB n ++ (l.take k).flatMap encGSet ++ encGSet l[k]) := by
        show _ = _
        rw [take_flat encGSet l k hll]; simp only [List.append_assoc]
      have HBk : Hid ((out ++ numB n ++ (l.take k).flatMap encGSet).length + (encGSet l[k]).length ≤ far) := by
        show _ ≤ _
        have h1 := take_flat_len encGSet l k hll
        have h2 := HB.out
        simp only [List.length_append]; omega
      obtain ⟨b, off, cap, c, h1, h2, h3, hx, h5⟩ := rList_at rGSet_lawful (by decide) hl k hll
      simp only [List.cons.injEq, Value.slice.injEq, and_true] at h1
      obtain ⟨rfl, -, -⟩ := h1
      have hx' := rGSet_lawful.keep hx ck.keep hw.free
      have hlt2 := Nat.lt_of_lt_of_le h3 ck.keep.size
      have hcl := rGSet_lawful.len hx
      have hrng : ∀ (j : Nat) (u : Value), c[j]? = some u → wr.cell? ⟨b, off + k * 4 + j, none⟩ = some u := fun j u hu => (ck.keep.cell (p := ⟨b, off + k * 4 + j, none⟩) h3 (hw.free b h2)).trans (h5 j u hu)
      clear h5 hl hx
      obtain ⟨rfl, -⟩ := rGSet_open hx'
      have x0 : wr.cell? ⟨b, off + k * 4, none⟩ = some (.int .i64 l[k].fColumn) := hrng 0 _ rfl
      have x1 : wr.cell? ⟨b, off + k * 4 + 1, none⟩ = some (.int .i64 l[k].fValue.fKind) := hrng 1 _ rfl
      have x2 : wr.cell? ⟨b, off + k * 4 + 2, none⟩ = some (.int .i64 l[k].fValue.fI) := hrng 2 _ rfl
      have x3 : wr.cell? ⟨b, off + k * 4 + 3, none⟩ = some (.string (strB l[k].fValue.fS)) := hrng 3 _ rfl
      clear hrng
      generalize l[k] = v at *
      have wk3 := wk.box (.cells #[.int .i64 v.fColumn, .int .i64 v.fValue.fKind, .int .i64 v.fValue.fI, .string (strB v.fValue.fS)] 203)
      have hx3 := rGSet_lawful.box hx' (.cells #[.int .i64 v.fColumn, .int .i64 v.fValue.fKind, .int .i64 v.fValue.fI, .string (strB v.fValue.fS)] 203)
      clear hx' wk hw
      go_wp2_with fail
      go_fit (wSet_c _ r gk _ _ v _ hx3 wk3 HBk.out)
      rintro e w2 ⟨rfl, g2, wr4, ch4⟩
      have wr2 := wr4.mono (q := p) PB.of
      have ch2 := ((Chain.refl r wr gk).alloc (.cells #[.int .i64 v.fColumn, .int .i64 v.fValue.fKind, .int .i64 v.fValue.fI, .string (strB v.fValue.fS)] 203)).trans ch4
      clear wr4 ch4 hx3 wk3 x0 x1 x2 x3
      have ck2 := ck.trans ch2
      clear ck ch2
      go_wp2
      go_roundw
      case rel => exact ⟨k + 1, g2, by omega, by go_num, by rw [HS.out]; exact wr2, ck2⟩
      case measure => simp [intOf]; omega
    · obtain rfl : k = n := by omega
      have e : l.take k = l := List.take_of_length_le (by rw [← HN.out]; omega)
      rw [e] at wk
      go_wp2_with fail
      go_end0
      exact ⟨rfl, gk, by rw [HE.out, ← List.append_assoc]; exact wk, ck⟩
set_option maxRecDepth 100000 in
set_option maxHeartbeats 4000000 in
theorem wOp_c (w : World) (r : Nat) (g : Option Nat) (out : List UInt8) (p : Nat → Prop) (x : GOp) (cs : List Value) (hx : rGOp w p cs x) (hw : Wr w 139 r g out p) (hb : out.length + (encGOp x).length ≤ far) :
    Calls Tryz.prog 93 #[.pointer (some ⟨r, 0, none⟩), .agg cs.toArray] w (Puts 139 r p w g (out ++ encGOp x)) := by
  obtain ⟨aRow, cRow, aKey, cKey, aSet, cSet, aFrom, cFrom, aTo, cTo, aNames, cNames, rfl, h0, h1, h2, h3, h4, h5, h6, h7, h8, h10, -⟩ := rGOp_open hx
  have hw0 := hw.box (.cells #[.int .i64 x.fKind, .string (strB x.fTable), .string (strB x.fIndex), .slice aRow x.fRow.length cRow, .slice aKey x.fKey.length cKey, .slice aSet x.fSet.length cSet, .slice aFrom x.fFrom.length cFrom, .slice aTo x.fTo.length cTo, .int .i64 x.fLimit, .bool x.fReverse, .slice aNames x.fNames.length cNames] 135)
  have row0 : RowIs (w.alloc (.cells #[.int .i64 x.fKind, .string (strB x.fTable), .string (strB x.fIndex), .slice aRow x.fRow.length cRow, .slice aKey x.fKey.length cKey, .slice aSet x.fSet.length cSet, .slice aFrom x.fFrom.length cFrom, .slice aTo x.fTo.length cTo, .int .i64 x.fLimit, .bool x.fReverse, .slice aNames x.fNames.length cNames] 135)) w.heap.size 135 [.int .i64 x.fKind, .string (strB x.fTable), .string (strB x.fIndex), .slice aRow x.fRow.length cRow, .slice aKey x.fKey.length cKey, .slice aSet x.fSet.length cSet, .slice aFrom x.fFrom.length cFrom, .slice aTo x.fTo.length cTo, .int .i64 x.fLimit, .bool x.fReverse, .slice aNames x.fNames.length cNames] := RowIs.alloc w _ _
  replace h0 := Lib.hid h0
  replace h1 := Lib.hid h1
  replace h2 := Lib.hid h2
  replace h3 := (rList_lawful rGValue_lawful).box h3 (.cells #[.int .i64 x.fKind, .string (strB x.fTable), .string (strB x.fIndex), .slice aRow x.fRow.length cRow, .slice aKey x.fKey.length cKey, .slice aSet x.fSet.length cSet, .slice aFrom x.fFrom.length cFrom, .slice aTo x.fTo.length cTo, .int .i64 x.fLimit, .bool x.fReverse, .slice aNames x.fNames.length cNames] 135)
  replace h3 := Lib.hid h3
  replace h4 := (rList_lawful rGValue_lawful).box h4 (.cells #[.int .i64 x.fKind, .string (strB x.fTable), .string (strB x.fIndex), .slice aRow x.fRow.length cRow, .slice aKey x.fKey.length cKey, .slice aSet x.fSet.length cSet, .slice aFrom x.fFrom.length cFrom, .slice aTo x.fTo.length cTo, .int .i64 x.fLimit, .bool x.fReverse, .slice aNames x.fNames.length cNames] 135)
  replace h4 := Lib.hid h4
  replace h5 := (rList_lawful rGSet_lawful).box h5 (.cells #[.int .i64 x.fKind, .string (strB x.fTable), .string (strB x.fIndex), .slice aRow x.fRow.length cRow, .slice aKey x.fKey.length cKey, .slice aSet x.fSet.length cSet, .slice aFrom x.fFrom.length cFrom, .slice aTo x.fTo.length cTo, .int .i64 x.fLimit, .bool x.fReverse, .slice aNames x.fNames.length cNames] 135)
  replace h5 := Lib.hid h5
  replace h6 := (rList_lawful rGValue_lawful).box h6 (.cells #[.int .i64 x.fKind, .string (strB x.fTable), .string (strB x.fIndex), .slice aRow x.fRow.length cRow, .slice aKey x.fKey.length cKey, .slice aSet x.fSet.length cSet, .slice aFrom x.fFrom.length cFrom, .slice aTo x.fTo.length cTo, .int .i64 x.fLimit, .bool x.fReverse, .slice aNames x.fNames.length cNames] 135)
  replace h6 := Lib.hid h6
  replace h7 := (rList_lawful rGValue_lawful).box h7 (.cells #[.int .i64 x.fKind, .string (strB x.fTable), .string (strB x.fIndex), .slice aRow x.fRow.length cRow, .slice aKey x.fKey.length cKey, .slice aSet x.fSet.length cSet, .slice aFrom x.fFrom.length cFrom, .slice aTo x.fTo.length cTo, .int .i64 x.fLimit, .bool x.fReverse, .slice aNames x.fNames.length cNames] 135)
  replace h7 := Lib.hid h7
  replace h8 := Lib.hid h8
  replace h10 := (rList_lawful rBytes_lawful).box h10 (.cells #[.int .i64 x.fKind, .string (strB x.fTable), .string (strB x.fIndex), .slice aRow x.fRow.length cRow, .slice aKey x.fKey.length cKey, .slice aSet x.fSet.length cSet, .slice aFrom x.fFrom.length cFrom, .slice aTo x.fTo.length cTo, .int .i64 x.fLimit, .bool x.fReverse, .slice aNames x.fNames.length cNames] 135)
  replace h10 := Lib.hid h10
  have HL : Hid (out.length + ((encI x.fKind).length + (textB x.fTable).length + (textB x.fIndex).length + (encL encGValue x.fRow).length + (encL encGValue x.fKey).length + (encL encGSet x.fSet).length + (encL encGValue x.fFrom).length + (encL encGValue x.fTo).length + (encI x.fLimit).length + (encF x.fReverse).length + (encL textB x.fNames).length) ≤ far) := by
    show _ ≤ _
    simp only [encGOp, List.length_append] at hb; omega
  have c0 : Chain r (w.alloc (.cells #[.int .i64 x.fKind, .string (strB x.fTable), .string (strB x.fIndex), .slice aRow x.fRow.length cRow, .slice aKey x.fKey.length cKey, .slice aSet x.fSet.length cSet, .slice aFrom x.fFrom.length cFrom, .slice aTo x.fTo.length cTo, .int .i64 x.fLimit, .bool x.fReverse, .slice aNames x.fNames.length cNames] 135)) g (w.alloc (.cells #[.int .i64 x.fKind, .string (strB x.fTable), .string (strB x.fIndex), .slice aRow x.fRow.length cRow, .slice aKey x.fKey.length cKey, .slice aSet x.fSet.length cSet, .slice aFrom x.fFrom.length cFrom, .slice aTo x.fTo.length cTo, .int .i64 x.fLimit, .bool x.fReverse, .slice aNames x.fNames.length cNames] 135)) g := Chain.refl _ _ _
  have cw : Chain r w g (w.alloc (.cells #[.int .i64 x.fKind, .string (strB x.fTable), .string (strB x.fIndex), .slice aRow x.fRow.length cRow, .slice aKey x.fKey.length cKey, .slice aSet x.fSet.length cSet, .slice aFrom x.fFrom.length cFrom, .slice aTo x.fTo.length cTo, .int .i64 x.fLimit, .bool x.fReverse, .slice aNames x.fNames.length cNames] 135)) g := (Chain.refl r w g).alloc _
  clear hb hx hw
  go_enter Tryz.func93, Tryz.ntmps93
  go_wp2_with fail
  go_fit (wint_e _ r _ _ _ x.fKind hw0 h0.out (by have := HL.out; (try simp only [List.length_append]); omega))
  rintro e w1 ⟨rfl, g1, wr1, ch⟩
  have c1 := c0.trans ch
  clear ch
  replace c0 := c1
  clear c1
  have x1 : w1.cell? ⟨w.heap.size, 1, none⟩ = some (.string (strB x.fTable)) := (row0.go hw0 c0 (.inr rfl)).cell 1
  go_wp2_with fail
  go_fit (wtext_c _ r _ _ _ x.fTable wr1 h1.out (by have := HL.out; (try simp only [List.length_append]); omega))
  rintro e w2 ⟨rfl, g2, wr2, ch⟩
  have c2 := c0.trans ch
  clear ch
  clear wr1
  replace c0 := c2
  clear c2 x1
  have x2 : w2.cell? ⟨w.heap.size, 2, none⟩ = some (.string (strB x.fIndex)) := (row0.go hw0 c0 (.inr rfl)).cell 2
  go_wp2_with fail
  go_fit (wtext_c _ r _ _ _ x.fIndex wr2 h2.out (by have := HL.out; (try simp only [List.length_append]); omega))
  rintro e w3 ⟨rfl, g3, wr3, ch⟩
  have c3 := c0.trans ch
  clear ch
  clear wr2
  replace c0 := c3
  clear c3 x2
  have x3 : w3.cell? ⟨w.heap.size, 3, none⟩ = some (.slice aRow x.fRow.length cRow) := (row0.go hw0 c0 (.inr rfl)).cell 3
  go_wp2_with fail
  go_fit (wl_Value _ r _ _ _ aRow _ cRow x.fRow ((rList_lawful rGValue_lawful).go h3.out hw0 c0) wr3 (by have := HL.out; (try simp only [List.length_append]); omega))
  rintro e w4 ⟨rfl, g4, wr4, ch⟩
  have c4 := c0.trans ch
  clear ch
  clear wr3
  replace c0 := c4
  clear c4 x3
  have x4 : w4.cell? ⟨w.heap.size, 4, none⟩ = some (.slice aKey x.fKey.length cKey) := (row0.go hw0 c0 (.inr rfl)).cell 4
  go_wp2_with fail
  go_fit (wl_Value _ r _ _ _ aKey _ cKey x.fKey ((rList_lawful rGValue_lawful).go h4.out hw0 c0) wr4 (by have := HL.out; (try simp only [List.length_append]); omega))
  rintro e w5 ⟨rfl, g5, wr5, ch⟩
  have c5 := c0.trans ch
  clear ch
  clear wr4
  replace c0 := c5
  clear c5 x4
  have x5 : w5.cell? ⟨w.heap.size, 5, none⟩ = some (.slice aSet x.fSet.length cSet) := (row0.go hw0 c0 (.inr rfl)).cell 5
  go_wp2_with fail
  go_fit (wl_Set _ r _ _ _ aSet _ cSet x.fSet ((rList_lawful rGSet_lawful).go h5.out hw0 c0) wr5 (by have := HL.out; (try simp only [List.length_append]); omega))
  rintro e w6 ⟨rfl, g6, wr6, ch⟩
  have c6 := c0.trans ch
  clear ch
  clear wr5
  replace c0 := c6
  clear c6 x5
  have x6 : w6.cell? ⟨w.heap.size, 6, none⟩ = some (.slice aFrom x.fFrom.length cFrom) := (row0.go hw0 c0 (.inr rfl)).cell 6
  go_wp2_with fail
  go_fit (wl_Value _ r _ _ _ aFrom _ cFrom x.fFrom ((rList_lawful rGValue_lawful).go h6.out hw0 c0) wr6 (by have := HL.out; (try simp only [List.length_append]); omega))
  rintro e w7 ⟨rfl, g7, wr7, ch⟩
  have c7 := c0.trans ch
  clear ch
  clear wr6
  replace c0 := c7
  clear c7 x6
  have x7 : w7.cell? ⟨w.heap.size, 7, none⟩ = some (.slice aTo x.fTo.length cTo) := (row0.go hw0 c0 (.inr rfl)).cell 7
  go_wp2_with fail
  go_fit (wl_Value _ r _ _ _ aTo _ cTo x.fTo ((rList_lawful rGValue_lawful).go h7.out hw0 c0) wr7 (by have := HL.out; (try simp only [List.length_append]); omega))
  rintro e w8 ⟨rfl, g8, wr8, ch⟩
  have c8 := c0.trans ch
  clear ch
  clear wr7
  replace c0 := c8
  clear c8 x7
  have x8 : w8.cell? ⟨w.heap.size, 8, none⟩ = some (.int .i64 x.fLimit) := (row0.go hw0 c0 (.inr rfl)).cell 8
  go_wp2_with fail
  go_fit (wint_e _ r _ _ _ x.fLimit wr8 h8.out (by have := HL.out; (try simp only [List.length_append]); omega))
  rintro e w9 ⟨rfl, g9, wr9, ch⟩
  have c9 := c0.trans ch
  clear ch
  clear wr8
  replace c0 := c9
  clear c9 x8
  have x9 : w9.cell? ⟨w.heap.size, 9, none⟩ = some (.bool x.fReverse) := (row0.go hw0 c0 (.inr rfl)).cell 9
  go_wp2_with fail
  go_fit (wflag_c _ r _ _ _ x.fReverse wr9 (by have := HL.out; (try simp only [List.length_append]); omega))
  rintro e w10 ⟨rfl, g10, wr10, ch⟩
  have c10 := c0.trans ch
  clear ch
  clear wr9
  replace c0 := c10
  clear c10 x9
  have x10 : w10.cell? ⟨w.heap.size, 10, none⟩ = some (.slice aNames x.fNames.length cNames) := (row0.go hw0 c0 (.inr rfl)).cell 10
  go_wp2_with fail
  go_fit (wl_bytes _ r _ _ _ aNames _ cNames x.fNames ((rList_lawful rBytes_lawful).go h10.out hw0 c0) wr10 (by have := HL.out; (try simp only [List.length_append]); omega))
  rintro e w11 ⟨rfl, g11, wr11, ch⟩
  have c11 := c0.trans ch
  clear ch
  clear wr10
  replace c0 := c11
  clear c11 x10
  go_wp2_with fail
  go_end0
  refine ⟨rfl, _, ?_, cw.trans c0⟩
  simp only [encGOp, ← List.append_assoc]
  exact wr11.mono PB.of
set_option maxRecDepth 100000 in
set_option maxHeartbeats 4000000 in
theorem wl_Op (w : World) (r : Nat) (g : Option Nat) (out : List UInt8) (p : Nat → Prop) (a0 : Option Addr) (n ca : Nat) (l : List GOp) (hl : rList rGOp w p [.slice a0 n ca] l) (hw : Wr w 139 r g out p) (hb : out.length + (encL encGOp l).length ≤ far) :
    Calls Tryz.prog 92 #[.pointer (some ⟨r, 0, none⟩), .slice a0 n ca, .func (.func 93) #[] #[]] w (Puts 139 r p w g (out ++ encL encGOp l)) := by
  obtain ⟨hn, hnc, hnf⟩ := rList_len hl
  have hfl := far_len
  unfold maxLen at hfl
  have hnm : n ≤ 9223372036854775807 := by omega
  have hw0 : IntKind.u64.wrap (n : Int) = (n : Int) := by rw [IntKind.wrap_u64]; omega
  have hnu : isU64 (n : Int) := by unfold isU64; omega
  have HE : Hid (encL encGOp l = numB n ++ l.flatMap encGOp) := by show _ = _; rw [hn]; rfl
  have HB : Hid (out.length + ((numB n).length + (l.flatMap encGOp).length) ≤ far) := by
    show _ ≤ _
    rw [HE.out, List.length_append] at hb; exact hb
  have HN := Lib.hid hn
  clear hb hnf hn hfl
  go_enter Tryz.func92, Tryz.ntmps92
  go_wp2_with fail
  go_fit (wnumN w r g out p n hw hnu (by have := HB.out; omega))
  rintro e w1 ⟨rfl, g1, wr1, ch1⟩
  clear hw0 hnu
  go_wp2_with fail
  go_loopw [15] (fun i wr => ∃ (k : Nat) (g' : Option Nat), k ≤ n ∧ i = .int .i64 k ∧ Wr wr 139 r g' (out ++ numB n ++ (l.take k).flatMap encGOp) p ∧ Chain r w g wr g') (fun i _ => n - (intOf i).toNat)
  case atStart => exact ⟨0, g1, by omega, rfl, by simpa using wr1, ch1⟩
  case round =>
    clear wr1 ch1
    obtain ⟨k, gk, hk, rfl, wk, ck⟩ := hrel
    by_cases hlt : k < n
    · have hll : k < l.length := by rw [← HN.out]; exact hlt
      have HS : Hid (out ++ numB n ++ (l.take (k + 1)).flatMap encGOp = out ++ numB n ++ (l.take k).flatMap encGOp ++ encGOp l[k]) := by
        show _ = _
        rw [take_flat encGOp l k hll]; simp only [List.append_assoc]
      have HBk : Hid ((out ++ numB n ++ (l.take k).flatMap encGOp).length + (encGOp l[k]).length ≤ far) := by
        show _ ≤ _
        have h1 := take_flat_len encGOp l k hll
        have h2 := HB.out
        simp only [List.length_append]; omega
      obtain ⟨b, off, cap, c, h1, h2, h3, hx, h5⟩ := rList_at rGOp_lawful (by decide) hl k hll
      simp only [List.cons.injEq, Value.slice.injEq, and_true] at h1
      obtain ⟨rfl, -, -⟩ := h1
      have hx' := rGOp_lawful.keep hx ck.keep hw.free
      have hlt2 := Nat.lt_of_lt_of_le h3 ck.keep.size
      have hcl := rGOp_lawful.len hx
      have hrng : ∀ (j : Nat) (u : Value), c[j]? = some u → wr.cell? ⟨b, off + k * 11 + j, none⟩ = some u := fun j u hu => (ck.keep.cell (p := ⟨b, off + k * 11 + j, none⟩) h3 (hw.free b h2)).trans (h5 j u hu)
      clear h5 hl hx
      obtain ⟨aRow, cRow, aKey, cKey, aSet, cSet, aFrom, cFrom, aTo, cTo, aNames, cNames, rfl, -⟩ := rGOp_open hx'
      have x0 : wr.cell? ⟨b, off + k * 11, none⟩ = some (.int .i64 l[k].fKind) := hrng 0 _ rfl
      have x1 : wr.cell? ⟨b, off + k * 11 + 1, none⟩ = some (.string (strB l[k].fTable)) := hrng 1 _ rfl
      have x2 : wr.cell? ⟨b, off + k * 11 + 2, none⟩ = some (.string (strB l[k].fIndex)) := hrng 2 _ rfl
      have x3 : wr.cell? ⟨b, off + k * 11 + 3, none⟩ = some (.slice aRow l[k].fRow.length cRow) := hrng 3 _ rfl
      have x4 : wr.cell? ⟨b, off + k * 11 + 4, none⟩ = some (.slice aKey l[k].fKey.length cKey) := hrng 4 _ rfl
      have x5 : wr.cell? ⟨b, off + k * 11 + 5, none⟩ = some (.slice aSet l[k].fSet.length cSet) := hrng 5 _ rfl
      have x6 : wr.cell? ⟨b, off + k * 11 + 6, none⟩ = some (.slice aFrom l[k].fFrom.length cFrom) := hrng 6 _ rfl
      have x7 : wr.cell? ⟨b, off + k * 11 + 7, none⟩ = some (.slice aTo l[k].fTo.length cTo) := hrng 7 _ rfl
      have x8 : wr.cell? ⟨b, off + k * 11 + 8, none⟩ = some (.int .i64 l[k].fLimit) := hrng 8 _ rfl
      have x9 : wr.cell? ⟨b, off + k * 11 + 9, none⟩ = some (.bool l[k].fReverse) := hrng 9 _ rfl
      have x10 : wr.cell? ⟨b, off + k * 11 + 10, none⟩ = some (.slice aNames l[k].fNames.length cNames) := hrng 10 _ rfl
      clear hrng
      generalize l[k] = v at *
      have wk3 := wk.box (.cells #[.int .i64 v.fKind, .string (strB v.fTable), .string (strB v.fIndex), .slice aRow v.fRow.length cRow, .slice aKey v.fKey.length cKey, .slice aSet v.fSet.length cSet, .slice aFrom v.fFrom.length cFrom, .slice aTo v.fTo.length cTo, .int .i64 v.fLimit, .bool v.fReverse, .slice aNames v.fNames.length cNames] 135)
      have hx3 := rGOp_lawful.box hx' (.cells #[.int .i64 v.fKind, .string (strB v.fTable), .string (strB v.fIndex), .slice aRow v.fRow.length cRow, .slice aKey v.fKey.length cKey, .slice aSet v.fSet.length cSet, .slice aFrom v.fFrom.length cFrom, .slice aTo v.fTo.length cTo, .int .i64 v.fLimit, .bool v.fReverse, .slice aNames v.fNames.length cNames] 135)
      clear hx' wk hw
      go_wp2_with fail
      go_fit (wOp_c _ r gk _ _ v _ hx3 wk3 HBk.out)
      rintro e w2 ⟨rfl, g2, wr4, ch4⟩
      have wr2 := wr4.mono (q := p) PB.of
      have ch2 := ((Chain.refl r wr gk).alloc (.cells #[.int .i64 v.fKind, .string (strB v.fTable), .string (strB v.fIndex), .slice aRow v.fRow.length cRow, .slice aKey v.fKey.length cKey, .slice aSet v.fSet.length cSet, .slice aFrom v.fFrom.length cFrom, .slice aTo v.fTo.length cTo, .int .i64 v.fLimit, .bool v.fReverse, .slice aNames v.fNames.length cNames] 135)).trans ch4
      clear wr4 ch4 hx3 wk3 x0 x1 x2 x3 x4 x5 x6 x7 x8 x9 x10
      have ck2 := ck.trans ch2
      clear ck ch2
      go_wp2
      go_roundw
      case rel => exact ⟨k + 1, g2, by omega, by go_num, by rw [HS.out]; exact wr2, ck2⟩
      case measure => simp [intOf]; omega
    · obtain rfl : k = n := by omega
      have e : l.take k = l := List.take_of_length_le (by rw [← HN.out]; omega)
      rw [e] at wk
      go_wp2_with fail
      go_end0
      exact ⟨rfl, gk, by rw [HE.out, ← List.append_assoc]; exact wk, ck⟩
set_option maxRecDepth 100000 in
set_option maxHeartbeats 4000000 in
theorem wOwner_c (w : World) (r : Nat) (g : Option Nat) (out : List UInt8) (p : Nat → Prop) (x : GOwner) (cs : List Value) (hx : rGOwner w p cs x) (hw : Wr w 139 r g out p) (hb : out.length + (encGOwner x).length ≤ far) :
    Calls Tryz.prog 150 #[.pointer (some ⟨r, 0, none⟩), .agg cs.toArray] w (Puts 139 r p w g (out ++ encGOwner x)) := by
  obtain ⟨aFrom, cFrom, rfl, h0, h1, -⟩ := rGOwner_open hx
  have hw0 := hw.box (.cells #[.int .i64 x.fGroup, .slice aFrom x.fFrom.length cFrom] 196)
  have row0 : RowIs (w.alloc (.cells #[.int .i64 x.fGroup, .slice aFrom x.fFrom.length cFrom] 196)) w.heap.size 196 [.int .i64 x.fGroup, .slice aFrom x.fFrom.length cFrom] := RowIs.alloc w _ _
  replace h0 := Lib.hid h0
  replace h1 := And.intro (h1.1.box (.cells #[.int .i64 x.fGroup, .slice aFrom x.fFrom.length cFrom] 196)) h1.2
  replace h1 := Lib.hid h1
  have HL : Hid (out.length + ((encI x.fGroup).length + (textB x.fFrom).length) ≤ far) := by
    show _ ≤ _
    simp only [encGOwner, List.length_append] at hb; omega
  have c0 : Chain r (w.alloc (.cells #[.int .i64 x.fGroup, .slice aFrom x.fFrom.length cFrom] 196)) g (w.alloc (.cells #[.int .i64 x.fGroup, .slice aFrom x.fFrom.length cFrom] 196)) g := Chain.refl _ _ _
  have cw : Chain r w g (w.alloc (.cells #[.int .i64 x.fGroup, .slice aFrom x.fFrom.length cFrom] 196)) g := (Chain.refl r w g).alloc _
  clear hb hx hw
  go_enter Tryz.func150, Tryz.ntmps150
  go_wp2_with fail
  go_fit (wint_e _ r _ _ _ x.fGroup hw0 h0.out (by have := HL.out; (try simp only [List.length_append]); omega))
  rintro e w1 ⟨rfl, g1, wr1, ch⟩
  have c1 := c0.trans ch
  clear ch
  replace c0 := c1
  clear c1
  have x1 : w1.cell? ⟨w.heap.size, 1, none⟩ = some (.slice aFrom x.fFrom.length cFrom) := (row0.go hw0 c0 (.inr rfl)).cell 1
  go_wp2_with fail
  go_fit (wbytes_c _ r _ _ _ aFrom _ cFrom x.fFrom wr1 rfl (h1.out.1.go hw0 c0) (by have := h1.out.2.2; have := far_len; omega) (by have := HL.out; (try simp only [List.length_append]); omega))
  rintro e w2 ⟨rfl, g2, wr2, ch⟩
  have c2 := c0.trans ch
  clear ch
  clear wr1
  replace c0 := c2
  clear c2 x1
  go_wp2_with fail
  go_end0
  refine ⟨rfl, _, ?_, cw.trans c0⟩
  simp only [encGOwner, ← List.append_assoc]
  exact wr2.mono PB.of
set_option maxRecDepth 100000 in
set_option maxHeartbeats 4000000 in
theorem wl_Owner (w : World) (r : Nat) (g : Option Nat) (out : List UInt8) (p : Nat → Prop) (a0 : Option Addr) (n ca : Nat) (l : List GOwner) (hl : rList rGOwner w p [.slice a0 n ca] l) (hw : Wr w 139 r g out p) (hb : out.length + (encL encGOwner l).length ≤ far) :
    Calls Tryz.prog 149 #[.pointer (some ⟨r, 0, none⟩), .slice a0 n ca, .func (.func 150) #[] #[]] w (Puts 139 r p w g (out ++ encL encGOwner l)) := by
  obtain ⟨hn, hnc, hnf⟩ := rList_len hl
  have hfl := far_len
  unfold maxLen at hfl
  have hnm : n ≤ 9223372036854775807 := by omega
  have hw0 : IntKind.u64.wrap (n : Int) = (n : Int) := by rw [IntKind.wrap_u64]; omega
  have hnu : isU64 (n : Int) := by unfold isU64; omega
  have HE : Hid (encL encGOwner l = numB n ++ l.flatMap encGOwner) := by show _ = _; rw [hn]; rfl
  have HB : Hid (out.length + ((numB n).length + (l.flatMap encGOwner).length) ≤ far) := by
    show _ ≤ _
    rw [HE.out, List.length_append] at hb; exact hb
  have HN := Lib.hid hn
  clear hb hnf hn hfl
  go_enter Tryz.func149, Tryz.ntmps149
  go_wp2_with fail
  go_fit (wnumN w r g out p n hw hnu (by have := HB.out; omega))
  rintro e w1 ⟨rfl, g1, wr1, ch1⟩
  clear hw0 hnu
  go_wp2_with fail
  go_loopw [15] (fun i wr => ∃ (k : Nat) (g' : Option Nat), k ≤ n ∧ i = .int .i64 k ∧ Wr wr 139 r g' (out ++ numB n ++ (l.take k).flatMap encGOwner) p ∧ Chain r w g wr g') (fun i _ => n - (intOf i).toNat)
  case atStart => exact ⟨0, g1, by omega, rfl, by simpa using wr1, ch1⟩
  case round =>
    clear wr1 ch1
    obtain ⟨k, gk, hk, rfl, wk, ck⟩ := hrel
    by_cases hlt : k < n
    · have hll : k < l.length := by rw [← HN.out]; exact hlt
      have HS : Hid (out ++ numB n ++ (l.take (k + 1)).flatMap encGOwner = out ++ numB n ++ (l.take k).flatMap encGOwner ++ encGOwner l[k]) := by
        show _ = _
        rw [take_flat encGOwner l k hll]; simp only [List.append_assoc]
      have HBk : Hid ((out ++ numB n ++ (l.take k).flatMap encGOwner).length + (encGOwner l[k]).length ≤ far) := by
        show _ ≤ _
        have h1 := take_flat_len encGOwner l k hll
        have h2 := HB.out
        simp only [List.length_append]; omega
      obtain ⟨b, off, cap, c, h1, h2, h3, hx, h5⟩ := rList_at rGOwner_lawful (by decide) hl k hll
      simp only [List.cons.injEq, Value.slice.injEq, and_true] at h1
      obtain ⟨rfl, -, -⟩ := h1
      have hx' := rGOwner_lawful.keep hx ck.keep hw.free
      have hlt2 := Nat.lt_of_lt_of_le h3 ck.keep.size
      have hcl := rGOwner_lawful.len hx
      have hrng : ∀ (j : Nat) (u : Value), c[j]? = some u → wr.cell? ⟨b, off + k * 2 + j, none⟩ = some u := fun j u hu => (ck.keep.cell (p := ⟨b, off + k * 2 + j, none⟩) h3 (hw.free b h2)).trans (h5 j u hu)
      clear h5 hl hx
      obtain ⟨aFrom, cFrom, rfl, -⟩ := rGOwner_open hx'
      have x0 : wr.cell? ⟨b, off + k * 2, none⟩ = some (.int .i64 l[k].fGroup) := hrng 0 _ rfl
      have x1 : wr.cell? ⟨b, off + k * 2 + 1, none⟩ = some (.slice aFrom l[k].fFrom.length cFrom) := hrng 1 _ rfl
      clear hrng
      generalize l[k] = v at *
      have wk3 := wk.box (.cells #[.int .i64 v.fGroup, .slice aFrom v.fFrom.length cFrom] 196)
      have hx3 := rGOwner_lawful.box hx' (.cells #[.int .i64 v.fGroup, .slice aFrom v.fFrom.length cFrom] 196)
      clear hx' wk hw
      go_wp2_with fail
      go_fit (wOwner_c _ r gk _ _ v _ hx3 wk3 HBk.out)
      rintro e w2 ⟨rfl, g2, wr4, ch4⟩
      have wr2 := wr4.mono (q := p) PB.of
      have ch2 := ((Chain.refl r wr gk).alloc (.cells #[.int .i64 v.fGroup, .slice aFrom v.fFrom.length cFrom] 196)).trans ch4
      clear wr4 ch4 hx3 wk3 x0 x1
      have ck2 := ck.trans ch2
      clear ck ch2
      go_wp2
      go_roundw
      case rel => exact ⟨k + 1, g2, by omega, by go_num, by rw [HS.out]; exact wr2, ck2⟩
      case measure => simp [intOf]; omega
    · obtain rfl : k = n := by omega
      have e : l.take k = l := List.take_of_length_le (by rw [← HN.out]; omega)
      rw [e] at wk
      go_wp2_with fail
      go_end0
      exact ⟨rfl, gk, by rw [HE.out, ← List.append_assoc]; exact wk, ck⟩
set_option maxRecDepth 100000 in
set_option maxHeartbeats 4000000 in
theorem wRoutes_c (w : World) (r : Nat) (g : Option Nat) (out : List UInt8) (p : Nat → Prop) (x : GRoutes) (cs : List Value) (hx : rGRoutes w p cs x) (hw : Wr w 139 r g out p) (hb : out.length + (encGRoutes x).length ≤ far) :
    Calls Tryz.prog 91 #[.pointer (some ⟨r, 0, none⟩), .agg cs.toArray] w (Puts 139 r p w g (out ++ encGRoutes x)) := by
  obtain ⟨aSpans, cSpans, aCut, cCut, rfl, h0, h1, h2, h3, h4, -⟩ := rGRoutes_open hx
  have hw0 := hw.box (.cells #[.int .i64 x.fEpoch, .int .i64 x.fBase, .slice aSpans x.fSpans.length cSpans, .int .i64 x.fMoving, .slice aCut x.fCut.length cCut] 53)
  have row0 : RowIs (w.alloc (.cells #[.int .i64 x.fEpoch, .int .i64 x.fBase, .slice aSpans x.fSpans.length cSpans, .int .i64 x.fMoving, .slice aCut x.fCut.length cCut] 53)) w.heap.size 53 [.int .i64 x.fEpoch, .int .i64 x.fBase, .slice aSpans x.fSpans.length cSpans, .int .i64 x.fMoving, .slice aCut x.fCut.length cCut] := RowIs.alloc w _ _
  replace h0 := Lib.hid h0
  replace h1 := Lib.hid h1
  replace h2 := (rList_lawful rGOwner_lawful).box h2 (.cells #[.int .i64 x.fEpoch, .int .i64 x.fBase, .slice aSpans x.fSpans.length cSpans, .int .i64 x.fMoving, .slice aCut x.fCut.length cCut] 53)
  replace h2 := Lib.hid h2
  replace h3 := Lib.hid h3
  replace h4 := And.intro (h4.1.box (.cells #[.int .i64 x.fEpoch, .int .i64 x.fBase, .slice aSpans x.fSpans.length cSpans, .int .i64 x.fMoving, .slice aCut x.fCut.length cCut] 53)) h4.2
  replace h4 := Lib.hid h4
  have HL : Hid (out.length + ((encI x.fEpoch).length + (encI x.fBase).length + (encL encGOwner x.fSpans).length + (encI x.fMoving).length + (textB x.fCut).length) ≤ far) := by
    show _ ≤ _
    simp only [encGRoutes, List.length_append] at hb; omega
  have c0 : Chain r (w.alloc (.cells #[.int .i64 x.fEpoch, .int .i64 x.fBase, .slice aSpans x.fSpans.length cSpans, .int .i64 x.fMoving, .slice aCut x.fCut.length cCut] 53)) g (w.alloc (.cells #[.int .i64 x.fEpoch, .int .i64 x.fBase, .slice aSpans x.fSpans.length cSpans, .int .i64 x.fMoving, .slice aCut x.fCut.length cCut] 53)) g := Chain.refl _ _ _
  have cw : Chain r w g (w.alloc (.cells #[.int .i64 x.fEpoch, .int .i64 x.fBase, .slice aSpans x.fSpans.length cSpans, .int .i64 x.fMoving, .slice aCut x.fCut.length cCut] 53)) g := (Chain.refl r w g).alloc _
  clear hb hx hw
  go_enter Tryz.func91, Tryz.ntmps91
  go_wp2_with fail
  go_fit (wints_c _ r _ _ _ _ 2 2 [x.fEpoch, x.fBase] (ints_arg _ [x.fEpoch, x.fBase] (by simp only [List.forall_mem_cons, List.not_mem_nil, false_implies, implies_true, and_true]; exact ⟨h0.out, h1.out⟩) (by show 2 ≤ far; decide) _ _ (.inr rfl) (w.heap.size + 1) (by simp)) (hw0.box _) (by have := HL.out; simp only [List.length_append, List.flatMap_cons, List.flatMap_nil, List.append_nil]; omega))
  rintro e w1 ⟨rfl, g1, wq, ch⟩
  have wr1 := wq.mono PB.of
  simp only [List.flatMap_cons, List.flatMap_nil, List.append_nil, ← List.append_assoc] at wr1
  have c1 := (c0.alloc _).trans ch
  clear wq ch
  replace c0 := c1
  clear c1
  have x2 : w1.cell? ⟨w.heap.size, 2, none⟩ = some (.slice aSpans x.fSpans.length cSpans) := (row0.go hw0 c0 (.inr rfl)).cell 2
  go_wp2_with fail
  go_fit (wl_Owner _ r _ _ _ aSpans _ cSpans x.fSpans ((rList_lawful rGOwner_lawful).go h2.out hw0 c0) wr1 (by have := HL.out; (try simp only [List.length_append]); omega))
  rintro e w2 ⟨rfl, g2, wr2, ch⟩
  have c2 := c0.trans ch
  clear ch
  clear wr1
  replace c0 := c2
  clear c2 x2
  have x3 : w2.cell? ⟨w.heap.size, 3, none⟩ = some (.int .i64 x.fMoving) := (row0.go hw0 c0 (.inr rfl)).cell 3
  go_wp2_with fail
  go_fit (wint_e _ r _ _ _ x.fMoving wr2 h3.out (by have := HL.out; (try simp only [List.length_append]); omega))
  rintro e w3 ⟨rfl, g3, wr3, ch⟩
  have c3 := c0.trans ch
  clear ch
  clear wr2
  replace c0 := c3
  clear c3 x3
  have x4 : w3.cell? ⟨w.heap.size, 4, none⟩ = some (.slice aCut x.fCut.length cCut) := (row0.go hw0 c0 (.inr rfl)).cell 4
  go_wp2_with fail
  go_fit (wbytes_c _ r _ _ _ aCut _ cCut x.fCut wr3 rfl (h4.out.1.go hw0 c0) (by have := h4.out.2.2; have := far_len; omega) (by have := HL.out; (try simp only [List.length_append]); omega))
  rintro e w4 ⟨rfl, g4, wr4, ch⟩
  have c4 := c0.trans ch
  clear ch
  clear wr3
  replace c0 := c4
  clear c4 x4
  go_wp2_with fail
  go_end0
  refine ⟨rfl, _, ?_, cw.trans c0⟩
  simp only [encGRoutes, ← List.append_assoc]
  exact wr4.mono PB.of
end Go.Proofs.YtabgbleldbapbaaGreat
