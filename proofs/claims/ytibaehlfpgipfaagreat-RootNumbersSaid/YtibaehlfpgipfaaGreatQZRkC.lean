/- slices.Concat at bytes, of whatever parts. Printed by mac.py. -/
import Derived.Test.YtibaehlfpgipfaaGreatQZRkJ
import Derived.Lib.AppendZeros
namespace Go.Proofs.YtibaehlfpgipfaaGreat
open Go.RowKit
set_option maxRecDepth 100000 in
theorem growB_c (k : Nat) (h0 : 0 < k) (hk : k ≤ 1000000000) (w : World) : Calls Tryz.prog 71 #[.slice none 0 0, .int .i64 k] w fun e w' => ∃ G, e = .returned (.slice (some ⟨w.heap.size, 0, none⟩) 0 G) ∧ w'.ownsRow w.heap.size 5 1 (.slice (some ⟨w.heap.size, 0, none⟩) 0 G) 0 [] ∧ Keep Nix w w' := by
 obtain ⟨i, z, hi, hz, hsz, hby, hzs⟩ := T_bytes.info
 obtain ⟨G, Z, hG, hG2, hZ, hrz⟩ : ∃ (G : Nat) (Z : List Value), k ≤ G ∧ G ≤ 9223372036854775807 ∧ Z.length = G * 1 ∧ ∀ ty, (Builtin.append_ #[30, 3] ty #[.slice none 0 0, .int .i64 (k : Int)]).run Tryz.prog w = .ok (.slice (some ⟨w.heap.size, 0, none⟩) k G) (w.drew.alloc (.cells Z.toArray 5)) := by
  refine ⟨grownCap w (0 + k) 0 5, (Builtin.zeroCells z.cells k ++ Builtin.zeroCells z.cells (grownCap w (0 + k) 0 5 - (0 + k))).toList, ?_, ?_, ?_, fun ty => ?_⟩
  ·have := grownCap_ge w (0 + k) 0 5; omega
  ·have := grownCap_le_maxLen w (0 + k) 0 5 (by unfold maxLen; omega)
   unfold maxLen at this
   omega
  ·have := grownCap_ge w (0 + k) 0 5
   simp [Builtin.zeroCells, hzs]
   simp at this
   omega
  ·have h := Lib.run_append_grow_zeros w 30 3 ty 5 i z .i64 .i64 T_bytes.under Tryz.underlying3 hi hz none 0 0 [] (by simp [Builtin.firstCells]) k h0 (by rw [hsz]; omega) (by omega) (by omega) (by rw [hby]; omega) (by rw [hby]; exact growslice_fits (by omega) (by omega))
   rw [show 0 + k = k by omega] at h ⊢
   rw [h]
   congr 3
   simp
 have kk : Keep Nix w (w.drew.alloc (.cells Z.toArray 5)) := ((Keep.refl Nix w).drew).alloc _
 have row : RowIs (w.drew.alloc (.cells Z.toArray 5)) w.heap.size 5 ([] ++ Z) := by
  have h := RowIs.alloc w.drew Z.toArray 5
  exact h
 have own : Hid ((w.drew.alloc (.cells Z.toArray 5)).ownsRow w.heap.size 5 1 (.slice (some ⟨w.heap.size, 0, none⟩) 0 G) 0 []) := row_own row (Nat.le_refl _) (by simpa using hZ) rfl (by omega) (by unfold maxLen; exact hG2)
 have hk0 : (0 : Int) < (k : Int) := by omega
 have hkn : ¬ (k : Int) < 0 := by omega
 have hkG : (k : Int) ≤ (G : Int) := by omega
 clear hi hz hsz hby hzs row hZ
 go_enter Tryz.func71, Tryz.ntmps71
 go_wp2_with (at_builtin; refine Lib.wpList_append_run _ rfl _ _ _ _ rfl _ _ rfl rfl _ _ (hrz _) ?_)
 go_ret
 exact ⟨G, rfl, own.out, kk⟩
def PartsAt (w : World) (p : Nat → Prop) (cells : List Value) (ps : List (List UInt8)) : Prop := cells.length = ps.length ∧ ∀ (i : Nat) (l : List UInt8), ps[i]? = some l → ∃ (a : Option Addr) (c : Nat), cells[i]? = some (.slice a l.length c) ∧ Lies w p a (l.map bv)
theorem PartsAt.keep {w w' : World} {p : Nat → Prop} {cells : List Value} {ps : List (List UInt8)} (h : PartsAt w p cells ps) {S : Nat → Prop} (k : Keep S w w') (hs : ∀ b, p b → ¬ S b) : PartsAt w' p cells ps :=
 ⟨h.1, fun i l hl => by obtain ⟨a, c, h1, h2⟩ := h.2 i l hl; exact ⟨a, c, h1, h2.keep k hs⟩⟩
theorem PartsAt.nil (w : World) (p : Nat → Prop) : PartsAt w p [] [] := ⟨rfl, fun i l h => by simp at h⟩
theorem PartsAt.cons {w : World} {p : Nat → Prop} {cells : List Value} {ps : List (List UInt8)} (h : PartsAt w p cells ps) {a : Option Addr} {c n : Nat} {l : List UInt8} (hn : l.length = n) (hl : Lies w p a (l.map bv)) : PartsAt w p (.slice a n c :: cells) (l :: ps) := by
 subst hn
 refine ⟨by simp [h.1], fun i x hx => ?_⟩
 match i, hx with
 | 0, hx => cases hx; exact ⟨a, c, rfl, hl⟩
 | i + 1, hx => obtain ⟨a2, c2, h1, h2⟩ := h.2 i x (by simpa using hx); exact ⟨a2, c2, by simpa using h1, h2⟩
theorem take_flatB (ps : List (List UInt8)) (k : Nat) (h : k < ps.length) : (ps.take (k + 1)).flatten = (ps.take k).flatten ++ ps[k] := by
 rw [List.take_succ_eq_append_getElem h, List.flatten_append]; simp
theorem take_flatB_le (ps : List (List UInt8)) (k : Nat) : (ps.take k).flatten.length ≤ ps.flatten.length := by
 have h := congrArg (fun l => (List.flatten l).length) (List.take_append_drop k ps)
 simp only [List.flatten_append, List.length_append] at h
 omega
set_option maxRecDepth 100000 in
set_option maxHeartbeats 2000000 in
theorem concat_c {p : Nat → Prop} (g c : Nat) (ps : List (List UInt8)) (cells : List Value) (w : World) (row : RowIs w g 30 cells) (hp : PartsAt w p cells ps) (hpb : ∀ b, p b → b < w.heap.size) (h0 : 0 < ps.flatten.length) (hn : ps.flatten.length ≤ 1000000000) (hk : ps.length ≤ 1000000) :
  Calls Tryz.prog 27 #[.slice (some ⟨g, 0, none⟩) ps.length c] w fun e w' => ∃ a' c', e = .returned (.slice a' ps.flatten.length c') ∧ w'.ownsRow w.heap.size 5 1 (.slice a' ps.flatten.length c') ps.flatten.length (ps.flatten.map bv) ∧ Keep Nix w w' := by
 have HP := Lib.hid hp
 have HPB := Lib.hid hpb
 have ROW := Lib.hid row
 have HG := Lib.hid (growB_c ps.flatten.length h0 hn w)
 have HLE := Lib.hid (take_flatB_le ps)
 clear row hp hpb
 obtain ⟨N, hN⟩ : ∃ N, Hid (ps.flatten.length = N) := ⟨_, rfl⟩
 rw [hN.out] at HG h0 hn ⊢
 go_enter Tryz.func27, Tryz.ntmps27
 go_wp2_with fail
 go_loopw [3, 11] (fun s i wr => ∃ (k n : Nat), k ≤ ps.length ∧ i = .int .i64 (k : Int) ∧ s = .int .i64 (n : Int) ∧ Hid (n = (ps.take k).flatten.length) ∧ w = wr) (fun _ i _ => ps.length - (intOf i).toNat)
 case atStart => exact ⟨0, 0, Nat.zero_le _, rfl, rfl, rfl, rfl⟩
 case round =>
  obtain ⟨k, n, hkp, rfl, rfl, hs, rfl⟩ := hrel
  by_cases hlt : k < ps.length
  ·have hi0 : (0 : Int) ≤ (k : Int) := by omega
   have hi1 : (k : Int) < (ps.length : Int) := by omega
   have hstep : Hid ((ps.take (k + 1)).flatten.length = (ps.take k).flatten.length + ps[k].length) := by show _ = _; rw [take_flatB ps k hlt, List.length_append]
   obtain ⟨a, c1, hc, -⟩ := HP.out.2 k ps[k] (List.getElem?_eq_getElem hlt)
   have x0 := (ROW.out.cell k).trans hc
   generalize ps[k] = l at *
   have hle : n + l.length ≤ N := by have := HLE.out (k + 1); have := hstep.out; have := hs.out; have := hN.out; omega
   have hwk : IntKind.i64.wrap ((k : Int) + 1) = (k : Int) + 1 := by rw [IntKind.wrap_i64]; omega
   have hwn : IntKind.i64.wrap ((n : Int) + (l.length : Int)) = (n : Int) + (l.length : Int) := by rw [IntKind.wrap_i64]; omega
   have hnn : ¬ (n : Int) + (l.length : Int) < 0 := by omega
   clear hc
   go_wp2_with fail
   go_roundw
   case rel => exact ⟨k + 1, n + l.length, by omega, by go_num, by go_num, by show _ = _; rw [hstep.out, hs.out], by first | rfl | trivial⟩
   case measure => simp [intOf]; omega
  ·obtain rfl : k = ps.length := by omega
   have hnN : n = N := by have := hs.out; rw [List.take_length] at this; rw [this, hN.out]
   subst hnN
   go_wp2_with fail
   go_fit HG.out
   rintro e w1 ⟨G, rfl, own, k1⟩
   have ROW1 := Lib.hid (ROW.out.keep k1 id)
   have HP1 := Lib.hid (HP.out.keep k1 (fun _ _ h => h))
   have hs1 := k1.size
   have OWN := Lib.hid own
   have HK1 := Lib.hid k1
   clear own k1 HG
   go_wp2_with fail
   go_loopw [6, 27] (fun s i wr => ∃ (k : Nat) (a : Option Addr) (cp : Nat), k ≤ ps.length ∧ i = .int .i64 (k : Int) ∧ s = .slice a (ps.take k).flatten.length cp ∧ wr.ownsRow w.heap.size 5 1 (.slice a (ps.take k).flatten.length cp) (ps.take k).flatten.length ((ps.take k).flatten.map bv) ∧ Keep Nix w wr) (fun _ i _ => ps.length - (intOf i).toNat)
   case atStart => exact ⟨0, _, G, Nat.zero_le _, rfl, rfl, OWN.out, HK1.out⟩
   case round =>
    clear OWN HK1 hkp hlt hs
    obtain ⟨k, a, cp, hkp, rfl, rfl, own, kk⟩ := hrel
    by_cases hlt : k < ps.length
    ·have hi0 : (0 : Int) ≤ (k : Int) := by omega
     have hi1 : (k : Int) < (ps.length : Int) := by omega
     have hstep : Hid ((ps.take (k + 1)).flatten = (ps.take k).flatten ++ ps[k]) := take_flatB ps k hlt
     obtain ⟨a2, c2, hc, hl⟩ := (HP.out.keep kk (fun _ _ h => h)).2 k ps[k] (List.getElem?_eq_getElem hlt)
     have x0 := ((ROW.out.keep kk id).cell k).trans hc
     generalize ps[k] = l at *
     have hwk : IntKind.i64.wrap ((k : Int) + 1) = (k : Int) + 1 := by rw [IntKind.wrap_i64]; omega
     have hle : (ps.take k).flatten.length + l.length ≤ n := by
      have h1 := HLE.out (k + 1)
      rw [hstep.out, List.length_append] at h1
      have := hN.out
      omega
     have HL := Lib.hid hl
     have HKK := Lib.hid kk
     have hsz := kk.size
     clear hc hl kk
     generalize (ps.take k).flatten = xs at *
     go_wp2_with (at_builtin; refine wpl_append (m := l.length) (c := c2) T_bytes ?hgd (.tmp 31) (.tmp 32) ?ho w.heap.size ?hs own (l.map bv) ?hx ?c0 HL.out ?c1 ?c2 ?c3 ?c4 ?_)
     case hgd => rfl
     case ho => rfl
     case hs => rfl
     case hx => rfl
     case c0 => simp
     case c1 => exact bv_one l
     case c2 => unfold maxLen; omega
     case c3 => omega
     case c4 => exact hsz
     intro a' cap' w2 own2 hg2
     have k2 : Keep (OwnB (.slice a xs.length cp)) wr w2 := (Keep.refl _ wr).grown hg2 (fun _ h _ => h)
     have hge : ∀ b, OwnB (.slice a xs.length cp) b → w.heap.size ≤ b := fun b hb => (own.lt b hb).1
     have kw := Lib.hid (HKK.out.then k2 (fun i hi h => by have := hge i h; omega))
     have OW2 := Lib.hid own2
     clear x0 own hg2 k2 hge own2
     go_wp2_with fail
     go_roundw
     case rel => exact ⟨k + 1, a', cap', by omega, by go_num, by rw [hstep.out, List.length_append], by rw [hstep.out, List.length_append, List.map_append]; exact OW2.out, kw.out⟩
     case measure => simp [intOf]; omega
    ·obtain rfl : k = ps.length := by omega
     rw [List.take_length] at own ⊢
     rw [hN.out] at own ⊢
     have HO := Lib.hid own
     have HKK := Lib.hid kk
     clear own kk
     go_wp2_with fail
     go_ret
     exact ⟨a, cp, rfl, HO.out, HKK.out⟩
end Go.Proofs.YtibaehlfpgipfaaGreat
