/- CodeBack: what is written, one behind the other, is read; nothing is left. For every input. -/
import Derived.Test.YtbjoemaejbmjaaaReadLaws
namespace Go.Proofs.Ytbjoemaejbmjaaa.codeBack
open Go.RowKit Go.ChangeShapes Go.WideShapes Go.ChangeAt

theorem drop_two (a b : List UInt8) (n : Nat) (h : n = a.length) : (a ++ b).drop n = b := by subst h; simp
set_option maxRecDepth 100000 in
set_option maxHeartbeats 1000000 in
theorem walk' (x : Nat) (i : Int) (a : Option Addr) (n cap : Nat) (l : List UInt8) (w : World) (hvlt : Hid (x < 2 ^ 64)) (hi : isI64 i) (hn : l.length = n) (hl : Lies w (· < w.heap.size) a (l.map bv)) (hr : n ≤ 140737488351232) :
    Calls Try.prog 9 #[.int .u64 x, .int .i64 i, .slice a n cap] w fun e w' => e = .returned (.bool true) ∧ Keep Nix w w' := by
  have hzlt : Hid ((zig i).toNat < 2 ^ 64) := by have := zig_u64 hi; unfold isU64 at this; show _ < _; omega
  have lv := numB_len x
  have lz := numB_len (zig i).toNat
  have lt := numB_len n
  go_enter Try.func9, Try.ntmps9
  go_wp2_with fail
  refine (num_c x _ (by unfold Fits; exact hvlt.out)).mono ?_
  rintro e w1 ⟨a1, c1, rfl, own1, k1⟩
  have kk := k1
  replace hl := hl.keep k1 (fun _ _ h => h)
  clear k1
  go_wp2_with fail
  refine (int_i _ _ hi).mono ?_
  rintro e w2 ⟨a2, c2, rfl, own2, k2⟩
  replace own1 := owned_keep own1 k2 (fun _ _ h => h)
  replace hl := hl.keep k2 (fun _ _ h => h)
  have kk2 := kk.trans k2
  go_wp2_with (at_builtin; refine wpl_append T_bytes rfl (.tmp 9) (.tmp 11) rfl w.heap.size rfl own1 ((numB (zig i).toNat).map bv) rfl (by simp) (Lies.of_owned own2) (bv_one _) (by unfold maxLen; omega) (by omega) kk2.size ?_)
  intro a3 c3 w3 own3 hg
  have k3 := Keep.grown (Keep.refl (OwnB (.slice a1 (numB x).length c1)) w2) hg (fun k hk _ => hk)
  have kk3 := kk2.then k3 (fun i hi h => absurd (own1.lt i h).1 (by omega))
  replace hl := hl.keep k3 (fun b hb h => absurd (own1.lt b h).1 (by have hb' : b < w.heap.size := hb; omega))
  clear own1 own2 hg k2 k3 kk kk2
  rw [← List.map_append] at own3
  go_wp2_with fail
  refine (text_c _ n _ l _ hn hl hr).mono ?_
  rintro e w4 ⟨a4, c4, rfl, own4, k4⟩
  replace own3 := owned_keep own3 k4 (fun _ _ h => h)
  replace hl := hl.keep k4 (fun _ _ h => h)
  have kk4 := kk3.trans k4
  have ltx : (textB l).length = (numB n).length + n := by simp [textB, hn]
  have LTX := Lib.hid ltx
  clear ltx k4 kk3
  go_wp2_with (at_builtin; refine wpl_append T_bytes rfl (.tmp 12) (.tmp 14) rfl w.heap.size rfl own3 ((textB l).map bv) rfl (by simp) (Lies.of_owned own4) (bv_one _) (by rw [LTX.out]; unfold maxLen; omega) (by rw [LTX.out]; omega) kk4.size ?_)
  intro a5 c5 w5 own5 hg
  have k5 := Keep.grown (Keep.refl (OwnB (.slice a3 ((numB x).length + (numB (zig i).toNat).length) c3)) w4) hg (fun k hk _ => hk)
  have kk5 := kk4.then k5 (fun i hi h => absurd (own3.lt i h).1 (by omega))
  replace hl := hl.keep k5 (fun b hb h => absurd (own3.lt b h).1 (by have hb' : b < w.heap.size := hb; omega))
  clear own3 own4 hg k5 kk4
  rw [← List.map_append, ← List.map_append] at own5
  go_wp2_with fail
  refine (New_rd _ _ _ (numB x ++ (numB (zig i).toNat ++ textB l)) _ (by simp; omega) (Lies.of_owned own5) (by rw [LTX.out]; omega)).mono ?_
  rintro e w6 ⟨r, rfl, hr6, rd, k6⟩
  replace hl := hl.keep k6 (fun _ _ h => h)
  have kk6 := kk5.trans k6
  have hrw : w.heap.size ≤ r := Nat.le_trans kk5.size hr6
  have hw5 := kk5.size
  clear own5 k6 kk5
  go_wp2_with fail
  refine (awake_c _).mono ?_
  rintro e w7 ⟨rfl, k7⟩
  replace hl := hl.keep k7 (fun _ _ h => h)
  replace rd := rd.nix k7
  have kk7 := kk6.trans k7
  clear k7 kk6
  by_cases hbig : 1048576 < n
  · go_wp2_with fail
    refine (awake_c _).mono ?_
    rintro e w8 ⟨rfl, k8⟩
    go_wp2
    go_ret
    exact ⟨rfl, kk7.trans k8⟩
  · have L1 := lookB_num x (numB (zig i).toNat ++ textB l) hvlt.out
    have L2 := lookB_num (zig i).toNat (textB l) hzlt.out
    have L3 := lookB_num n l (by omega)
    generalize hBB : numB x ++ (numB (zig i).toNat ++ textB l) = BB at rd
    have d1 : BB.drop (numB x).length = numB (zig i).toNat ++ textB l := by subst hBB; simp
    have d2 : BB.drop ((numB x).length + (numB (zig i).toNat).length) = textB l := by subst hBB; rw [← List.append_assoc]; exact drop_two _ _ _ (by simp)
    have d3 : BB.drop ((numB x).length + (numB (zig i).toNat).length + (numB n).length) = l := by
      rw [← List.drop_drop, d2, textB, hn]; simp
    have hlen : BB.length = (numB x).length + (numB (zig i).toNat).length + (numB n).length + n := by subst hBB; simp [textB, hn]; omega
    have s1 : numS maxU ⟨BB, 0, 0⟩ = (x, ⟨BB, (numB x).length, 0⟩) := by
      simp only [numS, List.drop_zero]
      rw [← hBB, L1, if_neg (by simp), if_neg (by simp), if_neg (by unfold maxU; have := hvlt.out; omega)]
      simp
    have s2 : numS maxU ⟨BB, (numB x).length, 0⟩ = ((zig i).toNat, ⟨BB, (numB x).length + (numB (zig i).toNat).length, 0⟩) := by
      simp only [numS, d1, L2]
      rw [if_neg (by simp), if_neg (by simp), if_neg (by unfold maxU; have := hzlt.out; omega)]
    have s3' : numS 1048576 ⟨BB, (numB x).length + (numB (zig i).toNat).length, 0⟩ = (n, ⟨BB, (numB x).length + (numB (zig i).toNat).length + (numB n).length, 0⟩) := by
      have e : textB l = numB n ++ l := by simp [textB, hn]
      simp only [numS, d2, e, L3]
      rw [if_neg (by simp), if_neg (by simp), if_neg (by omega)]
    have s3 : textS (1048576 : Int).toNat ⟨BB, (numB x).length + (numB (zig i).toNat).length, 0⟩ = (l, ⟨BB, BB.length, 0⟩) := by
      show textS 1048576 _ = _
      simp only [textS, s3', d3]
      rw [if_neg (by simp), if_neg (by simp), if_neg (by omega), hlen, List.take_of_length_le (by omega)]
    have z1 := zag_zig (i := i)
    have S1 := Lib.hid s1
    have S2 := Lib.hid s2
    have S3 := Lib.hid s3
    have Z1 := Lib.hid z1
    have t2 : (zag (zig i).toNat == i) = true := by rw [z1]; simp
    clear s1 s2 s3 s3' z1 d1 d2 d3 hlen hBB L1 L2 L3 hvlt hzlt
    go_wp2_with fail
    refine (Num_rd r _ _ _ rd).mono ?_
    rw [S1.out]
    rintro e w8 ⟨rfl, rd8, k8⟩
    replace hl := hl.keep k8 (fun b hb e => by have hb' : b < w.heap.size := hb; subst e; omega)
    have kk8 := kk7.then k8 (fun b hb e => by subst e; omega)
    clear k8 kk7
    go_wp2_with fail
    refine (Int_rd r _ _ _ rd8).mono ?_
    rw [S2.out]
    rintro e w9 ⟨rfl, rd9, k9⟩
    replace hl := hl.keep k9 (fun b hb e => by have hb' : b < w.heap.size := hb; subst e; omega)
    have kk9 := kk8.then k9 (fun b hb e => by subst e; omega)
    clear k9 kk8
    go_wp2_with fail
    refine (Text_rd r _ _ _ rd9 _ ?hm).mono ?_
    case hm => unfold isI64; omega
    rw [S3.out]
    rintro e w10 ⟨a10, c10, rfl, own10, rd10, k10⟩
    replace hl := hl.keep k10 (fun b hb e => by have hb' : b < w.heap.size := hb; subst e; omega)
    have kk10 := kk9.then k10 (fun b hb e => by subst e; omega)
    clear k10 kk9
    go_wp2_with fail
    go_fit (bytes_c a10 a n c10 n cap l l w10 hn hn (Lies.of_owned own10) hl)
    rintro e w11 ⟨rfl, rfl⟩
    rw [decide_eq_true (rfl : l = l)]
    go_wp2_with fail
    refine (End_rd r _ _ _ rd10).mono ?_
    rw [show endS ⟨BB, BB.length, 0⟩ = 0 by simp [endS]]
    rintro e w12 ⟨rfl, k12⟩
    have rd12 := rd10.nix k12
    have kk12 := kk10.trans k12
    clear k12 kk10
    go_wp2_with fail
    refine (Left_rd r _ _ _ rd12).mono ?_
    rw [show ((BB.length - BB.length : Nat) : Int) = 0 by simp]
    rintro e w13 ⟨rfl, k13⟩
    go_wp2
    go_ret
    exact ⟨rfl, kk12.trans k13⟩
theorem walk {m0 m1 m2 : Nat} (W : World) (v0 v1 v2 : Value) (h0 : Arg Try.prog W m0 22 v0) (h1 : Arg Try.prog W m1 2 v1) (h2 : Arg Try.prog W m2 24 v2) :
    Calls Try.prog 9 #[v0, v1, v2] W fun e w' => e = .returned (.bool true) ∧ Keep Nix W w' := by
  obtain ⟨a, rfl, wa⟩ := h0.int Try.underlying22
  obtain ⟨b, rfl, wb⟩ := h1.int Try.underlying2
  obtain ⟨c, n, cap, rfl, h3⟩ := h2.slice Try.underlying24
  obtain ⟨l, hn, hl, hr, hc, -⟩ := bytes_in Try.underlying24 Try.underlying5 (by kernel_rfl) (by kernel_rfl) h3
  have ha := isU64_wf wa
  obtain ⟨x, rfl⟩ := Int.eq_ofNat_of_zero_le ha.1
  exact walk' x b c n cap l W (by unfold isU64 at ha; show _ < _; omega) (isI64_wf wb) hn hl (by omega)
end Go.Proofs.Ytbjoemaejbmjaaa.codeBack
