/- CodeOneForm: a number that is read, written again, is the same bytes; no number's bytes begin another one's. For every input. -/
import Derived.Test.YtbjoemaejbmjaaaReadLaws
namespace Go.Proofs.Ytbjoemaejbmjaaa.codeOneForm
open Go.RowKit Go.ChangeShapes Go.WideShapes Go.ChangeAt

theorem numS_new (l : List UInt8) : numS maxU ⟨l, 0, 0⟩ = ((lookB l).1, ⟨l, (lookB l).2.1, (lookB l).2.2⟩) := by
  simp only [numS, List.drop_zero]
  rw [if_neg (by simp)]
  rcases lookB_fine l with ⟨a, b, -, -, -⟩ | ⟨a, b, c⟩
  · rw [if_neg (by simpa using a), if_neg (by unfold maxU; omega), a]; simp
  · rw [if_pos (by omega), b, c]
set_option maxRecDepth 100000 in
set_option maxHeartbeats 1000000 in
theorem walk' (x : Nat) (a : Option Addr) (n cap : Nat) (l : List UInt8) (w : World) (hx : Hid (x < 2 ^ 64)) (hn : Hid (l.length = n)) (hl : Lies w (· < w.heap.size) a (l.map bv)) (hr : n ≤ 140737488351232) (hc : n ≤ cap) :
    Calls Try.prog 5 #[.slice a n cap, .int .u64 x] w fun e w' => e = .returned (.bool true) ∧ Keep Nix w w' := by
  have hn' : (lookB l).2.1 ≤ n := by rw [← hn.out]; rcases lookB_fine l with ⟨-, -, -, a, -⟩ | ⟨-, -, a⟩ <;> omega
  have lx := numB_len x
  have L1 := Lib.hid (numS_new l)
  have L2 : Hid (numS maxU ⟨(numB x).dropLast, 0, 0⟩ = (0, ⟨(numB x).dropLast, 0, 8⟩)) := by
    have := numS_new (numB x).dropLast
    rwa [lookB_cut] at this
  have hform := Lib.hid (lookB_form l)
  have hv64 : Hid ((lookB l).1 < 2 ^ 64) := by
    show _ < _
    rcases lookB_fine l with ⟨-, a, -⟩ | ⟨-, a, -⟩
    · exact a
    · rw [a]; decide
  go_enter Try.func5, Try.ntmps5
  go_wp2_with fail
  go_fit (New_rd a n cap l w hn.out hl (by omega))
  rintro e w1 ⟨r, rfl, hr1, rd, k1⟩
  replace hl := hl.keep k1 (fun _ _ h => h)
  have kk := k1
  clear k1
  go_wp2_with fail
  go_fit (awake_c w1)
  rintro e w2 ⟨rfl, k2⟩
  replace hl := hl.keep k2 (fun _ _ h => h)
  replace rd := rd.nix k2
  have kk2 := kk.trans k2
  clear k2 kk
  go_wp2_with fail
  go_fit (Num_rd r _ _ _ rd)
  rw [L1.out]
  rintro e w3 ⟨rfl, rd3, k3⟩
  replace hl := hl.keep k3 (fun b hb e => by have hb' : b < w.heap.size := hb; subst e; omega)
  have kk3 := kk2.then k3 (fun b hb e => by subst e; omega)
  clear k3 kk2 rd
  go_wp2_with fail
  go_fit (Left_rd r _ _ _ rd3)
  simp only [hn.out]
  rintro e w4 ⟨rfl, k4⟩
  replace hl := hl.keep k4 (fun _ _ h => h)
  replace rd3 := rd3.nix k4
  have kk4 := kk3.trans k4
  clear k4 kk3
  go_wp2_with fail
  have hkk : Keep Nix w w4 := kk4
  clear kk4
  have i1 : (n : Int) - ((n - (lookB l).2.1 : Nat) : Int) = ((lookB l).2.1 : Int) := by omega
  rcases test_eq (lookB l).2.2 0 with ⟨te, he⟩ | ⟨te, he⟩
  · have hx1 : isU64 ((lookB l).1 : Int) := by have := hv64.out; unfold isU64; omega
    have rd4 := rd3.same (w' := w4.drew)
    have kk4 := hkk.same (c := w4.drew)
    replace hl := hl.same (w' := w4.drew)
    have hsl := (hl.take (lookB l).2.1)
    rw [← List.map_take, ← hform.out he.out] at hsl
    have hlen : Hid ((numB (lookB l).1).length = (lookB l).2.1) := by
      show _ = _
      rw [hform.out he.out, List.length_take, hn.out]; omega
    clear hl hkk rd3
    go_region_with (first
      | (go_at_call 23; go_fit (Err_rd r _ _ _ rd4); rintro e w5 ⟨rfl, k5⟩)
      | (go_at_call 11; go_fit (num_i _ _ hx1); rintro e w6 ⟨a6, c6, rfl, own6, k6⟩)
      | (go_at_call 15; go_loud (go_fit (bytes_c _ _ _ _ _ _ (numB (lookB l).1) (numB (lookB l).1) _ rfl hlen.out (Lies.of_owned own6) (hsl.keep (k5.trans k6) (fun _ _ h => h)))); rintro e w7 ⟨rfl, rfl⟩))
    all_goals
      have kk6 := (kk4.trans k5).trans k6
      clear own6 hsl rd4 k5 k6 kk4
      go_wp2_with fail
      go_fit (num_c x _ (by unfold Fits; exact hx.out))
      rintro e w8 ⟨a8, c8, rfl, own8, k8⟩
      have kk8 := kk6.trans k8
      have hb8 := owned_bounds own8
      have hd8 := ((Lies.of_owned own8).take ((numB x).length - 1))
      rw [← List.map_take, ← List.dropLast_eq_take] at hd8
      clear own8 kk6 k8
      go_wp2_with fail
      go_fit (New_rd a8 ((numB x).length - 1) c8 (numB x).dropLast w8 (by simp) hd8 (by omega))
      rintro e w9 ⟨r9, rfl, hr9, rd9, k9⟩
      have kk9 := kk8.trans k9
      have hw8 := kk8.size
      clear kk8 k9 hd8
      go_wp2_with fail
      go_fit (Num_rd r9 _ _ _ rd9)
      rw [L2.out]
      rintro e w10 ⟨rfl, rd10, k10⟩
      have kk10 := kk9.then k10 (fun b hb e => by subst e; omega)
      clear rd9 k10
      go_wp2_with fail
      go_fit (Err_rd r9 _ _ _ rd10)
      rintro e w11 ⟨rfl, k11⟩
      go_wp2
      go_ret
      exact ⟨rfl, kk10.trans k11⟩
  · clear hl
    go_quiet ((go_at_call 23; exact quiet_eq (Err_rq r _ _ _ rd3.same)))
    ·
      have kk6 := hkk.same (c := w4.drewN nq)
      clear hkk rd3
      go_wp2_with fail
      go_fit (num_c x _ (by unfold Fits; exact hx.out))
      rintro e w8 ⟨a8, c8, rfl, own8, k8⟩
      have kk8 := kk6.trans k8
      have hb8 := owned_bounds own8
      have hd8 := ((Lies.of_owned own8).take ((numB x).length - 1))
      rw [← List.map_take, ← List.dropLast_eq_take] at hd8
      clear own8 kk6 k8
      go_wp2_with fail
      go_fit (New_rd a8 ((numB x).length - 1) c8 (numB x).dropLast w8 (by simp) hd8 (by omega))
      rintro e w9 ⟨r9, rfl, hr9, rd9, k9⟩
      have kk9 := kk8.trans k9
      have hw8 := kk8.size
      clear kk8 k9 hd8
      go_wp2_with fail
      go_fit (Num_rd r9 _ _ _ rd9)
      rw [L2.out]
      rintro e w10 ⟨rfl, rd10, k10⟩
      have kk10 := kk9.then k10 (fun b hb e => by subst e; omega)
      clear rd9 k10
      go_wp2_with fail
      go_fit (Err_rd r9 _ _ _ rd10)
      rintro e w11 ⟨rfl, k11⟩
      go_wp2
      go_ret
      exact ⟨rfl, kk10.trans k11⟩
theorem walk {m0 m1 : Nat} (W : World) (v0 v1 : Value) (h0 : Arg Try.prog W m0 24 v0) (h1 : Arg Try.prog W m1 22 v1) :
    Calls Try.prog 5 #[v0, v1] W fun e w' => e = .returned (.bool true) ∧ Keep Nix W w' := by
  obtain ⟨a, rfl, wa⟩ := h1.int Try.underlying22
  obtain ⟨c, n, cap, rfl, h3⟩ := h0.slice Try.underlying24
  obtain ⟨l, hn, hl, hr, hc, -⟩ := bytes_in Try.underlying24 Try.underlying5 (by kernel_rfl) (by kernel_rfl) h3
  have ha := isU64_wf wa
  obtain ⟨x, rfl⟩ := Int.eq_ofNat_of_zero_le ha.1
  exact walk' x c n cap l W (by unfold isU64 at ha; show _ < _; omega) hn hl (by omega) hc
end Go.Proofs.Ytbjoemaejbmjaaa.codeOneForm
