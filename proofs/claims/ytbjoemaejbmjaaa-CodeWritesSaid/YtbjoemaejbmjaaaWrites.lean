/- CodeWrites: the bytes of any number and text; what is handed in stays. For every input. -/
import Derived.Test.YtbjoemaejbmjaaaCode
namespace Go.Proofs.Ytbjoemaejbmjaaa.codeWrites
open Go.RowKit Go.ChangeShapes Go.WideShapes Go.ChangeAt

set_option maxRecDepth 100000 in
set_option maxHeartbeats 1000000 in
theorem walk' (v i : Int) (a : Option Addr) (n cap : Nat) (l : List UInt8) (w : World) (hv : isU64 v) (hi : isI64 i) (hn : l.length = n) (hl : Lies w (· < w.heap.size) a (l.map bv)) (hr : n ≤ 140737488351232) :
    Calls Try.prog 4 #[.int .u64 v, .int .i64 i, .slice a n cap] w fun e w' => e = .returned (.bool true) ∧ Keep Nix w w' := by
  have kk := Keep.refl Nix w
  go_enter Try.func4, Try.ntmps4
  go_wp2_with fail
  refine (ownB_c a n cap l 71 w hn hl hr).mono ?_
  rintro e w1 ⟨b, rfl, hb, row, k1⟩
  have hl1 := hl.keep k1 (fun _ _ h => h)
  have lies1 : Lies w1 (fun _ => True) (some ⟨b, 0, none⟩) (l.map bv) := row.lies _ trivial (fun j u hu => by
    rw [List.map_append, Nat.zero_add, List.getElem?_append_left (List.getElem?_eq_some_iff.1 hu).1]; exact hu)
  replace kk := kk.trans k1
  clear hl
  go_wp2_with fail
  refine (text_c _ n _ l _ hn lies1 hr).mono ?_
  rintro e w2 ⟨at', ct, rfl, ownt, k2⟩
  have hl2 := hl1.keep k2 (fun _ _ h => h)
  have row2 := row.keep k2 id
  replace kk := kk.trans k2
  clear hl1 row lies1 k1
  go_wp2_with fail
  refine (awake_c _).mono ?_
  rintro e w3 ⟨rfl, k3⟩
  have hl3 := hl2.keep k3 (fun _ _ h => h)
  have row3 := row2.keep k3 id
  have liest := (Lies.of_owned ownt).keep k3 (fun _ _ h => h)
  replace kk := kk.trans k3
  clear hl2 row2 k2 ownt
  go_wp2_with fail
  refine (num_i _ _ hv).mono ?_
  rintro e w4 ⟨a4, c4, rfl, own4, k4⟩
  have hl4 := hl3.keep k4 (fun _ _ h => h)
  have row4 := row3.keep k4 id
  replace liest := liest.keep k4 (fun _ _ h => h)
  replace kk := kk.trans k4
  clear hl3 row3 k3
  go_wp2_with fail
  refine (rnum_i _ _ hv).mono ?_
  rintro e w5 ⟨a5, c5, rfl, own5, k5⟩
  have hl5 := hl4.keep k5 (fun _ _ h => h)
  have row5 := row4.keep k5 id
  have l4 := (Lies.of_owned own4).keep k5 (fun _ _ h => h)
  have l5 := Lies.of_owned own5
  replace liest := liest.keep k5 (fun _ _ h => h)
  replace kk := kk.trans k5
  clear hl4 row4 k4 own4 own5 k5
  go_wp2_with fail
  refine (bytes_c _ _ _ _ _ _ _ _ _ rfl rfl l4 l5).mono ?_
  rintro e w5' ⟨rfl, rfl⟩
  clear l4 l5
  have d1 : decide (numB v.toNat = numB v.toNat) = true := decide_eq_true rfl
  rw [d1]
  clear d1
  go_wp2_with fail
  refine (int_i _ _ hi).mono ?_
  rintro e w6 ⟨a6, c6, rfl, own6, k6⟩
  have hl6 := hl5.keep k6 (fun _ _ h => h)
  have row6 := row5.keep k6 id
  replace liest := liest.keep k6 (fun _ _ h => h)
  replace kk := kk.trans k6
  clear hl5 row5 k6
  go_wp2_with fail
  refine (rint_i _ _ hi).mono ?_
  rintro e w7 ⟨a7, c7, rfl, own7, k7⟩
  have hl7 := hl6.keep k7 (fun _ _ h => h)
  have row7 := row6.keep k7 id
  have l6 := (Lies.of_owned own6).keep k7 (fun _ _ h => h)
  have l7 := Lies.of_owned own7
  replace liest := liest.keep k7 (fun _ _ h => h)
  replace kk := kk.trans k7
  clear hl6 row6 own6 own7 k7
  go_wp2_with fail
  refine (bytes_c _ _ _ _ _ _ _ _ _ rfl rfl l6 l7).mono ?_
  rintro e w7' ⟨rfl, rfl⟩
  clear l6 l7
  have d1 : decide (numB (zig i).toNat = numB (zig i).toNat) = true := decide_eq_true rfl
  rw [d1]
  clear d1
  go_wp2_with fail
  refine (rtext_c _ n _ l _ hn hl7 hr).mono ?_
  rintro e w8 ⟨a8, c8, rfl, own8, k8⟩
  have hl8 := hl7.keep k8 (fun _ _ h => h)
  have row8 := row7.keep k8 id
  replace liest := liest.keep k8 (fun _ _ h => h)
  replace kk := kk.trans k8
  have l8 := Lies.of_owned own8
  clear hl7 row7 own8 k8
  go_wp2_with fail
  refine (bytes_c _ _ _ _ _ _ _ _ _ rfl rfl liest l8).mono ?_
  rintro e w8' ⟨rfl, rfl⟩
  clear liest l8
  have d1 : decide (textB l = textB l) = true := decide_eq_true rfl
  rw [d1]
  clear d1
  go_wp2_with fail
  refine (keptB_c b a n cap l 71 _ hn hl8 hr row8).mono ?_
  rintro e w9 ⟨rfl, k9⟩
  replace kk := kk.trans k9
  clear hl8 row8 k9
  go_wp2
  go_ret
  exact ⟨rfl, kk⟩
theorem walk {m0 m1 m2 : Nat} (W : World) (v0 v1 v2 : Value) (h0 : Arg Try.prog W m0 22 v0) (h1 : Arg Try.prog W m1 2 v1) (h2 : Arg Try.prog W m2 24 v2) :
    Calls Try.prog 4 #[v0, v1, v2] W fun e w' => e = .returned (.bool true) ∧ Keep Nix W w' := by
  obtain ⟨a, rfl, wa⟩ := h0.int Try.underlying22
  obtain ⟨b, rfl, wb⟩ := h1.int Try.underlying2
  obtain ⟨c, n, cap, rfl, h3⟩ := h2.slice Try.underlying24
  obtain ⟨l, hn, hl, hr, hc, -⟩ := bytes_in Try.underlying24 Try.underlying5 (by kernel_rfl) (by kernel_rfl) h3
  exact walk' a b c n cap l W (isU64_wf wa) (isI64_wf wb) hn hl (by omega)
end Go.Proofs.Ytbjoemaejbmjaaa.codeWrites
