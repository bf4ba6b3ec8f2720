/- DISK: awake, and the law DiskNil. Printed by mac.py. -/
import Derived.Test.YtdnbpfohmhhmkaaDk9
namespace Go.Proofs.Ytdnbpfohmhhmkaa
open Go.RowKit

theorem IsDisk.tight {w : World} {p : Nat → Prop} {g : Nat} {S : List (List UInt8)} {Q : List (Int × List UInt8)} {dn : Bool} {ar : Int} (h : IsDisk w p g S Q dn ar) : IsDisk w (fun b => p b ∧ b < w.heap.size) g S Q dn ar := by
  obtain ⟨aS, cS, aQ, cQ, h1, h2, h3, h4, h5, h6⟩ := h
  exact ⟨aS, cS, aQ, cQ, h1, h2, h3, ⟨h4, h1.lt⟩, fun b hb => ⟨⟨(h5 b hb).1, (h2.lt b hb).2⟩, (h5 b hb).2⟩, fun b hb => ⟨⟨(h6 b hb).1, (h3.lt b hb).2⟩, (h6 b hb).2⟩⟩
theorem ok0 : DiskOk (List.replicate 2 zero64) [] 0 := ⟨fun b hb => (by rw [List.eq_of_mem_replicate hb]; rfl), fun q hq => (List.not_mem_nil hq).elim, by decide, by decide, by decide⟩
theorem ok1 : DiskOk (List.replicate 2 zero64) [(0, secF [7])] 0 := ⟨ok0.s64, fun q hq => (by rw [List.mem_singleton] at hq; subst hq; exact ⟨secF_len [7], (by show (0 : Int) ≤ 0; decide), (by show (0 : Int) < ((List.replicate 2 zero64).length : Int); decide)⟩), by decide, by decide, by decide⟩
def S1 : List (List UInt8) := fallF (List.replicate 2 zero64) [(0, secF [7])] [3] 1
theorem ok2 : DiskOk S1 [] 0 := ⟨fall_64 ok1 [3] 1 (by decide), fun q hq => (List.not_mem_nil hq).elim, by unfold S1; rw [fall_len]; decide, by decide, by decide⟩
theorem lenS1 : S1.length = 2 := fall_len _ _ _ _
set_option maxRecDepth 100000 in
set_option maxHeartbeats 4000000 in
theorem dkawake_c (w : World) : Calls Try.prog 8 #[] w fun e w' => e = .returned (.bool true) ∧ Keep Nix w w' := by
  have HW : Hid (writeF (List.replicate 2 zero64) [] false 0 0 (secF [7]) = (0, [(0, secF [7])], false, 0)) := (by
    show _ = _
    unfold writeF
    rw [if_neg (by decide), if_neg (by rw [secF_len]; decide)]; rfl)
  have HR : Hid (showF S1 [] 0 = S1.getD 0 []) := rfl
  have HB : Hid ((S1.getD 0 [])[2]? = some 7 ∧ (S1.getD 0 [])[3]? = some 0) := (by show _ ∧ _; decide +kernel)
  go_enter Try.func8, Try.ntmps8
  go_wp2_with fail
  go_fit (new_c 2 (by decide) (by decide) _)
  rintro e w1 ⟨g, rfl, hd, k1⟩
  replace hd := hd.tight
  go_wp2_with fail
  have row7 := RowIs.alloc w1 #[.int .u8 7] 5
  have kA : Keep Nix w1 (w1.alloc (.cells #[.int .u8 7] 5)) := (Keep.refl Nix w1).alloc _
  go_fit (sector_c (p := fun b => b = w1.heap.size) (some ⟨w1.heap.size, 0, none⟩) 1 [7] _ (row7.lies (fun b => b = w1.heap.size) rfl (xs := [7].map bv) (off := 0) (fun j u hu => by rw [Nat.zero_add]; exact hu)) (by decide))
  rintro e w2 ⟨rfl, rowB, k2⟩
  have hd2 := hd.keep (kA.trans k2) (fun _ _ h => h)
  have hzA : w1.heap.size < (w1.alloc (.cells #[.int .u8 7] 5)).heap.size := by simp
  generalize (w1.alloc (.cells #[.int .u8 7] 5)).heap.size = B2 at *
  have HC := write_c (q := fun b => b = B2) g (List.replicate 2 zero64) [] false 0 0 (some ⟨B2, 0, none⟩) 64 (secF [7]) w2 hd2 ok0 (by decide) (rowB.lies (fun b => b = B2) rfl (xs := (secF [7]).map bv) (off := 0) (fun j u hu => by rw [Nat.zero_add]; exact hu)) (fun b hb h => by have := h.2; omega) (by rw [secF_len]; decide) (by decide)
  rw [secF_len, HW.out] at HC
  have HCC := Lib.hid HC
  clear HC
  go_wp2_with fail
  go_fit HCC.out
  rintro e w3 ⟨rfl, hd3, k3⟩
  clear HCC
  replace hd3 : IsDisk w3 _ g (List.replicate 2 zero64) [(0, secF [7])] false 0 := hd3
  replace hd3 := hd3.tight
  have kk : Keep Nix w w3 := ((k1.trans kA).trans k2).then k3 (fun i hi h => by have := h.1; omega)
  have hz2 := kk.size
  have hz22 : w.heap.size ≤ w2.heap.size := ((k1.trans kA).trans k2).size
  replace hd3 := hd3.mono (q := fun b => w.heap.size ≤ b ∧ b < w3.heap.size) (fun b hb => ⟨by rcases hb.1 with h | h <;> omega, hb.2⟩)
  clear k3 k2 kA hd2 hd k1 rowB row7
  go_wp2_with fail
  have row7 := RowIs.alloc w3 #[.int .i64 3] 3
  have kA : Keep Nix w3 (w3.alloc (.cells #[.int .i64 3] 3)) := (Keep.refl Nix w3).alloc _
  go_fit (crash_c (q := fun b => b = w3.heap.size) g (List.replicate 2 zero64) [(0, secF [7])] false 0 (some ⟨w3.heap.size, 0, none⟩) 1 [3] _ (hd3.keep kA (fun _ _ h => h)) ok1 (by decide) (row7.lies (fun b => b = w3.heap.size) rfl (xs := [3].map (Value.int .i64)) (off := 0) (fun j u hu => by rw [Nat.zero_add]; exact hu)) (fun b hb h => by have := h.2; omega) (by decide))
  rintro e w4 ⟨rfl, hd4, k4⟩
  replace hd4 : IsDisk w4 _ g S1 [] true 0 := hd4
  replace kk := (kk.trans kA).then k4 (fun i hi h => by have := h.1; omega)
  have hzA := kA.size
  replace hd4 := hd4.mono (q := fun b => w.heap.size ≤ b) (fun b hb => by rcases hb with h | h <;> omega)
  clear k4 kA row7 hd3
  obtain ⟨aS, cS, aQ, cQ, row, hown, howq, hp, hap, haq⟩ := hd4
  go_wp2_with fail
  go_fit (start_c g _ _ _ true _ row)
  rintro e w5 ⟨rfl, row5, k5⟩
  have hown5 := owned_keep hown k5 (fun b hb e => (hap b hb).2 e)
  have hd5 : IsDisk w5 (fun b => w.heap.size ≤ b) g S1 [] false 0 := ⟨aS, cS, none, 0, row5, hown5, ⟨rfl, .inl ⟨rfl, rfl⟩⟩, hp, hap, fun b hb => by cases hb⟩
  replace kk := kk.then k5 (fun i hi e => by omega)
  clear k5 hown row howq hap haq row5 hown5
  go_wp2_with fail
  go_fit (read_c g S1 [] 0 0 _ hd5 ok2 (by decide) (by decide) (by rw [lenS1]; decide))
  rw [HR.out]
  rintro e w6 ⟨g6, rfl, hg6, row6, k6⟩
  have y2 := (row6.cell 2).trans (show ((S1.getD 0 []).map bv)[2]? = some (.int .u8 7) by rw [List.getElem?_map, HB.out.1]; rfl)
  have y3 := (row6.cell 3).trans (show ((S1.getD 0 []).map bv)[3]? = some (.int .u8 0) by rw [List.getElem?_map, HB.out.2]; rfl)
  replace kk := kk.trans k6
  clear row6 k6 hd5
  go_wp2_with fail
  go_ret
  exact ⟨rfl, kk⟩
end Go.Proofs.Ytdnbpfohmhhmkaa
