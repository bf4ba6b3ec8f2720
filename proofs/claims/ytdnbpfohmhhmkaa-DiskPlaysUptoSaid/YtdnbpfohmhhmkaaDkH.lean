/- DISK: the reference's Read. Printed by mac.py. -/
import Derived.Test.YtdnbpfohmhhmkaaDkG
namespace Go.Proofs.Ytdnbpfohmhhmkaa
open Go.RowKit

theorem rread_down (g : Nat) (s1 s2 s3 : Value) (n : Int) (w : World) (row : RowIs w g 49 [s1, s2, s3, .bool true]) : Calls Try.prog 18 #[.pointer (some ⟨g, 0, none⟩), .int .i64 n] w fun e w' => e = .returned (.tuple #[.slice none 0 0, .int .i64 3]) ∧ w = w' := by
  have x3 := row.cell 3
  (try simp only [List.getElem?_cons_succ] at x3); (try simp only [List.getElem?_cons_zero] at x3)
  go_enter Try.func18, Try.ntmps18
  go_wp2_with fail
  go_ret2
  exact ⟨rfl, rfl⟩
theorem rread_out (g : Nat) (a : Option Addr) (m c : Nat) (s2 s3 : Value) (n : Int) (w : World) (row : RowIs w g 49 [.slice a m c, s2, s3, .bool false]) (h : n < 0 ∨ (m : Int) ≤ n) : Calls Try.prog 18 #[.pointer (some ⟨g, 0, none⟩), .int .i64 n] w fun e w' => e = .returned (.tuple #[.slice none 0 0, .int .i64 1]) ∧ w = w' := by
  have x0 := row.cell 0
  (try simp only [List.getElem?_cons_succ] at x0); (try simp only [List.getElem?_cons_zero] at x0)
  have x3 := row.cell 3
  (try simp only [List.getElem?_cons_succ] at x3); (try simp only [List.getElem?_cons_zero] at x3)
  rcases (show n < 0 ∨ (0 ≤ n ∧ (m : Int) ≤ n) by omega) with h | ⟨h, h'⟩
  all_goals
    go_enter Try.func18, Try.ntmps18
    go_wp2_with fail
    go_ret2
    exact ⟨rfl, rfl⟩
theorem show_len {S : List (List UInt8)} {Q : List (Int × List UInt8)} {ar : Int} (ok : DiskOk S Q ar) {n : Int} (h0 : 0 ≤ n) (h1 : n < S.length) : (showF S Q n).length = 64 := by
  have := seen_len ok h0 h1 Q.length
  rw [List.take_length] at this
  exact this
section
attribute [local go_sem ↓] ldz_arr stz_arr
set_option maxRecDepth 100000 in
set_option maxHeartbeats 4000000 in
theorem rread_c {p : Nat → Prop} (g : Nat) (S : List (List UInt8)) (Q : List (Int × List UInt8)) (ar n : Int) (w : World) (hd : IsRef w p g S Q false ar) (ok : DiskOk S Q ar) (hQ : Q.length ≤ 1000) (h0 : 0 ≤ n) (h1 : n < S.length) :
    Calls Try.prog 18 #[.pointer (some ⟨g, 0, none⟩), .int .i64 n] w fun e w' => ∃ a cap, e = .returned (.tuple #[.slice a 64 cap, .int .i64 0]) ∧ Lies w' (fun b => w.heap.size ≤ b) a ((showF S Q n).map bv) ∧ Keep Nix w w' := by
  have HS := Lib.hid (rshow_c g S Q false ar n w hd ok hQ h0 h1)
  have hl := show_len ok h0 h1
  generalize showF S Q n = l at *
  obtain ⟨aS, cS, aQ, cQ, row, -⟩ := hd
  have hnS : S.length ≤ 65536 := ok.n
  have x0 := row.cell 0
  (try simp only [List.getElem?_cons_succ] at x0); (try simp only [List.getElem?_cons_zero] at x0)
  have x3 := row.cell 3
  (try simp only [List.getElem?_cons_succ] at x3); (try simp only [List.getElem?_cons_zero] at x3)
  have hz64 : ∀ w' : World, (zeroValue 64).run Try.prog w' = .ok (.agg zA.toArray) w' := fun w' => by kernel_rfl
  go_enter Try.func18, Try.ntmps18
  go_wp2_with fail
  go_fit HS.out
  rintro e w1 ⟨rfl, k1⟩
  obtain ⟨hst, rowT, kT⟩ := A_arr.boxed (P := Try.prog) (zs := zA) (cs := l.map bv) w1 (by decide) (by rw [List.length_map]; exact hl) (by rw [ones, List.all_eq_true]; exact fun u hu => bv_one _ u hu)
  have hs1 := k1.size
  have lie := rowT.lies (fun _ => True) trivial (xs := l.map bv) (off := 0) (fun j u hu => by rw [Nat.zero_add]; exact hu)
  have hs2 := kT.size
  clear x0 x3 HS row
  go_wp2_with (at_builtin; refine wpl_append T_bytes rfl (.const (.slice none 0 0)) (.tmp 25) rfl w.heap.size rfl (World.ownsRow_nil _ _ _ _) (l.map bv) rfl (by rw [List.length_map, hl]) lie (bv_one l) (by decide) (by decide) (by omega) ?_)
  intro a' cap' w2 own2 hg
  have kk : Keep Nix w w2 := ((k1.trans kT).grown hg (fun k hk => by cases hk))
  clear hg lie rowT hst
  go_wp2
  go_ret2
  exact ⟨a', cap', rfl, (Lies.of_owned own2).mono (fun b hb => hb.1), kk⟩
end
end Go.Proofs.Ytdnbpfohmhhmkaa
