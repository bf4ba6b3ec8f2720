/- DISK: New, Sector, Write of the program's disk. Printed by mac.py. -/
import Derived.Test.YtdnbpfohmhhmkaaDk2
import Derived.Deep.AppendLies
import Derived.Maps.AppendAt
namespace Go.Proofs.Ytdnbpfohmhhmkaa
open Go.RowKit

def zero64 : List UInt8 := List.replicate 64 0
theorem new_no (n : Int) (h : n < 1 ∨ 65536 < n) (w : World) : Calls Try.prog 7 #[.int .i64 n] w fun e w' => e = .returned (.tuple #[.pointer none, .int .i64 1]) ∧ w = w' := by
  rcases h with h | h
  · go_enter Try.func7, Try.ntmps7
    go_wp2
    go_ret2
    exact ⟨rfl, rfl⟩
  · have h' : 1 ≤ n := by omega
    go_enter Try.func7, Try.ntmps7
    go_wp2
    go_ret2
    exact ⟨rfl, rfl⟩
set_option maxRecDepth 100000 in
theorem new_c (n : Nat) (h1 : 1 ≤ n) (h2 : n ≤ 65536) (w : World) : Calls Try.prog 7 #[.int .i64 n] w fun e w' => ∃ g, e = .returned (.tuple #[.pointer (some ⟨g, 0, none⟩), .int .i64 0]) ∧ IsDisk w' (fun b => w.heap.size ≤ b) g (List.replicate n zero64) [] false 0 ∧ Keep Nix w w' := by
  have i1 : (1 : Int) ≤ (n : Int) := by omega
  have i2 : (n : Int) ≤ 65536 := by omega
  obtain ⟨i, hi, hz, hsz, hby⟩ := info_parts (by kernel_rfl : (Try.prog.info? 65).map (fun i => (i.zero, i.size, i.bytes)) = some (some (.agg (List.replicate 64 (bv 0)).toArray), 64, 64))
  obtain ⟨w1, hmk, hown, hgrow⟩ := run_make_full (P := Try.prog) w 0 59 65 i _ 64 Try.underlying59 hi hz hsz .i64 .i64 n (by rw [hby]; omega) (by unfold maxLen; omega) (by omega)
  have hb : ∀ w', (Instr.build 62 #[(0, .slice (some ⟨w.heap.size, 0, none⟩) n n)]).run Try.prog w' = .ok (.agg #[.slice (some ⟨w.heap.size, 0, none⟩) n n, .slice none 0 0, .bool false, .int .i64 0]) w' := fun w' => by kernel_rfl
  have hz2 : secs (List.replicate n zero64) = (madeCells (List.replicate 64 (bv 0)).toArray (n * 64)).toList := (made_zero n).symm
  have kk : Keep Nix w w1 := (Keep.refl Nix w).grown hgrow (fun k hk => nomatch hk)
  have HO : Hid (w1.ownsRow 0 65 64 (.slice (some ⟨w.heap.size, 0, none⟩) n n) n (secs (List.replicate n zero64))) := (by rw [hz2]; exact hown)
  have hlt : Hid (w.heap.size < w1.heap.size) := hown.lt w.heap.size rfl |>.2
  have HK := Lib.hid kk
  clear hown hgrow kk hz2 hz hsz hby hi
  go_enter Try.func7, Try.ntmps7
  go_wp2
  go_ret2
  refine ⟨w1.heap.size, rfl, ⟨some ⟨w.heap.size, 0, none⟩, n, none, 0, ?_, ?_, ?_, ?_, ?_, ?_⟩, HK.out.alloc _⟩
  · rw [List.length_replicate]; exact RowIs.alloc w1 _ _
  · rw [List.length_replicate]; exact owned_keep HO.out ((Keep.refl Nix _).alloc _) (fun _ _ h => h)
  · exact ⟨rfl, .inl ⟨rfl, rfl⟩⟩
  · exact HK.out.size
  · intro b hb'
    rw [List.length_replicate] at hb'
    cases hb'
    exact ⟨Nat.le_refl _, by show w.heap.size ≠ w1.heap.size; have := hlt.out; omega⟩
  · intro b hb'; cases hb'
/-! ### Sector of the laws -/
def secAt (l : List UInt8) (k : Nat) : List UInt8 := (List.range 64).map fun i => if i < k then l.getD (i % l.length) 0 else 0
def secF (l : List UInt8) : List UInt8 := if l = [] then zero64 else secAt l 64
theorem secAt_len (l : List UInt8) (k : Nat) : (secAt l k).length = 64 := by simp [secAt]
theorem secF_len (l : List UInt8) : (secF l).length = 64 := by unfold secF; split; exact List.length_replicate; exact secAt_len _ _
theorem secAt_zero (l : List UInt8) : secAt l 0 = zero64 := by unfold secAt zero64; rw [List.eq_replicate_iff]; simp
theorem secAt_succ (l : List UInt8) (k : Nat) : secAt l (k + 1) = (secAt l k).set k (l.getD (k % l.length) 0) := by
  unfold secAt
  apply List.ext_getElem
  · simp
  · intro i h1 h2
    rw [List.getElem_set]
    simp only [List.getElem_map, List.getElem_range]
    by_cases e : k = i
    · subst e; simp
    · rw [if_neg e]
      by_cases h : i < k
      · rw [if_pos h, if_pos (by omega)]
      · rw [if_neg h, if_neg (by omega)]
set_option maxRecDepth 100000 in
theorem sector_c {p : Nat → Prop} (a : Option Addr) (c : Nat) (l : List UInt8) (w : World) (hl : Lies w p a (l.map bv)) (hm : l.length ≤ 140737488351232) : Calls Try.prog 10 #[.slice a l.length c] w fun e w' => e = .returned (.slice (some ⟨w.heap.size, 0, none⟩) 64 64) ∧ RowIs w' w.heap.size 5 ((secF l).map bv) ∧ Keep Nix w w' := by
  obtain ⟨i, hi, hz, hsz, hby⟩ := info_parts (by kernel_rfl : (Try.prog.info? 5).map (fun i => (i.zero, i.size, i.bytes)) = some (some (.int .u8 0), 1, 1))
  obtain ⟨w1, hmk, hown, hgrow⟩ := run_make_full (P := Try.prog) w 0 22 5 i _ 1 Try.underlying22 hi hz hsz .i64 .i64 64 (by rw [hby]; decide) (by decide) (by omega)
  have kk : Keep Nix w w1 := (Keep.refl Nix w).grown hgrow (fun k hk => nomatch hk)
  have row : RowIs w1 w.heap.size 5 (zero64.map bv) := by
    obtain ⟨b, rest, e, -, h1, h2⟩ := RowIs.of_owned hown
    cases e
    have hr : rest = [] := by
      simp [size_madeCells] at h2
      exact h2
    subst hr
    rw [List.append_nil] at h1
    have e2 : (madeCells (Value.int .u8 0).cells (64 * 1)).toList = zero64.map bv := by
      show (madeCells #[Value.int .u8 0] 64).toList = _
      rw [toList_madeCells_one]; rfl
    rw [e2] at h1; exact h1
  replace hmk : (Instr.makeSlice 22 (.int .i64 64) (.int .i64 64)).run Try.prog w = .ok (.slice (some ⟨w.heap.size, 0, none⟩) 64 64) w1 := hmk
  have hn0 : (0 : Int) ≤ (l.length : Int) := by omega
  clear hown hgrow hz hsz hby hi
  by_cases he : l = []
  · subst he
    have HF : Hid (secF [] = zero64) := rfl
    have HR := Lib.hid row
    have HK := Lib.hid kk
    clear row kk hl hn0
    go_enter Try.func10, Try.ntmps10
    go_wp2
    refine wp_loop_rounds 1 ?_
    rw [rounds_succ]
    go_wp2
    go_ret
    rw [HF.out]
    exact ⟨rfl, HR.out, HK.out⟩
  · have hpos : (0 : Int) < (l.length : Int) := by have := List.length_pos_iff.2 he; omega
    have HF : Hid (secF l = secAt l 64) := by show secF l = _; unfold secF; rw [if_neg he]
    clear he
    go_enter Try.func10, Try.ntmps10
    go_wp2
    go_loopw [4] (fun i wr => ∃ k : Nat, k ≤ 64 ∧ i = .int .i64 k ∧ RowIs wr w.heap.size 5 ((secAt l k).map bv) ∧ Keep Nix w wr) (fun i _ => 64 - (intOf i).toNat)
    case atStart => exact ⟨0, by omega, rfl, by rw [secAt_zero]; exact row, kk⟩
    case round =>
      clear row kk
      obtain ⟨k, hk, rfl, row, kk⟩ := hrel
      rcases Nat.lt_or_ge k 64 with hlt | hlt
      · have hlt' : (k : Int) < 64 := by omega
        have hk0 : (0 : Int) ≤ (k : Int) := by omega
        obtain ⟨r, hr⟩ : ∃ r, k % l.length = r := ⟨_, rfl⟩
        have hmlt : r < l.length := by rw [← hr]; exact Nat.mod_lt _ (by omega)
        have hL := hl.keep kk (fun b _ h => h)
        obtain ⟨b, off, rfl, -, -, hc⟩ := hL (by intro e; rw [List.map_eq_nil_iff] at e; subst e; simp at hmlt)
        have hcell := hc r (bv (l.getD r 0)) (by simp [hmlt])
        have hm1 : (0 : Int) ≤ (r : Int) := by omega
        have hm2 : (r : Int) < (l.length : Int) := by omega
        have hemod : ((k : Int) % (l.length : Int)) = (r : Int) := by rw [← hr]; omega
        have x1 := (row.cell k).trans (List.getElem?_eq_getElem (by rw [List.length_map, secAt_len]; exact hlt))
        have f1 := row.frozen k
        have HR : Hid (RowIs (wr.setCell ⟨w.heap.size, k, none⟩ (bv (l.getD r 0))) w.heap.size 5 ((secAt l (k + 1)).map bv)) := (by rw [secAt_succ, List.map_set, hr]; exact row.set k _)
        have HK : Hid (Keep Nix w (wr.setCell ⟨w.heap.size, k, none⟩ (bv (l.getD r 0)))) := kk.setCell (fun h => absurd h (Nat.lt_irrefl _)) _
        generalize l.getD r 0 = u at *
        generalize ((secAt l k).map bv)[k]'(_) = uu at x1
        unfold bv at hcell
        clear hc hL row kk hmlt hr
        go_wp2
        go_roundw
        case rel => exact ⟨k + 1, by omega, by go_num, HR.out, HK.out⟩
        case measure => simp [intOf]; omega
      · have hlt' : (64 : Int) ≤ (k : Int) := by omega
        obtain rfl : k = 64 := by omega
        go_wp2
        go_ret
        rw [HF.out]
        exact ⟨rfl, row, kk⟩
end Go.Proofs.Ytdnbpfohmhhmkaa
