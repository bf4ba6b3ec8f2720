/- DEDUP: Do of other bytes, of a nil machine; Told. Printed by mac.py. -/
import Derived.Test.YthchpdflnpfjkaaQDed2
namespace Go.Proofs.Ythchpdflnpfjkaa
open Go.RowKit

section
attribute [local go_sem ↓] ldz_told stz_told stz_Call
set_option maxRecDepth 100000 in
set_option maxHeartbeats 4000000 in
theorem do_nil {p : Nat → Prop} (a : Option Addr) (nn ca : Nat) (l : List UInt8) (w : World) (hn : l.length = nn) (ha : Lies w p a (l.map bv)) (hr0 : nn ≤ 140737488355328) :
    Calls Try.prog 11 #[.pointer none, .slice a nn ca] w fun e w' => e = .returned (.slice none 0 0) ∧ Keep Nix w w' := by
  have ht := wTakeCall_c a nn ca l w hn ha hr0
  generalize takeP pGCall zGCall l = y at ht
  obtain ⟨x, er⟩ := y
  replace ht := Lib.hid ht
  clear ha hn
  go_enter Try.func11, Try.ntmps11
  go_wp2_with fail
  go_fit ht.out
  rintro e w1 ⟨cs, rfl, hR, -, k1⟩
  obtain ⟨aX, cX, rfl, hc, hs, hd, -⟩ := rGCall_open (wGCall_to hR)
  clear ht hR
  have rowZ : RowIs (w1.alloc (.cells #[.int .u64 0, .int .u64 0, .slice none 0 0] 35)) w1.heap.size 35 [.int .u64 0, .int .u64 0, .slice none 0 0] := RowIs.alloc w1 _ _
  have hst := store_run (P := Try.prog) (cs := [.int .u64 x.fClient, .int .u64 x.fSeq, .slice aX x.fData.length cX]) S_Call rowZ rfl rfl rfl
  have k2 : Keep Nix w1 ((w1.alloc (.cells #[.int .u64 0, .int .u64 0, .slice none 0 0] 35)).setRow w1.heap.size [.int .u64 x.fClient, .int .u64 x.fSeq, .slice aX x.fData.length cX].toArray) := ((Keep.refl Nix w1).alloc (.cells #[.int .u64 0, .int .u64 0, .slice none 0 0] 35)).setRow (fun h => absurd h (Nat.lt_irrefl _)) _
  have kk := k1.trans k2
  clear hd k1 k2 rowZ
  go_wp2_with fail
  go_ret
  exact ⟨rfl, kk⟩
set_option maxRecDepth 100000 in
set_option maxHeartbeats 4000000 in
theorem do_bad {p : Nat → Prop} (O : Nat → Prop) (bD bT n : Nat) (tp : List (List UInt8)) (last : Last) (a : Option Addr) (nn ca : Nat) (l : List UInt8) (w : World) (hn : l.length = nn) (ha : Lies w p a (l.map bv)) (hr0 : nn ≤ 140737488355328)
    (hm : Mach w O bD bT n tp last) (hx : (takeP pGCall zGCall l).2 ≠ 0) :
    Calls Try.prog 11 #[.pointer (some ⟨bD, 0, none⟩), .slice a nn ca] w fun e w' => e = .returned (.slice none 0 0) ∧ Keep Nix w w' := by
  have ht := wTakeCall_c a nn ca l w hn ha hr0
  generalize takeP pGCall zGCall l = y at ht hx
  obtain ⟨x, er⟩ := y
  replace ht := Lib.hid ht
  have hx : er ≠ 0 := hx
  have HM := Lib.hid hm
  have hq : ∀ w', (binOp .eql 61 (.iface 24 (.pointer (some ⟨bT, 0, none⟩))) .nilIface).run Try.prog w' = .ok (.bool false) w' := fun _ => by rfl
  clear ha hn hm
  go_enter Try.func11, Try.ntmps11
  go_wp2_with fail
  go_fit ht.out
  rintro e w1 ⟨cs, rfl, hR, -, k1⟩
  obtain ⟨aX, cX, rfl, hc, hs, hd, -⟩ := rGCall_open (wGCall_to hR)
  clear ht hR
  have rowZ : RowIs (w1.alloc (.cells #[.int .u64 0, .int .u64 0, .slice none 0 0] 35)) w1.heap.size 35 [.int .u64 0, .int .u64 0, .slice none 0 0] := RowIs.alloc w1 _ _
  have hst := store_run (P := Try.prog) (cs := [.int .u64 x.fClient, .int .u64 x.fSeq, .slice aX x.fData.length cX]) S_Call rowZ rfl rfl rfl
  have k2 : Keep Nix w1 ((w1.alloc (.cells #[.int .u64 0, .int .u64 0, .slice none 0 0] 35)).setRow w1.heap.size [.int .u64 x.fClient, .int .u64 x.fSeq, .slice aX x.fData.length cX].toArray) := ((Keep.refl Nix w1).alloc (.cells #[.int .u64 0, .int .u64 0, .slice none 0 0] 35)).setRow (fun h => absurd h (Nat.lt_irrefl _)) _
  have kk := k1.trans k2
  obtain ⟨-, bM, g, D, rowD, -, -, -⟩ := HM.out.keep kk (fun _ _ => id)
  have d0 := rowD.cell 0
  (try simp only [List.getElem?_cons_succ] at d0); (try simp only [List.getElem?_cons_zero] at d0)
  clear hd k1 k2 rowZ
  go_wp2_with fail
  go_ret
  exact ⟨rfl, kk⟩
/-- What Told tells. -/
def toldS (last : Last) (client seq : Int) : List UInt8 × Bool := match last client with | some y => if y.1 = seq then (y.2, true) else ([], false) | none => ([], false)
theorem toldNil_c (c s : Int) (w : World) : Calls Try.prog 13 #[.pointer none, .int .u64 c, .int .u64 s] w fun e w' => e = .returned (.tuple #[.slice none 0 0, .bool false]) ∧ w = w' := by
  go_enter Try.func13, Try.ntmps13
  go_wp2_with fail
  go_ret2
  exact ⟨rfl, rfl⟩
set_option maxRecDepth 100000 in
set_option maxHeartbeats 4000000 in
theorem told_c (O : Nat → Prop) (bD bT n : Nat) (tp : List (List UInt8)) (last : Last) (c s : Int) (w : World) (hm : Mach w O bD bT n tp last) (hc : isU64 c) (hs : isU64 s) :
    Calls Try.prog 13 #[.pointer (some ⟨bD, 0, none⟩), .int .u64 c, .int .u64 s] w fun e w' => ∃ (a : Option Addr) (cap : Nat), e = .returned (.tuple #[.slice a (toldS last c s).1.length cap, .bool (toldS last c s).2]) ∧
      w'.ownsRow w.heap.size 5 1 (.slice a (toldS last c s).1.length cap) (toldS last c s).1.length ((toldS last c s).1.map bv) ∧ Keep Nix w w' := by
  obtain ⟨hlt, bM, g, D, rowD, tpe, pa, mp⟩ := hm
  obtain ⟨v, hv, ⟨aT, cT, rfl, hla, hll, hls⟩, hhas⟩ := mp.2 c hc
  have hlk := look_run_ok mp.1 hc hv
  rw [hhas] at hlk
  have d1 := rowD.cell 1
  (try simp only [List.getElem?_cons_succ] at d1); (try simp only [List.getElem?_cons_zero] at d1)
  have rowX := RowIs.alloc w #[.int .u64 0, .slice none 0 0] 73
  have kA : Keep Nix w ((w.alloc (.cells #[.int .u64 0, .slice none 0 0] 73)).setRow w.heap.size [.int .u64 (seqO (last c)), .slice aT (ansO (last c)).length cT].toArray) := ((Keep.refl Nix w).alloc (.cells #[.int .u64 0, .slice none 0 0] 73)).setRow (fun h => absurd h (Nat.lt_irrefl _)) _
  have hst := store_run (P := Try.prog) (cs := [.int .u64 (seqO (last c)), .slice aT (ansO (last c)).length cT]) S_told rowX rfl rfl rfl
  have rowX := rowX.setRow [.int .u64 (seqO (last c)), .slice aT (ansO (last c)).length cT]
  have hla := hla.keep kA (fun _ _ => id)
  have hsz : w.heap.size ≤ ((w.alloc (.cells #[.int .u64 0, .slice none 0 0] 73)).setRow w.heap.size [.int .u64 (seqO (last c)), .slice aT (ansO (last c)).length cT].toArray).heap.size := kA.size
  have x0 := rowX.cell 0
  (try simp only [List.getElem?_cons_succ] at x0); (try simp only [List.getElem?_cons_zero] at x0)
  have x1 := rowX.cell 1
  (try simp only [List.getElem?_cons_succ] at x1); (try simp only [List.getElem?_cons_zero] at x1)
  obtain ⟨y, hy⟩ : ∃ y, Hid (toldS last c s = y) := ⟨_, rfl⟩
  rw [hy.out]
  have hy' : Hid (y = match last c with | some y => if y.1 = s then (y.2, true) else ([], false) | none => ([], false)) := hy.out.symm
  generalize last c = LC at *
  clear hv mp tpe pa hlt hhas rowD rowX hy
  cases LC with
  | none =>
    go_enter Try.func13, Try.ntmps13
    simp only [Option.isSome_none] at hlk
    go_wp2_with fail
    go_ret2
    obtain rfl := hy'.out
    exact ⟨none, 0, rfl, World.ownsRow_nil _ _ _ _, kA⟩
  | some z =>
    obtain ⟨z1, z2⟩ := z
    simp only [seqO, ansO] at hlk hla hll hls x0 x1 hst kA hsz
    simp only [Option.isSome_some] at hlk
    by_cases h : z1 = s
    · subst h
      go_enter Try.func13, Try.ntmps13
      go_wp2_with fail
      go_fit (cl_c aT z2.length cT z2 _ rfl hla hll)
      rintro e w5 ⟨a5, c5, rfl, own5, k5⟩
      go_wp2_with fail
      go_ret2
      obtain rfl : y = (z2, true) := by rw [hy'.out]; simp
      exact ⟨a5, c5, rfl, owned_base own5 hsz, kA.trans k5⟩
    · go_enter Try.func13, Try.ntmps13
      go_wp2_with fail
      go_ret2
      obtain rfl : y = ([], false) := by rw [hy'.out]; simp [h]
      exact ⟨none, 0, rfl, World.ownsRow_nil _ _ _ _, kA⟩
end
end Go.Proofs.Ythchpdflnpfjkaa
