/- THE WALKS of package code. -/
import Derived.Test.YtibaehlfpgipfaaGreatQZHelp
namespace Go.Proofs.YtibaehlfpgipfaaGreat
open Go.RowKit
theorem xor_ones (n : Nat) (h : n < 2 ^ 64) : bits BinOp.xor IntKind.u64 (n : Int) 18446744073709551615 = ((2 ^ 64 - 1 - n : Nat) : Int) := by
  show IntKind.u64.wrap (((BitVec.ofInt 64 (n : Int) ^^^ BitVec.ofInt 64 18446744073709551615 : BitVec 64).toNat : Nat) : Int) = _
  have e : BitVec.ofInt 64 18446744073709551615 = BitVec.allOnes 64 := by decide +kernel
  rw [IntKind.wrap_u64, e, BitVec.xor_allOnes]
  simp only [BitVec.toNat_not, BitVec.ofInt_natCast, BitVec.toNat_ofNat, Nat.mod_eq_of_lt h]
  omega
theorem xor_zero (n : Nat) (h : n < 2 ^ 64) : bits BinOp.xor IntKind.u64 (n : Int) 0 = (n : Int) := by
  show IntKind.u64.wrap (((BitVec.ofInt 64 (n : Int) ^^^ BitVec.ofInt 64 0 : BitVec 64).toNat : Nat) : Int) = _
  have e : BitVec.ofInt 64 0 = 0#64 := by decide +kernel
  rw [IntKind.wrap_u64, e, BitVec.xor_zero, BitVec.ofInt_natCast, BitVec.toNat_ofNat, Nat.mod_eq_of_lt h]
  omega
def zig (i : Int) : Int := if i < 0 then -(i + 1) * 2 + 1 else i * 2
theorem zig_u64 {i : Int} (h : isI64 i) : isU64 (zig i) := by unfold isI64 isU64 zig at *; split <;> omega
theorem zig_bits {i : Int} (h : isI64 i) : bits BinOp.xor IntKind.u64 (IntKind.u64.wrap (IntKind.u64.wrap i * 2)) (IntKind.u64.wrap (i / 9223372036854775808)) = zig i := by
  obtain ⟨h1, h2⟩ := h
  simp only [IntKind.wrap_u64]
  by_cases hi : i < 0
  · have e : i / 9223372036854775808 % 18446744073709551616 = 18446744073709551615 := by omega
    obtain ⟨n, hn⟩ := Int.eq_ofNat_of_zero_le (show 0 ≤ i % 18446744073709551616 * 2 % 18446744073709551616 by omega)
    rw [e, hn, xor_ones n (by omega)]
    unfold zig; rw [if_pos hi]; omega
  · have e : i / 9223372036854775808 % 18446744073709551616 = 0 := by omega
    obtain ⟨n, hn⟩ := Int.eq_ofNat_of_zero_le (show 0 ≤ i % 18446744073709551616 * 2 % 18446744073709551616 by omega)
    rw [e, hn, xor_zero n (by omega)]
    unfold zig; rw [if_neg hi]; omega
def numF : Nat → Nat → List UInt8
  | 0, v => [UInt8.ofNat v]
  | f + 1, v => if v < 128 then [UInt8.ofNat v] else UInt8.ofNat (v % 128 + 128) :: numF f (v / 128)
def numB (v : Nat) : List UInt8 := numF 9 v
def Fits (k v : Nat) : Prop := v < 2 ^ (64 - 7 * k)
theorem Fits.next {k v : Nat} (h : Fits k v) (hk : k ≤ 9) (hv : 128 ≤ v) : k + 1 ≤ 9 ∧ Fits (k + 1) (v / 128) := by
  unfold Fits at *
  by_cases h9 : k = 9
  · subst h9; simp at h; omega
  · refine ⟨by omega, ?_⟩
    have e : 64 - 7 * k = (64 - 7 * (k + 1)) + 7 := by omega
    rw [e, Nat.pow_add] at h
    exact Nat.div_lt_of_lt_mul (by rw [Nat.mul_comm]; simpa using h)
theorem numF_big (f v : Nat) (h : 128 ≤ v) : numF (f + 1) v = UInt8.ofNat (v % 128 + 128) :: numF f (v / 128) := by simp only [numF]; rw [if_neg (by omega)]
theorem numF_small (f v : Nat) (h : v < 128) : numF f v = [UInt8.ofNat v] := by cases f <;> simp [numF, h]
theorem numF_len (f v : Nat) : (numF f v).length ≤ f + 1 ∧ 1 ≤ (numF f v).length := by
  induction f generalizing v with
  | zero => simp [numF]
  | succ f ih => simp only [numF]; split <;> simp; exact (ih _).1
theorem numB_len (v : Nat) : (numB v).length ≤ 10 ∧ 1 ≤ (numB v).length := numF_len 9 v
theorem or128 (v : Nat) : bits BinOp.or IntKind.u8 ((v : Int) % 256) 128 = ((UInt8.ofNat (v % 128 + 128)).toNat : Int) := by
  have h : (v : Int) % 256 = ((v % 256 : Nat) : Int) := by omega
  rw [h]
  have hlt : v % 256 < 256 := Nat.mod_lt _ (by decide)
  have e : v % 128 + 128 = v % 256 % 128 + 128 := by omega
  rw [e]
  generalize v % 256 = m at hlt
  revert m
  decide +kernel
theorem map_snoc (l : List UInt8) (c : UInt8) (x : Int) (h : x = (c.toNat : Int)) : l.map bv ++ [Value.int .u8 x] = (l ++ [c]).map bv := by subst h; simp [bv]
theorem small8 (v : Nat) (h : v < 128) : (v : Int) = ((UInt8.ofNat v).toNat : Int) := by simp; omega
theorem len_snoc {α : Type} (l : List α) (c : α) : (l ++ [c]).length = l.length + 1 := by simp
set_option maxRecDepth 100000 in
set_option maxHeartbeats 400000 in
theorem num_c (v : Nat) (w : World) (h1 : Fits 0 v) :
    Calls Tryz.prog 28 #[.int .u64 v] w fun e w' => ∃ a cap, e = .returned (.slice a (numB v).length cap) ∧ w'.ownsRow w.heap.size 5 1 (.slice a (numB v).length cap) (numB v).length ((numB v).map bv) ∧ Keep Nix w w' := by
  go_enter Tryz.func28, Tryz.ntmps28
  go_wp2
  go_loopw [0, 3] (fun t b wr => ∃ (v' : Nat) (k : Nat) (l : List UInt8) (a : Option Addr) (cap : Nat), t = .int .u64 v' ∧ b = .slice a l.length cap ∧ Hid (l.length = k) ∧ k ≤ 9 ∧ Fits k v' ∧ Hid (numB v = l ++ numF (9 - k) v') ∧
      wr.ownsRow w.heap.size 5 1 (.slice a l.length cap) l.length (l.map bv) ∧ Keep Nix w wr) (fun t _ _ => (intOf t).toNat)
  case atStart => exact ⟨v, 0, [], _, _, rfl, rfl, rfl, by omega, h1, rfl, World.ownsRow_nil _ _ _ _, Keep.refl _ _⟩
  case round =>
    obtain ⟨v', k, l, a, cap, rfl, rfl, hlk, hk, hf, hn, hown, hb⟩ := hrel
    go_wp2_with (first
      | (at_builtin; refine wpl_append1 T_bytes rfl (.tmp 8) (.tmp 12) rfl w.heap.size rfl hown rfl rfl ?c1 ?c2 ?c3 hb.size ?_)
      | (at_builtin; refine wpl_append1 T_bytes rfl (.tmp 14) (.tmp 17) rfl w.heap.size rfl hown rfl rfl ?d1 ?d2 ?d3 hb.size ?_))
    case c1 | d1 => simp [Value.oneCell']
    case c2 | d2 => have := hlk.out; unfold maxLen; omega
    case c3 | d3 => have := hlk.out; omega
    · intro a' cap' w' hown' hk'
      have hbig : 128 ≤ v' := by omega
      have hnew : ∀ i, OwnB (.slice a l.length cap) i → w.heap.size ≤ i := fun i h => (hown.lt i h).1
      clear hown
      go_wp2
      go_roundw
      case rel =>
        have hx := hf.next hk hbig
        refine ⟨v' / 128, k + 1, l ++ [UInt8.ofNat (v' % 128 + 128)], a', cap', rfl, by simp, by simp [Hid, hlk.out], hx.1, hx.2, ?_, ?_, hb.then hk' ?_⟩
        · show numB v = _
          rw [hn.out, show 9 - k = (9 - (k + 1)) + 1 by omega, numF_big _ _ hbig, List.append_assoc]; rfl
        · rw [len_snoc, ← map_snoc _ _ _ (or128 v')]; exact hown'
        · exact fun i hi h => absurd (hnew i h) (by omega)
      case measure => simp [intOf]; omega
    · intro a' cap' w' hown' hk'
      have hnew : ∀ i, OwnB (.slice a l.length cap) i → w.heap.size ≤ i := fun i h => (hown.lt i h).1
      have hsm : v' < 128 := by omega
      clear hown
      go_wp2
      go_ret
      have e : numB v = l ++ [UInt8.ofNat v'] := by rw [hn.out, numF_small _ _ hsm]
      refine ⟨a', cap', by rw [e, len_snoc]; rfl, ?_, hb.then hk' fun i hi h => absurd (hnew i h) (by omega)⟩
      rw [e, len_snoc, ← map_snoc _ _ _ (small8 v' hsm)]; exact hown'
theorem isU64_fits {z : Int} (h : isU64 z) : Fits 0 z.toNat := by unfold isU64 at h; unfold Fits; omega
theorem num_i (z : Int) (w : World) (h : isU64 z) :
    Calls Tryz.prog 28 #[.int .u64 z] w fun e w' => ∃ a cap, e = .returned (.slice a (numB z.toNat).length cap) ∧ w'.ownsRow w.heap.size 5 1 (.slice a (numB z.toNat).length cap) (numB z.toNat).length ((numB z.toNat).map bv) ∧ Keep Nix w w' := by
  have e : z = (z.toNat : Int) := by have := h.1; omega
  have := num_c z.toNat w (isU64_fits h)
  rw [← e] at this
  exact this
theorem int_i (i : Int) (w : World) (h : isI64 i) :
    Calls Tryz.prog 173 #[.int .i64 i] w fun e w' => ∃ a cap, e = .returned (.slice a (numB (zig i).toNat).length cap) ∧ w'.ownsRow w.heap.size 5 1 (.slice a (numB (zig i).toNat).length cap) (numB (zig i).toNat).length ((numB (zig i).toNat).map bv) ∧ Keep Nix w w' := by
  go_enter Tryz.func173, Tryz.ntmps173
  go_wp2_with fail
  rw [zig_bits h]
  refine (num_i _ _ (zig_u64 h)).mono ?_
  rintro e w1 ⟨a, cap, rfl, hown, hk⟩
  go_wp2
  go_ret
  exact ⟨a, cap, rfl, hown, hk⟩
theorem cells_of_owned {w : World} {base : Nat} {e sz : Nat} {a : Option Addr} {n m cap : Nat} {xs : List Value} (h : w.ownsRow base e sz (.slice a n cap) m xs) (hx : xs ≠ []) : ∃ b, a = some ⟨b, 0, none⟩ ∧ base ≤ b ∧ b < w.heap.size ∧ ∀ j u, xs[j]? = some u → w.cell? ⟨b, j, none⟩ = some u := by
  rcases h.2 with ⟨h1, rfl⟩ | ⟨g, cap', cur, h1, hb, hg, _⟩
  · exact absurd (List.eq_nil_of_length_eq_zero (by simpa using h.1)) hx
  · cases h1
    refine ⟨g, rfl, hb, (Array.getElem?_eq_some_iff.1 hg).1, fun j u hu => ?_⟩
    have := h.cells (g := g) rfl j u hu
    rw [Addr.add_lit, Nat.zero_add] at this
    exact this
def textB (l : List UInt8) : List UInt8 := numB l.length ++ l
theorem text_c {p : Nat → Prop} (a : Option Addr) (n ca : Nat) (l : List UInt8) (w : World) (hn : l.length = n) (ha : Lies w p a (l.map bv)) (hr : n ≤ 140737488351232) :
    Calls Tryz.prog 29 #[.slice a n ca] w fun e w' => ∃ a' cap', e = .returned (.slice a' (textB l).length cap') ∧ w'.ownsRow w.heap.size 5 1 (.slice a' (textB l).length cap') (textB l).length ((textB l).map bv) ∧ Keep Nix w w' := by
  subst hn
  go_enter Tryz.func29, Tryz.ntmps29
  go_wp2_with fail
  refine (num_i _ _ (by unfold isU64; omega)).mono ?_
  rintro e w1 ⟨a1, cap1, rfl, own1, k1⟩
  have hlen := (numB_len l.length).1
  rw [Int.toNat_natCast] at own1 ⊢
  go_wp2_with (at_builtin; refine wpl_append T_bytes rfl (.tmp 6) (.tmp 7) rfl w.heap.size rfl own1 (l.map bv) rfl (by simp) (ha.keep k1 (fun _ _ h => h)) (bv_one l) (by unfold maxLen; omega) (by omega) k1.size ?_)
  intro a' cap' w2 own2 hg
  have kk := k1.grown hg (fun k hk hlt => absurd (own1.lt k hk).1 (by omega))
  clear own1 hg k1 hlen
  go_wp2
  go_ret
  have e : (textB l).length = (numB l.length).length + l.length := by simp [textB]
  refine ⟨a', cap', by rw [e]; rfl, ?_, kk⟩
  rw [e, textB, List.map_append]; exact own2
end Go.Proofs.YtibaehlfpgipfaaGreat
