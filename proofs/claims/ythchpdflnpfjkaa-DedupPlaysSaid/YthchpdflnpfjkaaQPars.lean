/- READERS OF STRUCTS: what is read, plainly (Ps); what a reader's method ends with (Gets); the walks of the leaves of package wire's reader. -/
import Derived.Test.YthchpdflnpfjkaaQRdX
import Derived.Test.YthchpdflnpfjkaaQWT
import Derived.Test.YthchpdflnpfjkaaQWhole
import Derived.Maps.AppendAt
namespace Go.Proofs.Ythchpdflnpfjkaa
open Go.RowKit

/-! ### plainly -/
abbrev Ps (α : Type) := RdS → α × RdS
def pNum : Ps Int := fun s => (((numS maxU s).1 : Int), (numS maxU s).2)
def pInt : Ps Int := fun s => (zag (numS maxU s).1, (numS maxU s).2)
def pFlag : Ps Bool := fun s => (decide (((numS 1 s).1 : Int) = 1), (numS 1 s).2)
def pBytes : Ps (List UInt8) := textS 65536
def pMany {α : Type} (f : Ps α) : Nat → RdS → List α × RdS
  | 0, s => ([], s)
  | n + 1, s => if s.e = 0 then ((f s).1 :: (pMany f n (f s).2).1, (pMany f n (f s).2).2) else ([], s)
def pList {α : Type} (f : Ps α) : Ps (List α) := fun s => pMany f (numS 5000 s).1 (numS 5000 s).2

/-- What a reader's method ends with that yields one cell. -/
def GetsV {α : Type} (R : RD α) (T rd : Nat) (p : Nat → Prop) (w : World) (y : α × RdS) (e : Ending) (w' : World) : Prop := ∃ v, e = .returned v ∧ R w' (NewIn w w') [v] y.1 ∧ IsRd w' T rd p y.2 ∧ Keep (· = rd) w w'
/-- .. that yields a struct. -/
def GetsS {α : Type} (R : RD α) (T rd : Nat) (p : Nat → Prop) (w : World) (y : α × RdS) (e : Ending) (w' : World) : Prop := ∃ cs : List Value, e = .returned (.agg cs.toArray) ∧ R w' (NewIn w w') cs y.1 ∧ ones cs = true ∧ IsRd w' T rd p y.2 ∧ Keep (· = rd) w w'
theorem zag_wf {v : Nat} (h : v < 2 ^ 64) : (Lit.int .i64 (zag v)).wf = true := by
  refine Go.WalkArith.wf_i64 ?_
  unfold zag; split <;> omega
theorem num_wf {v : Nat} (h : v < 2 ^ 64) : (Lit.int .u64 (v : Int)).wf = true := Go.WalkArith.wf_u64 (by omega)
theorem textS_len (m : Nat) (s : RdS) : (textS m s).1.length ≤ m := by
  unfold textS
  split
  · simp
  · split
    · simp
    · split
      · simp
      · have := numS_le m s; simp; omega
section
variable (rd : Nat) (p : Nat → Prop) (s : RdS) (w : World) (h : IsRd w 99 rd p s)
include h
theorem rnum_g : Calls Try.prog 60 #[.agg #[.pointer (some ⟨rd, 0, none⟩)]] w fun e w' => e = .returned (.int .u64 (pNum s).1) ∧ IsRd w' 99 rd p (pNum s).2 ∧ Keep (· = rd) w w' := by
  have h0 := h.nix ((Keep.refl Nix w).alloc (.cells #[.pointer (some ⟨rd, 0, none⟩)] 92))
  clear h
  go_enter Try.func60, Try.ntmps60
  go_wp2_with fail
  go_fit (Num_rd rd p s _ h0)
  rintro e w1 ⟨rfl, h1, k1⟩
  have k2 := ((Keep.refl (· = rd) w).alloc (.cells #[.pointer (some ⟨rd, 0, none⟩)] 92)).trans (k1.mono fun _ h => h)
  clear k1 h0
  go_wp2
  go_ret
  exact ⟨rfl, h1, k2⟩
theorem rbytes_g : Calls Try.prog 61 #[.agg #[.pointer (some ⟨rd, 0, none⟩)]] w (GetsV rBytesW 99 rd p w (pBytes s)) := by
  have h0 := h.nix ((Keep.refl Nix w).alloc (.cells #[.pointer (some ⟨rd, 0, none⟩)] 92))
  have hl := Lib.hid (textS_len 65536 s)
  clear h
  go_enter Try.func61, Try.ntmps61
  go_wp2_with fail
  go_fit (Text_rd rd p s _ h0 65536 (by unfold isI64; omega))
  rintro e w1 ⟨a, cap, rfl, own, h1, k1⟩
  have k2 := ((Keep.refl (· = rd) w).alloc (.cells #[.pointer (some ⟨rd, 0, none⟩)] 92)).trans (k1.mono fun _ h => h)
  have hb := owned_bounds own
  have hr : rBytesW w1 (NewIn w w1) [.slice a (textS 65536 s).1.length cap] (textS 65536 s).1 := by
    refine ⟨a, cap, rfl, fun hx => ?_, hb.2.1, by have := hl.out; unfold far; omega⟩
    obtain ⟨b, off, ha, hp, hb, hc⟩ := LiesW.of_owned own hx
    exact ⟨b, off, ha, ⟨by simp at hp; omega, hb⟩, hb, hc⟩
  have hh : Hid (textS (65536 : Int).toNat s = pBytes s) := rfl
  clear k1 h0 own hl hb
  go_wp2
  go_ret
  exact ⟨_, rfl, hr, h1, k2⟩
end

theorem IsRd.lt {w : World} {T rd : Nat} {p : Nat → Prop} {s : RdS} (h : IsRd w T rd p s) : rd < w.heap.size := by
  obtain ⟨a, cap, h1, -⟩ := h.row
  exact RowIs.lt h1
end Go.Proofs.Ythchpdflnpfjkaa
