/- WHAT BYTES ARE TAKEN AS: the ends of both readers. -/
import Derived.Test.YthchpdflnpfjkaaQIn
import Derived.Test.YthchpdflnpfjkaaQRdX
namespace Go.Proofs.Ythchpdflnpfjkaa
open Go.RowKit

/-- The thing that all of the bytes are, or why they are none. -/
def endP {α : Type} (z : α) (y : α × RdS) : α × Int := if endS y.2 = 0 then (y.1, 0) else (z, endS y.2)
theorem endP_ok {α : Type} {z : α} {y : α × RdS} (h : endS y.2 = 0) : endP z y = (y.1, 0) := by unfold endP; rw [if_pos h]
theorem endP_no {α : Type} {z : α} {y : α × RdS} (h : endS y.2 ≠ 0) : endP z y = (z, endS y.2) := by unfold endP; rw [if_neg h]
def takeP {α : Type} (f : Ps α) (z : α) (l : List UInt8) : α × Int := endP z (f ⟨l, 0, 0, []⟩)
theorem Sees.endS {s s0 : RdS} {bad : Int} (h : Sees s s0 bad) : endS s = if bad ≠ 0 then bad else endS s0 := by
  by_cases he : s.e = 0
  · obtain ⟨h1, h2, h3⟩ := h.fine he
    subst h1
    unfold Go.Proofs.Ythchpdflnpfjkaa.endS
    simp [he, h2, h3, h.B]
  · have h1 := h.e
    by_cases hb : bad = 0
    · subst hb
      simp only [ne_eq, not_true_eq_false, if_false] at h1 ⊢
      unfold Go.Proofs.Ythchpdflnpfjkaa.endS
      rw [if_pos he, if_pos (by rw [← h1]; exact he), h1]
    · rw [if_pos hb] at h1 ⊢
      unfold Go.Proofs.Ythchpdflnpfjkaa.endS
      rw [if_pos he, h1]
theorem iend_c (x : Nat) (p : Nat → Prop) (s : RdS) (w : World) (h : IsIn w x p s) : Calls Try.prog 57 #[.pointer (some ⟨x, 0, none⟩)] w fun e w' => e = .returned (.int .i64 (endS s)) ∧ Keep Nix w w' := by
  obtain ⟨s0, bad, hb, hr, hs⟩ := h
  obtain ⟨a, cap, row, -⟩ := hr.cells
  unfold RdAt at row
  rw [hb] at row
  have c3 := row.cell 3
  have HS := Lib.hid hs.endS
  clear row hs hb
  rcases test_eq bad 0 with ⟨t, e⟩ | ⟨t, e⟩
  · have t' : (bad != 0) = false := by simp [e.out]
    go_enter Try.func57, Try.ntmps57
    go_wp2_with fail
    go_fit (REnd x p s0 w hr)
    rintro e' w1 ⟨rfl, k1⟩
    go_wp2
    go_ret
    refine ⟨?_, k1⟩
    rw [HS.out, if_neg (by simpa using e.out)]
    rfl
  · have t' : (bad != 0) = true := by simp [e]
    have E := Lib.hid e
    clear e
    go_enter Try.func57, Try.ntmps57
    go_wp2
    go_ret
    exact ⟨by rw [HS.out, if_pos E.out]; rfl, Keep.refl _ _⟩
set_option maxRecDepth 100000 in
theorem open_c {p : Nat → Prop} (a : Option Addr) (n ca : Nat) (l : List UInt8) (w : World) (hn : l.length = n) (ha : Lies w p a (l.map bv)) (hr : n ≤ 140737488355328) :
    Calls Try.prog 54 #[.slice a n ca] w fun e w' => ∃ x, e = .returned (.pointer (some ⟨x, 0, none⟩)) ∧ w.heap.size ≤ x ∧
      IsIn w' x (fun b => w.heap.size ≤ b ∧ b < w'.heap.size ∧ b ≠ x) ⟨l, 0, 0, []⟩ ∧ Keep Nix w w' := by
  subst hn
  go_enter Try.func54, Try.ntmps54
  go_wp2_with (at_builtin; refine wpl_append T_bytes rfl (.const (.slice none 0 0)) (.tmp 3) rfl w.heap.size rfl (World.ownsRow_nil _ _ _ _) (p := p) (l.map bv) rfl ?c1 ha (bv_one _) ?c3 ?c4 (Nat.le_refl _) ?_)
  case c1 => simp
  case c3 => unfold maxLen; omega
  case c4 => omega
  intro a' cap' w1 own1 hg
  have k1 := Keep.grown (Keep.refl Nix w) hg (fun k hk _ => nomatch hk)
  clear hg ha
  go_wp2
  go_ret
  have hb := owned_bounds own1
  refine ⟨w1.heap.size, rfl, k1.size, ⟨⟨l, 0, 0, [.int .i64 0]⟩, 0, rfl, ⟨⟨a', cap', RowIs.alloc _ _ _, ?_, hb.2.1, hr⟩, by simp, Nat.zero_le _⟩, rfl, by simp, fun _ => rfl⟩, k1.alloc _⟩
  · refine ((Lies.of_owned own1).keep ((Keep.refl Nix w1).alloc _) (fun _ _ h => h)).mono fun b hb' => ⟨hb'.1, ?_⟩
    have := own1.lt b hb'.2
    exact ⟨by simp; omega, by omega⟩
end Go.Proofs.Ythchpdflnpfjkaa
