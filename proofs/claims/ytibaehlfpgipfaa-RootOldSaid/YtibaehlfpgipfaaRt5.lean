/- ROUTE: which group has a key: Equal, HasPrefix, Base, Entry, Group. Printed by mac.py. -/
import Derived.Test.YtibaehlfpgipfaaRt4
namespace Go.Proofs.Ytibaehlfpgipfaa
open Go.RowKit

theorem hashF_snoc (l : List UInt8) (c : UInt8) : hashF (l ++ [c]) = (31 * hashF l + (c.toNat : Int)) % 4294967296 := by unfold hashF; rw [List.foldl_append]; rfl
theorem hashF_range (l : List UInt8) : 0 ≤ hashF l ∧ hashF l < 4294967296 := by
  rcases List.eq_nil_or_concat l with rfl | ⟨l', c, rfl⟩
  · decide
  · rw [List.concat_eq_append, hashF_snoc]; omega
section
attribute [local go_sem ↓] ldz_Routes
def entryK (key : List UInt8) (l : List GOwner) (k : Nat) : Int := entryF key (l.take k)
theorem entryF_snoc (key : List UInt8) (l : List GOwner) (o : GOwner) (h : l ≠ []) : entryF key (l ++ [o]) = if ltB key o.fFrom then entryF key l else o.fGroup := by
  cases l with
  | nil => exact absurd rfl h
  | cons a l => show List.foldl _ _ (l ++ [o]) = _; rw [List.foldl_append]; rfl
end
end Go.Proofs.Ytibaehlfpgipfaa
