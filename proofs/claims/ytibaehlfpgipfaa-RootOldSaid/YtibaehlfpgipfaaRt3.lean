/- ROUTE: what a group has: span, at, Owned, of both. Printed by mac.py. -/
import Derived.Test.YtibaehlfpgipfaaRt2
namespace Go.Proofs.Ytibaehlfpgipfaa
open Go.RowKit

theorem LB.row {w : World} {b : Nat} {c : UInt8} (h : RowIs w b 5 [.int .u8 (c.toNat : Int)]) (p : Nat → Prop) (hp : p b) : LB w p (some ⟨b, 0, none⟩) 1 [c] :=
  ⟨h.lies p hp (fun j u hu => by rw [Nat.zero_add]; exact hu), Nat.le_refl _, by show 1 ≤ far; decide⟩
theorem LB.to {w w' : World} {s s' S : Nat → Prop} {a : Option Addr} {cap : Nat} {l : List UInt8} (h : LB w s a cap l) (k : Keep S w w') (h1 : ∀ b, s b → ¬ S b) (h2 : ∀ b, s b → s' b) : LB w' s' a cap l := ⟨(h.1.keep k h1).mono h2, h.2⟩
end Go.Proofs.Ytibaehlfpgipfaa
