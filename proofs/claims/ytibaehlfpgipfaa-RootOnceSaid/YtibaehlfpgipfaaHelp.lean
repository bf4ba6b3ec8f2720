/- THE WALKS of package armoirehelp over bytes: Plain, Same, Bytes, Own, Kept, Spoil. -/
import Derived.Test.YtibaehlfpgipfaaArgs
namespace Go.Proofs.Ytibaehlfpgipfaa
open Go.RowKit

theorem T_bytes : SliceT Try.prog 36 5 1 1 := SliceT.mk' Try.underlying36 (z := .int .u8 0) (by kernel_rfl) rfl (by decide)
theorem bv_eq (c d : UInt8) : ((c.toNat : Int) == (d.toNat : Int)) = (c == d) := by
  rw [Bool.eq_iff_iff, beq_iff_eq, beq_iff_eq]
  exact ⟨fun h => UInt8.toNat_inj.1 (by omega), fun h => by rw [h]⟩
theorem bv_at (l : List UInt8) (k : Nat) (h : k < l.length) : (l.map bv)[k]? = some (.int .u8 (l[k].toNat : Int)) := by simp [bv, h]

end Go.Proofs.Ytibaehlfpgipfaa
