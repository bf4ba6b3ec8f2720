/- SCHEMA: what is found by the reference; what is one's own. Printed by gen23.py. -/
import Derived.Test.YtibaehlfpgipfaaSchA
namespace Go.Proofs.Ytibaehlfpgipfaa
open Go.RowKit

def zIdx : GIndex := ⟨0, 0, [], [], false, 0, false⟩
theorem zIdx_r (w : World) (p : Nat → Prop) : rGIndex w p [.int .i64 0, .int .i64 0, .string { data := #[] }, .slice none 0 0, .bool false, .int .i64 0, .bool false] zIdx :=
  rGIndex_mk (x := zIdx) w p (by unfold isI64; simp [zIdx]) (by unfold isI64; simp [zIdx]) (by simp [zIdx]) (rList_nil _ _ _ _) (by unfold isI64; simp [zIdx])
section
attribute [local go_sem ↓] ldz_Table stz_Table
end
section
attribute [local go_sem ↓] ldz_Table stz_Table
end
section
attribute [local go_sem ↓] ldz_Index stz_Index
end
end Go.Proofs.Ytibaehlfpgipfaa
