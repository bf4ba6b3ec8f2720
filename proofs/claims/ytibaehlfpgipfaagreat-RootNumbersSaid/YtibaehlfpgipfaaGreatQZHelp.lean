/- THE WALKS of package armoirehelp over bytes: Plain, Same, Bytes, Own, Kept, Spoil. -/
import Derived.Test.YtibaehlfpgipfaaGreatQZArgs
namespace Go.Proofs.YtibaehlfpgipfaaGreat
open Go.RowKit
theorem T_bytes : SliceT Tryz.prog 30 5 1 1 := SliceT.mk' Tryz.underlying30 (z := .int .u8 0) (by kernel_rfl) rfl (by decide)
theorem bytes_c {p q : Nat → Prop} (a b : Option Addr) (n ca m cb : Nat) (la lb : List UInt8) (w : World) (hn : la.length = n) (hm : lb.length = m) (ha : Lies w p a (la.map bv)) (hb : Lies w q b (lb.map bv)) :
  Calls Tryz.prog 11 #[.slice a n ca, .slice b m cb] w fun e w' => e = .returned (.bool (decide (la = lb))) ∧ w = w' := by
 have h1 := conv_bytes (P := Tryz.prog) Tryz.underlying30 Tryz.underlying5 Tryz.underlying9 (cap := ca) hn ha
 have h2 := conv_bytes (P := Tryz.prog) Tryz.underlying30 Tryz.underlying5 Tryz.underlying9 (cap := cb) hm hb
 clear ha hb hn hm
 go_enter Tryz.func11, Tryz.ntmps11
 go_wp2
 go_ret
 exact ⟨ret_bool (strB_eq _ _), rfl⟩
end Go.Proofs.YtibaehlfpgipfaaGreat
