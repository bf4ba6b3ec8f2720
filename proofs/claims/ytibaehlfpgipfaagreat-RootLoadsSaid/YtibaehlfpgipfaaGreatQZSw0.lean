/- SORT at uint64: Walk0: turned by gensort64.py out of a worked proof of the kit's. -/
import Derived.Test.YtibaehlfpgipfaaGreatQZBase
import Derived.Lib.Walk
import Derived.Sort.Row
import Derived.Lib.Strings
namespace Go.Proofs.YtibaehlfpgipfaaGreat
open Go.RowKit
set_option maxHeartbeats 1000000
theorem jhg(x:Int)(w:World):Calls Tryz.prog 205 #[.int .u64 x] w fun e w'=>e=.returned (.bool false)∧w'=w:=by
 go_enter Tryz.func205,Tryz.ntmps205
 go_wp2
 go_ret
 exact⟨by simp,rfl⟩
theorem jao(x y:Int)(w:World):Calls Tryz.prog 184 #[.int .u64 x,.int .u64 y] w fun e w'=>e=.returned (.bool (Sort.ltInt x y))∧w'=w:=by
 go_enter Tryz.func184,Tryz.ntmps184
 go_wp2_with (go_at_call 205;refine(jhg _ _).mono ?_;rintro e w' ⟨rfl,rfl⟩)
 go_ret
 exact⟨rfl,rfl⟩
end Go.Proofs.YtibaehlfpgipfaaGreat
