/- SORT at uint64: WalkA14: turned by gensort64.py out of a worked proof of the kit's. -/
import Derived.Test.YtibaehlfpgipfaaGreatQZSwA
import Derived.Sort.EncStr
import Derived.Sort.Grow
import Derived.Sort.LotD1
import Derived.Test.YtibaehlfpgipfaaGreatQZG38
namespace Go.Proofs.YtibaehlfpgipfaaGreat
open Go.RowKit Go.Sort
set_option maxRecDepth 100000
theorem jiv(x:Nat)(h:x<2 ^ 64):Lib.bitLen x=bitsLen x:=by
  induction x using Nat.strongRecOn with
  | _ x ih=>
    by_cases h0:x=0
    · subst h0;rfl
    · rw[Lib.bitLen_half x h0 h,ih (x / 2) (by omega) (by omega)]
      unfold bitsLen
      rw[if_neg h0,Nat.log2_def x]
      by_cases h2:2≤x
      · rw[if_pos h2,if_neg (by omega)];omega
      · obtain rfl:x=1:=by omega
        simp
def jgJ:Prop:=∀(blk off cap a b limit:Nat) (d:Array Int) (w:World),Holds (Value.int .u64) w blk off d→blk<w.heap.size→a≤b→b≤d.size→d.size<4611686018427387904→limit<4611686018427387904→Below ltInt a b d→
  Calls Tryz.prog 121 #[.slice (some ⟨blk,off,none⟩) d.size cap,.int .i64 a,.int .i64 b,.int .i64 limit] w fun e w'=>
    e=.returned (.tuple #[])∧∃n os,w'=grow (putRow (Value.int .u64) (Sort.ahead w n) blk off (Sort.pdq ltInt d a b limit true true)) os
theorem jkK(hpdq:jgJ)(blk off cap:Nat)(d:Array Int)(w:World)(hH:Holds (Value.int .u64) w blk off d)(hblk:blk<w.heap.size)(hsz:d.size<4611686018427387904) :
    Calls Tryz.prog 74 #[.slice (some ⟨blk,off,none⟩) d.size cap] w fun e w'=>e=.returned (.tuple #[])∧∃n os,w'=grow (putRow (Value.int .u64) (Sort.ahead w n) blk off (Sort.sort ltInt d)) os:=by
  have HH:Hid (Holds (Value.int .u64) w blk off d):=hH
  clear hH
  have hLen:∀w,Calls Tryz.prog 122 #[.int .u64 (d.size:Int)] w fun e w'=>e=.returned (.int .i64 (bitsLen d.size:Nat))∧w'=w:=fun w=>by
    have h:=jgP (d.size:Int) w (by omega) (by omega)
    rwa [Int.toNat_natCast,jiv _ (by omega)]at h
  have hk:bitsLen d.size≤62:=(bitsLen_le_iff d.size 62).2 (by omega)
  go_enter Tryz.func74,Tryz.ntmps74
  go_wp2_with (first
    | (go_at_call 122;refine(hLen _).mono ?_;rintro e w' ⟨rfl,rfl⟩)
    | (go_at_call 121;refine(hpdq blk off cap 0 d.size (bitsLen d.size) d _ (by exact HH.out) (by exact hblk) (Nat.zero_le _) (Nat.le_refl _) hsz (by omega) (Or.inl rfl)).mono ?_;rintro e w' ⟨rfl,n,os,rfl⟩))
  go_end0
  exact⟨rfl,n,os,rfl⟩
end Go.Proofs.YtibaehlfpgipfaaGreat
