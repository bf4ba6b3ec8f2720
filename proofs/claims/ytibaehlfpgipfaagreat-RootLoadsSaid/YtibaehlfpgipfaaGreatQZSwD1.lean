/- SORT at uint64: WalkD1: turned by gensort64.py out of a worked proof of the kit's. -/
import Derived.Test.YtibaehlfpgipfaaGreatQZSw0
import Derived.Sort.LotD3
import Derived.Deep.RegionWith
import Derived.WalkKit
import Derived.RowKit
namespace Go.Proofs.YtibaehlfpgipfaaGreat
open Go.Sort Go.RowKit
set_option maxRecDepth 100000
set_option maxHeartbeats 1000000
abbrev one(s:Nat):Array Int:=#[(s:Int)]
theorem jjV{w:World}{sb so s:Nat}(h:Holds (Value.int .i64) w sb so (one s)):w.cell? ⟨sb,so,none⟩=some (.int .i64 s)∧w.frozen? ⟨sb,so,none⟩=false:=by simpa using h 0 (by simp)
theorem jp1{w:World}{sb so s:Nat}(h:Holds (Value.int .i64) w sb so (one s))(t:Nat):w.setCell ⟨sb,so,none⟩ (.int .i64 t)=putRow (Value.int .i64) w sb so (one t):=by
  have:=putRow_set (Value.int .i64) w sb so (one s) 0 (t:Int) (by simp)
  rw[putRow_self _ _ _ _ _ h]at this
  simpa using this
theorem jdE{w:World}{blk off sb so n t:Nat}{d:Array Int}(h:Holds (Value.int .u64) w blk off d)(hne:sb≠blk):Holds (Value.int .u64) (putRow (Value.int .i64) (Sort.ahead w n) sb so (one t)) blk off d:=fun j hj=>
  ⟨by rw[cell?_putRow_other _ _ _ _ _ _ (Or.inl (Ne.symm hne))];exact(h j hj).1,by rw[frozen?_putRow];exact(h j hj).2⟩
theorem jg6(w:World)(n m sb so s t:Nat):putRow (Value.int .i64) (Sort.ahead (putRow (Value.int .i64) (Sort.ahead w n) sb so (one s)) m) sb so (one t)=putRow (Value.int .i64) (Sort.ahead w (n+m)) sb so (one t):=
  putRow_ahead_putRow _ _ _ _ _ _ _ _ rfl
theorem je9(d:Array Int)(len:Nat)(hlen:d.size=len)(blk off cap a b sb so s:Nat)(w:World)(hH:Holds (Value.int .u64) w blk off d)(ha:a<d.size)(hb:b<d.size)
    (hS:Holds (Value.int .i64) w sb so (one s)) (hs:s<2 ^ 62) :
    Calls Tryz.prog 207 #[.slice (some ⟨blk,off,none⟩) len cap,.int .i64 a,.int .i64 b,.pointer (some ⟨sb,so,none⟩)] w fun e w'=>
      e=.returned (.tuple #[.int .i64 (order2 ltInt d a b s).1,.int .i64 (order2 ltInt d a b s).2.1])∧∃n,w'=putRow (Value.int .i64) (Sort.ahead w n) sb so (one (order2 ltInt d a b s).2.2):=by
  subst hlen
  replace hs:s<4611686018427387904:=by omega
  have ca:=(hH a ha).1
  have cb:=(hH b hb).1
  obtain⟨cs,fs⟩:=jjV hS
  have ea:d[a]! =d[a]:=getElem!_pos d a ha
  have eb:d[b]! =d[b]:=getElem!_pos d b hb
  go_enter Tryz.func207,Tryz.ntmps207
  go_wp2
  go_region_with (go_at_call 184;refine(jao _ _ _).mono ?_;rintro e w' ⟨rfl,rfl⟩)
  all_goals (try go_wp2)
  all_goals first
    | (have hlt:ltInt d[b] d[a]=true:=by assumption
       have e2:order2 ltInt d a b s=(b,a,s+1):=by simp[order2,ea,eb,hlt]
       go_ret2
       rw[e2]
       refine⟨rfl,1,?_⟩
       rw[putRow_ahead,←jp1 hS (s+1)]
       simp[drew_eq_ahead])
    | (have hlt:ltInt d[b] d[a]=false:=by assumption
       have e2:order2 ltInt d a b s=(a,b,s):=by simp[order2,ea,eb,hlt]
       go_ret2
       rw[e2]
       refine⟨rfl,1,?_⟩
       rw[putRow_ahead,putRow_self _ _ _ _ _ hS]
       rfl)
theorem jiC(d:Array Int){a b n:Nat}(s:Nat)(ha:a<n)(hb:b<n):(order2 ltInt d a b s).1<n∧(order2 ltInt d a b s).2.1<n:=by
  have:=order2_mem ltInt d a b s
  omega
theorem jgh(d:Array Int)(a b s:Nat):(order2 ltInt d a b s).2.2≤s+1:=by
  unfold order2
  split <;> simp
theorem jdS{w:World}{sb so s n t:Nat}(h:Holds (Value.int .i64) w sb so (one s)):Holds (Value.int .i64) (putRow (Value.int .i64) (Sort.ahead w n) sb so (one t)) sb so (one t):=
  holds_putRow _ _ _ _ (one s) (one t) (holds_ahead _ _ _ _ _ _ h) rfl
theorem jfU(d:Array Int)(len:Nat)(hlen:d.size=len)(blk off cap a b c sb so s:Nat)(w:World)(hH:Holds (Value.int .u64) w blk off d)(ha:a<d.size)(hb:b<d.size)(hc:c<d.size)(hne:sb≠blk)
    (hS:Holds (Value.int .i64) w sb so (one s)) (hs:s+3<2 ^ 62) :
    Calls Tryz.prog 204 #[.slice (some ⟨blk,off,none⟩) len cap,.int .i64 a,.int .i64 b,.int .i64 c,.pointer (some ⟨sb,so,none⟩)] w fun e w'=>
      e=.returned (.int .i64 (median ltInt d a b c s).1)∧∃n,w'=putRow (Value.int .i64) (Sort.ahead w n) sb so (one (median ltInt d a b c s).2):=by
  subst hlen
  have l1:=jiC d s ha hb
  have s1:=jgh d a b s
  have l2:=jiC d (order2 ltInt d a b s).2.2 l1.2 hc
  have s2:=jgh d (order2 ltInt d a b s).2.1 c (order2 ltInt d a b s).2.2
  go_enter Tryz.func204,Tryz.ntmps204
  go_wp2_with (go_at_call_of 207 (Value.int .i64 (b:Int));refine(je9 d _ rfl blk off cap a b sb so s w hH ha hb hS (by omega)).mono ?_;rintro e w' ⟨rfl,n1,rfl⟩)
  go_wp2_with (go_at_call_of 207 (Value.int .i64 (c:Int));refine(je9 d _ rfl blk off cap (order2 ltInt d a b s).2.1 c sb so (order2 ltInt d a b s).2.2 _ (jdE hH hne) l1.2 hc (jdS hS) (by omega)).mono ?_;rintro e w' ⟨rfl,n2,rfl⟩)
  go_wp2_with (go_at_call_of 207 (Value.int .i64 ((order2 ltInt d a b s).1:Int));refine(je9 d _ rfl blk off cap (order2 ltInt d a b s).1 (order2 ltInt d (order2 ltInt d a b s).2.1 c (order2 ltInt d a b s).2.2).1 sb so (order2 ltInt d (order2 ltInt d a b s).2.1 c (order2 ltInt d a b s).2.2).2.2 _
    (jdE (jdE hH hne) hne) l1.1 l2.1 (jdS (jdS hS)) (by omega)).mono ?_;rintro e w' ⟨rfl,n3,rfl⟩)
  go_ret
  refine⟨rfl,n1+(n2+n3),?_⟩
  rw[jg6,jg6]
  rfl
end Go.Proofs.YtibaehlfpgipfaaGreat
