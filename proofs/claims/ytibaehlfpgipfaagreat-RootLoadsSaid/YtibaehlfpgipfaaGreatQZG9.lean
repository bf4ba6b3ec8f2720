/- WHAT BYTES ARE TAKEN AS. Printed by gen10.py. -/
import Derived.Test.YtibaehlfpgipfaaGreatQZG6
import Derived.Test.YtibaehlfpgipfaaGreatQZG8
import Derived.Test.YtibaehlfpgipfaaGreatQZGetA
import Derived.Deep.RegionHeld3
import Derived.Test.YtibaehlfpgipfaaGreatQZG5
namespace Go.Proofs.YtibaehlfpgipfaaGreat
open Go.RowKit
section
def jc3:GCatalog:=⟨0,0,[],[]⟩
theorem jgU(w:World)(p:Nat→Prop):jd1 w p [.int .i64 0,.int .i64 0,.slice none 0 0,.slice none 0 0] jc3:=⟨[.int .i64 0],[.int .i64 0],[.slice none 0 0],[.slice none 0 0],rfl,⟨rfl,rfl⟩,⟨rfl,rfl⟩,⟨none,0,[],rfl,rfl,Lies.nil _ _ _,by decide,by decide,fun i c x h=>by simp at h⟩,⟨none,0,[],rfl,rfl,Lies.nil _ _ _,by decide,by decide,fun i c x h=>by simp at h⟩⟩
def jkt:GRoutes:=⟨0,0,[],0,[]⟩
theorem jmi(w:World)(p:Nat→Prop):jfd w p [.int .i64 0,.int .i64 0,.slice none 0 0,.int .i64 0,.slice none 0 0] jkt:=⟨[.int .i64 0],[.int .i64 0],[.slice none 0 0],[.int .i64 0],[.slice none 0 0],rfl,⟨rfl,rfl⟩,⟨rfl,rfl⟩,⟨none,0,[],rfl,rfl,Lies.nil _ _ _,by decide,by decide,fun i c x h=>by simp at h⟩,⟨rfl,rfl⟩,⟨none,0,rfl,fun h=>absurd rfl h,by decide,by decide⟩⟩
def jc5:GReply:=⟨0,0,0,false,[],[],jc3,jkt⟩
theorem jn7(w:World)(p:Nat→Prop):jeL w p [.int .i64 0,.int .u64 0,.int .i64 0,.bool false,.slice none 0 0,.slice none 0 0,.int .i64 0,.int .i64 0,.slice none 0 0,.slice none 0 0,.int .i64 0,.int .i64 0,.slice none 0 0,.int .i64 0,.slice none 0 0] jc5:=⟨[.int .i64 0],[.int .u64 0],[.int .i64 0],[.bool false],[.slice none 0 0],[.slice none 0 0],[.int .i64 0,.int .i64 0,.slice none 0 0,.slice none 0 0],[.int .i64 0,.int .i64 0,.slice none 0 0,.int .i64 0,.slice none 0 0],rfl,⟨rfl,rfl⟩,⟨rfl,rfl⟩,⟨rfl,rfl⟩,rfl,⟨none,0,[],rfl,rfl,Lies.nil _ _ _,by decide,by decide,fun i c x h=>by simp at h⟩,⟨none,0,[],rfl,rfl,Lies.nil _ _ _,by decide,by decide,fun i c x h=>by simp at h⟩,jgU _ _,jmi _ _⟩
section
end
section
end
theorem jmF(a:Act)(dst:Option Tmp)(x:Operand)(ty:TypeId)(pos:String)(after:Array Edge)(guard:Option (Nat×Bool)):execOp a.eval {dst:=dst,op:=.load 55 x,type:=ty,pos:=pos,after:=after,guard:=guard}=ja1 55 (a.eval x):=rfl
section
attribute [local go_sem ↓] jmF jhj
set_option maxRecDepth 100000 in
set_option maxHeartbeats 8000000 in
theorem jlz(rd:Nat)(p:Nat→Prop)(s:RdS)(w:World)(h:IsRd w 151 rd p s)(hpl:∀b,p b→b<w.heap.size) :
  Calls Tryz.prog 82 #[.agg #[.pointer (some ⟨rd,0,none⟩)],.func (.func 83) #[.agg #[.pointer (some ⟨rd,0,none⟩)]] #[]] w (TookR jeL rd w (endP jc5 (jbE s))):=by
 have hlt:=h.lt
 have hsz:(w.alloc (.cells #[.pointer (some ⟨rd,0,none⟩)] 154)).heap.size=w.heap.size+1:=by simp
 have rowB:RowIs ((w.alloc (.cells #[.pointer (some ⟨rd,0,none⟩)] 154)).alloc (.cells #[.int .i64 0,.int .u64 0,.int .i64 0,.bool false,.slice none 0 0,.slice none 0 0,.int .i64 0,.int .i64 0,.slice none 0 0,.slice none 0 0,.int .i64 0,.int .i64 0,.slice none 0 0,.int .i64 0,.slice none 0 0] 55)) w.heap.size 154 [.pointer (some ⟨rd,0,none⟩)]:=(RowIs.alloc w _ _).keep ((Keep.refl Nix _).alloc _) id
 have rowR:RowIs ((w.alloc (.cells #[.pointer (some ⟨rd,0,none⟩)] 154)).alloc (.cells #[.int .i64 0,.int .u64 0,.int .i64 0,.bool false,.slice none 0 0,.slice none 0 0,.int .i64 0,.int .i64 0,.slice none 0 0,.slice none 0 0,.int .i64 0,.int .i64 0,.slice none 0 0,.int .i64 0,.slice none 0 0] 55)) (w.heap.size+1) 55 [.int .i64 0,.int .u64 0,.int .i64 0,.bool false,.slice none 0 0,.slice none 0 0,.int .i64 0,.int .i64 0,.slice none 0 0,.slice none 0 0,.int .i64 0,.int .i64 0,.slice none 0 0,.int .i64 0,.slice none 0 0]:=by
  rw[←hsz]
  exact RowIs.alloc (w.alloc (.cells #[.pointer (some ⟨rd,0,none⟩)] 154)) _ _
 have hr:=h.nix (((Keep.refl Nix w).alloc (.cells #[.pointer (some ⟨rd,0,none⟩)] 154)).alloc (.cells #[.int .i64 0,.int .u64 0,.int .i64 0,.bool false,.slice none 0 0,.slice none 0 0,.int .i64 0,.int .i64 0,.slice none 0 0,.slice none 0 0,.int .i64 0,.int .i64 0,.slice none 0 0,.int .i64 0,.slice none 0 0] 55))
 have kk:Keep (·=rd) w ((w.alloc (.cells #[.pointer (some ⟨rd,0,none⟩)] 154)).alloc (.cells #[.int .i64 0,.int .u64 0,.int .i64 0,.bool false,.slice none 0 0,.slice none 0 0,.int .i64 0,.int .i64 0,.slice none 0 0,.slice none 0 0,.int .i64 0,.int .i64 0,.slice none 0 0,.int .i64 0,.slice none 0 0] 55)):=((Keep.refl (·=rd) w).alloc _).alloc _
 clear h hsz
 go_enter Tryz.func82,Tryz.ntmps82
 go_wp2_with fail
 go_fit (jod rd p _ _ hr (fun b hb=>Nat.lt_of_lt_of_le (hpl b hb) kk.size))
 rintro e w1 ⟨cs,rfl,hc,ho,hr1,k1⟩
 have hlc:=Lib.hid (wGReply_lawful.len hc)
 have HO:=Lib.hid ho
 clear ho hr
 obtain⟨y,HY⟩:∃y,Hid (jbE s=y):=⟨_,rfl⟩
 rw[HY.out]at hc hr1
 have rRl0:=rowR.lt
 replace rowB:=rowB.keep k1 (by omega)
 replace rowR:=rowR.keep k1 (by omega)
 have rRl:=rowR.lt
 have hrl:=hr1.lt
 have hst0:=jaf (P:=Tryz.prog) (cs:=cs) S_Reply (RowIs.alloc w1 #[.int .i64 0,.int .u64 0,.int .i64 0,.bool false,.slice none 0 0,.slice none 0 0,.int .i64 0,.int .i64 0,.slice none 0 0,.slice none 0 0,.int .i64 0,.int .i64 0,.slice none 0 0,.int .i64 0,.slice none 0 0] 55) rfl hlc.out HO.out
 have rowV:=(RowIs.alloc w1 #[.int .i64 0,.int .u64 0,.int .i64 0,.bool false,.slice none 0 0,.slice none 0 0,.int .i64 0,.int .i64 0,.slice none 0 0,.slice none 0 0,.int .i64 0,.int .i64 0,.slice none 0 0,.int .i64 0,.slice none 0 0] 55).setRow cs
 have kT:=((Keep.refl (·=w1.heap.size) w1).alloc (.cells #[.int .i64 0,.int .u64 0,.int .i64 0,.bool false,.slice none 0 0,.slice none 0 0,.int .i64 0,.int .i64 0,.slice none 0 0,.slice none 0 0,.int .i64 0,.int .i64 0,.slice none 0 0,.int .i64 0,.slice none 0 0] 55)).setRow (fun _=>rfl) cs.toArray
 replace rowB:=rowB.keep kT (by omega)
 replace rowR:=rowR.keep kT (by omega)
 have hr2:=hr1.keep kT (by omega) (fun b hb e=>by have:=hpl b hb;omega)
 have kk2:Keep (·=rd) w ((w1.alloc (.cells #[.int .i64 0,.int .u64 0,.int .i64 0,.bool false,.slice none 0 0,.slice none 0 0,.int .i64 0,.int .i64 0,.slice none 0 0,.slice none 0 0,.int .i64 0,.int .i64 0,.slice none 0 0,.int .i64 0,.slice none 0 0] 55)).setRow w1.heap.size cs.toArray):=(kk.trans k1).then kT (fun i hi e=>by omega)
 have hs2:w.heap.size+2≤((w.alloc (.cells #[.pointer (some ⟨rd,0,none⟩)] 154)).alloc (.cells #[.int .i64 0,.int .u64 0,.int .i64 0,.bool false,.slice none 0 0,.slice none 0 0,.int .i64 0,.int .i64 0,.slice none 0 0,.slice none 0 0,.int .i64 0,.int .i64 0,.slice none 0 0,.int .i64 0,.slice none 0 0] 55)).heap.size:=by simp
 replace hc:=wGReply_lawful.keep hc kT (fun b hb e=>by have:=hb.2;omega)
 have xB:((w1.alloc (.cells #[.int .i64 0,.int .u64 0,.int .i64 0,.bool false,.slice none 0 0,.slice none 0 0,.int .i64 0,.int .i64 0,.slice none 0 0,.slice none 0 0,.int .i64 0,.int .i64 0,.slice none 0 0,.int .i64 0,.slice none 0 0] 55)).setRow w1.heap.size cs.toArray).cell? ⟨w.heap.size,0,none⟩=some (.pointer (some ⟨rd,0,none⟩)):=rowB.cell 0
 clear k1 kT hr1 rowB kk
 go_wp2_with fail
 go_fit (jjs rd p y.2 _ hr2)
 rintro e w2 ⟨rfl,k2⟩
 clear xB hst0
 replace rowR:=rowR.keep k2 id
 replace rowV:=rowV.keep k2 id
 replace hc:=wGReply_lawful.nix hc k2
 have kk3:=kk2.trans k2.nix
 have rRl2:=rowV.lt
 clear hr2 k2 kk2
 rcases jbH (endS y.2) 0 with⟨t,he⟩ | ⟨t,he⟩
 ·have t':(endS y.2 != 0)=false:=by simp[he.out]
  have hld:(ja1 55 (.pointer (some ⟨w1.heap.size,0,none⟩))).run Tryz.prog w2=.ok (.value (.agg cs.toArray)) w2:=Whole.row S_Reply hlc.out rowV
  have hst:=jaf (P:=Tryz.prog) (cs:=cs) S_Reply rowR rfl hlc.out HO.out
  have rowF:=rowR.setRow cs
  have kS:=(Keep.refl (·=w.heap.size+1) w2).setRow (fun _=>rfl) cs.toArray
  have hin:(Tryz.prog.info? 55).map (·.size)=some cs.toArray.size:=by rw[List.size_toArray,hlc.out];exact S_Reply.info
  have HIN:=Lib.hid hin
  clear hin rowV
  go_wp2_with fail
  refine bodyPost_ret (jag (by rfl) _ _ _ _ _ _ _ (by rfl) rowF Tryz.underlying55 (by rfl) HIN.out) rfl ?_
  rw[HY.out,jie he.out]
  exact⟨cs,rfl,wGReply_lawful.mono (wGReply_lawful.keep hc kS (fun b hb e=>by have:=hb.1;omega)) (fun b hb=>(⟨by have:=hb.1;omega,by have:=hb.2;have:=kS.size;omega⟩:jai w (w2.setRow (w.heap.size+1) cs.toArray) b)),HO.out,kk3.then kS (fun i hi e=>by omega)⟩
 ·have t':(endS y.2 != 0)=true:=by simp[he]
  have HE:=Lib.hid he
  clear he
  have rowN:RowIs (w2.alloc (.cells #[.int .i64 0,.int .u64 0,.int .i64 0,.bool false,.slice none 0 0,.slice none 0 0,.int .i64 0,.int .i64 0,.slice none 0 0,.slice none 0 0,.int .i64 0,.int .i64 0,.slice none 0 0,.int .i64 0,.slice none 0 0] 55)) w2.heap.size 55 [.int .i64 0,.int .u64 0,.int .i64 0,.bool false,.slice none 0 0,.slice none 0 0,.int .i64 0,.int .i64 0,.slice none 0 0,.slice none 0 0,.int .i64 0,.int .i64 0,.slice none 0 0,.int .i64 0,.slice none 0 0]:=RowIs.alloc w2 _ _
  have rowR2:=rowR.keep ((Keep.refl Nix w2).alloc (.cells #[.int .i64 0,.int .u64 0,.int .i64 0,.bool false,.slice none 0 0,.slice none 0 0,.int .i64 0,.int .i64 0,.slice none 0 0,.slice none 0 0,.int .i64 0,.int .i64 0,.slice none 0 0,.int .i64 0,.slice none 0 0] 55)) id
  have hld:(ja1 55 (.pointer (some ⟨w2.heap.size,0,none⟩))).run Tryz.prog (w2.alloc (.cells #[.int .i64 0,.int .u64 0,.int .i64 0,.bool false,.slice none 0 0,.slice none 0 0,.int .i64 0,.int .i64 0,.slice none 0 0,.slice none 0 0,.int .i64 0,.int .i64 0,.slice none 0 0,.int .i64 0,.slice none 0 0] 55))=.ok (.value (.agg #[.int .i64 0,.int .u64 0,.int .i64 0,.bool false,.slice none 0 0,.slice none 0 0,.int .i64 0,.int .i64 0,.slice none 0 0,.slice none 0 0,.int .i64 0,.int .i64 0,.slice none 0 0,.int .i64 0,.slice none 0 0])) (w2.alloc (.cells #[.int .i64 0,.int .u64 0,.int .i64 0,.bool false,.slice none 0 0,.slice none 0 0,.int .i64 0,.int .i64 0,.slice none 0 0,.slice none 0 0,.int .i64 0,.int .i64 0,.slice none 0 0,.int .i64 0,.slice none 0 0] 55)):=Whole.row S_Reply rfl rowN
  have hst:=jaf (P:=Tryz.prog) (cs:=[.int .i64 0,.int .u64 0,.int .i64 0,.bool false,.slice none 0 0,.slice none 0 0,.int .i64 0,.int .i64 0,.slice none 0 0,.slice none 0 0,.int .i64 0,.int .i64 0,.slice none 0 0,.int .i64 0,.slice none 0 0]) S_Reply rowR2 rfl rfl rfl
  have rowF:=rowR2.setRow [.int .i64 0,.int .u64 0,.int .i64 0,.bool false,.slice none 0 0,.slice none 0 0,.int .i64 0,.int .i64 0,.slice none 0 0,.slice none 0 0,.int .i64 0,.int .i64 0,.slice none 0 0,.int .i64 0,.slice none 0 0]
  have kS:=((Keep.refl (·=w.heap.size+1) w2).alloc (.cells #[.int .i64 0,.int .u64 0,.int .i64 0,.bool false,.slice none 0 0,.slice none 0 0,.int .i64 0,.int .i64 0,.slice none 0 0,.slice none 0 0,.int .i64 0,.int .i64 0,.slice none 0 0,.int .i64 0,.slice none 0 0] 55)).setRow (fun _=>rfl) (#[.int .i64 0,.int .u64 0,.int .i64 0,.bool false,.slice none 0 0,.slice none 0 0,.int .i64 0,.int .i64 0,.slice none 0 0,.slice none 0 0,.int .i64 0,.int .i64 0,.slice none 0 0,.int .i64 0,.slice none 0 0]:Array Value)
  clear rowN rowV rowR2
  go_wp2_with fail
  refine bodyPost_ret (jag (by rfl) _ _ _ _ _ _ _ (by rfl) rowF Tryz.underlying55 (by rfl) S_Reply.info) rfl ?_
  rw[HY.out,jlg HE.out]
  exact⟨[.int .i64 0,.int .u64 0,.int .i64 0,.bool false,.slice none 0 0,.slice none 0 0,.int .i64 0,.int .i64 0,.slice none 0 0,.slice none 0 0,.int .i64 0,.int .i64 0,.slice none 0 0,.int .i64 0,.slice none 0 0],rfl,jn7 _ _,rfl,kk3.then kS (fun i hi e=>by omega)⟩
end
section
attribute [local go_sem ↓] jhj
set_option maxRecDepth 100000 in
set_option maxHeartbeats 8000000 in
theorem jkr{p:Nat→Prop}(a:Option Addr)(n ca:Nat)(l:List UInt8)(w:World)(hn:l.length=n)(ha:Lies w p a (l.map bv))(hr0:n≤140737488355328) :
  Calls Tryz.prog 44 #[.slice a n ca] w (Took jeL w (jcP jbE jc5 l)):=by
 have rowR:RowIs (w.alloc (.cells #[.int .i64 0,.int .u64 0,.int .i64 0,.bool false,.slice none 0 0,.slice none 0 0,.int .i64 0,.int .i64 0,.slice none 0 0,.slice none 0 0,.int .i64 0,.int .i64 0,.slice none 0 0,.int .i64 0,.slice none 0 0] 55)) w.heap.size 55 [.int .i64 0,.int .u64 0,.int .i64 0,.bool false,.slice none 0 0,.slice none 0 0,.int .i64 0,.int .i64 0,.slice none 0 0,.slice none 0 0,.int .i64 0,.int .i64 0,.slice none 0 0,.int .i64 0,.slice none 0 0]:=RowIs.alloc w _ _
 have ha1:=ha.keep ((Keep.refl Nix w).alloc (.cells #[.int .i64 0,.int .u64 0,.int .i64 0,.bool false,.slice none 0 0,.slice none 0 0,.int .i64 0,.int .i64 0,.slice none 0 0,.slice none 0 0,.int .i64 0,.int .i64 0,.slice none 0 0,.int .i64 0,.slice none 0 0] 55)) (fun _ _ h=>h)
 have hmf:∀(fn:Fn) (first cap:Array Value) (w:World),(Instr.makeFunc fn first cap).run Tryz.prog w=.ok (.func fn first cap) w:=fun _ _ _ _=>rfl
 have HN:=Lib.hid hn
 have kk:Keep Nix w (w.alloc (.cells #[.int .i64 0,.int .u64 0,.int .i64 0,.bool false,.slice none 0 0,.slice none 0 0,.int .i64 0,.int .i64 0,.slice none 0 0,.slice none 0 0,.int .i64 0,.int .i64 0,.slice none 0 0,.int .i64 0,.slice none 0 0] 55)):=(Keep.refl Nix w).alloc _
 clear hn ha
 go_enter Tryz.func44,Tryz.ntmps44
 go_wp2_with fail
 go_fit (jju a n ca l _ HN.out ha1 hr0)
 rintro e w1 ⟨rd,rfl,hrd,hr,k1⟩
 have hrt:=hr.tight
 have rRl0:=rowR.lt
 replace rowR:=rowR.keep k1 id
 have rRl:=rowR.lt
 have hrd':w.heap.size<rd:=by simp at hrd;omega
 have hrl:=hr.lt
 have hr2:=hrt.nix ((Keep.refl Nix w1).alloc (.cells #[.pointer (some ⟨rd,0,none⟩)] 154))
 have rowR2:=rowR.keep ((Keep.refl Nix w1).alloc (.cells #[.pointer (some ⟨rd,0,none⟩)] 154)) id
 have kk2:Keep Nix w (w1.alloc (.cells #[.pointer (some ⟨rd,0,none⟩)] 154)):=(kk.trans k1).alloc _
 have hs1:w1.heap.size≤(w1.alloc (.cells #[.pointer (some ⟨rd,0,none⟩)] 154)).heap.size:=by simp
 clear hr hrt k1 kk ha1 rowR hrd
 go_wp2_with fail
 go_fit (jlz rd _ ⟨l,0,0,[]⟩ _ hr2 (fun b hb=>Nat.lt_of_lt_of_le hb.2 hs1))
 rintro e w2 ⟨cs,rfl,hc,ho,k2⟩
 have hlc:=Lib.hid (wGReply_lawful.len hc)
 have HO:=Lib.hid ho
 have hT:Hid (jcP jbE jc5 l=endP jc5 (jbE ⟨l,0,0,[]⟩)):=rfl
 generalize endP jc5 (jbE ⟨l,0,0,[]⟩)=y at hc hT ⊢
 replace rowR2:=rowR2.keep k2 (by omega)
 have kk3:Keep Nix w w2:=kk2.then k2 (fun i hi e=>by omega)
 have hst:=jaf (P:=Tryz.prog) (cs:=cs) S_Reply rowR2 rfl hlc.out HO.out
 have rowF:=rowR2.setRow cs
 have kS:=(Keep.refl (·=w.heap.size) w2).setRow (fun _=>rfl) cs.toArray
 have hin:(Tryz.prog.info? 55).map (·.size)=some cs.toArray.size:=by rw[List.size_toArray,hlc.out];exact S_Reply.info
 have HIN:=Lib.hid hin
 have hs3:=k2.size
 clear hin ho hr2 k2 kk2
 go_wp2_with fail
 refine bodyPost_ret (jag (by rfl) _ _ _ _ _ _ _ (by rfl) rowF Tryz.underlying55 (by rfl) HIN.out) rfl ?_
 rw[hT.out]
 exact⟨cs,rfl,wGReply_lawful.mono (wGReply_lawful.keep hc kS (fun b hb e=>by have:=hb.1;omega)) (fun b hb=>(⟨by have:=hb.1;omega,by have:=hb.2;have:=kS.size;omega⟩:jai w (w2.setRow w.heap.size cs.toArray) b)),HO.out,kk3.then kS (fun i hi e=>by omega)⟩
end
end
section
theorem jk3(a:Act)(dst:Option Tmp)(x:Operand)(ty:TypeId)(pos:String)(after:Array Edge)(guard:Option (Nat×Bool)):execOp a.eval {dst:=dst,op:=.load 50 x,type:=ty,pos:=pos,after:=after,guard:=guard}=ja1 50 (a.eval x):=rfl
section
attribute [local go_sem ↓] jk3 jfQ
set_option maxRecDepth 100000 in
set_option maxHeartbeats 8000000 in
theorem jjz(rd:Nat)(p:Nat→Prop)(s:RdS)(w:World)(h:IsRd w 151 rd p s)(hpl:∀b,p b→b<w.heap.size) :
  Calls Tryz.prog 140 #[.agg #[.pointer (some ⟨rd,0,none⟩)],.func (.func 136) #[.agg #[.pointer (some ⟨rd,0,none⟩)]] #[]] w (TookR jd1 rd w (endP jc3 (jbk s))):=by
 have hlt:=h.lt
 have hsz:(w.alloc (.cells #[.pointer (some ⟨rd,0,none⟩)] 154)).heap.size=w.heap.size+1:=by simp
 have rowB:RowIs ((w.alloc (.cells #[.pointer (some ⟨rd,0,none⟩)] 154)).alloc (.cells #[.int .i64 0,.int .i64 0,.slice none 0 0,.slice none 0 0] 50)) w.heap.size 154 [.pointer (some ⟨rd,0,none⟩)]:=(RowIs.alloc w _ _).keep ((Keep.refl Nix _).alloc _) id
 have rowR:RowIs ((w.alloc (.cells #[.pointer (some ⟨rd,0,none⟩)] 154)).alloc (.cells #[.int .i64 0,.int .i64 0,.slice none 0 0,.slice none 0 0] 50)) (w.heap.size+1) 50 [.int .i64 0,.int .i64 0,.slice none 0 0,.slice none 0 0]:=by
  rw[←hsz]
  exact RowIs.alloc (w.alloc (.cells #[.pointer (some ⟨rd,0,none⟩)] 154)) _ _
 have hr:=h.nix (((Keep.refl Nix w).alloc (.cells #[.pointer (some ⟨rd,0,none⟩)] 154)).alloc (.cells #[.int .i64 0,.int .i64 0,.slice none 0 0,.slice none 0 0] 50))
 have kk:Keep (·=rd) w ((w.alloc (.cells #[.pointer (some ⟨rd,0,none⟩)] 154)).alloc (.cells #[.int .i64 0,.int .i64 0,.slice none 0 0,.slice none 0 0] 50)):=((Keep.refl (·=rd) w).alloc _).alloc _
 clear h hsz
 go_enter Tryz.func140,Tryz.ntmps140
 go_wp2_with fail
 go_fit (jhu rd p _ _ hr (fun b hb=>Nat.lt_of_lt_of_le (hpl b hb) kk.size))
 rintro e w1 ⟨cs,rfl,hc,ho,hr1,k1⟩
 have hlc:=Lib.hid (wGCatalog_lawful.len hc)
 have HO:=Lib.hid ho
 clear ho hr
 obtain⟨y,HY⟩:∃y,Hid (jbk s=y):=⟨_,rfl⟩
 rw[HY.out]at hc hr1
 have rRl0:=rowR.lt
 replace rowB:=rowB.keep k1 (by omega)
 replace rowR:=rowR.keep k1 (by omega)
 have rRl:=rowR.lt
 have hrl:=hr1.lt
 have hst0:=jaf (P:=Tryz.prog) (cs:=cs) S_Catalog (RowIs.alloc w1 #[.int .i64 0,.int .i64 0,.slice none 0 0,.slice none 0 0] 50) rfl hlc.out HO.out
 have rowV:=(RowIs.alloc w1 #[.int .i64 0,.int .i64 0,.slice none 0 0,.slice none 0 0] 50).setRow cs
 have kT:=((Keep.refl (·=w1.heap.size) w1).alloc (.cells #[.int .i64 0,.int .i64 0,.slice none 0 0,.slice none 0 0] 50)).setRow (fun _=>rfl) cs.toArray
 replace rowB:=rowB.keep kT (by omega)
 replace rowR:=rowR.keep kT (by omega)
 have hr2:=hr1.keep kT (by omega) (fun b hb e=>by have:=hpl b hb;omega)
 have kk2:Keep (·=rd) w ((w1.alloc (.cells #[.int .i64 0,.int .i64 0,.slice none 0 0,.slice none 0 0] 50)).setRow w1.heap.size cs.toArray):=(kk.trans k1).then kT (fun i hi e=>by omega)
 have hs2:w.heap.size+2≤((w.alloc (.cells #[.pointer (some ⟨rd,0,none⟩)] 154)).alloc (.cells #[.int .i64 0,.int .i64 0,.slice none 0 0,.slice none 0 0] 50)).heap.size:=by simp
 replace hc:=wGCatalog_lawful.keep hc kT (fun b hb e=>by have:=hb.2;omega)
 have xB:((w1.alloc (.cells #[.int .i64 0,.int .i64 0,.slice none 0 0,.slice none 0 0] 50)).setRow w1.heap.size cs.toArray).cell? ⟨w.heap.size,0,none⟩=some (.pointer (some ⟨rd,0,none⟩)):=rowB.cell 0
 clear k1 kT hr1 rowB kk
 go_wp2_with fail
 go_fit (jjs rd p y.2 _ hr2)
 rintro e w2 ⟨rfl,k2⟩
 clear xB hst0
 replace rowR:=rowR.keep k2 id
 replace rowV:=rowV.keep k2 id
 replace hc:=wGCatalog_lawful.nix hc k2
 have kk3:=kk2.trans k2.nix
 have rRl2:=rowV.lt
 clear hr2 k2 kk2
 rcases jbH (endS y.2) 0 with⟨t,he⟩ | ⟨t,he⟩
 ·have t':(endS y.2 != 0)=false:=by simp[he.out]
  have hld:(ja1 50 (.pointer (some ⟨w1.heap.size,0,none⟩))).run Tryz.prog w2=.ok (.value (.agg cs.toArray)) w2:=Whole.row S_Catalog hlc.out rowV
  have hst:=jaf (P:=Tryz.prog) (cs:=cs) S_Catalog rowR rfl hlc.out HO.out
  have rowF:=rowR.setRow cs
  have kS:=(Keep.refl (·=w.heap.size+1) w2).setRow (fun _=>rfl) cs.toArray
  have hin:(Tryz.prog.info? 50).map (·.size)=some cs.toArray.size:=by rw[List.size_toArray,hlc.out];exact S_Catalog.info
  have HIN:=Lib.hid hin
  clear hin rowV
  go_wp2_with fail
  refine bodyPost_ret (jag (by rfl) _ _ _ _ _ _ _ (by rfl) rowF Tryz.underlying50 (by rfl) HIN.out) rfl ?_
  rw[HY.out,jie he.out]
  exact⟨cs,rfl,wGCatalog_lawful.mono (wGCatalog_lawful.keep hc kS (fun b hb e=>by have:=hb.1;omega)) (fun b hb=>(⟨by have:=hb.1;omega,by have:=hb.2;have:=kS.size;omega⟩:jai w (w2.setRow (w.heap.size+1) cs.toArray) b)),HO.out,kk3.then kS (fun i hi e=>by omega)⟩
 ·have t':(endS y.2 != 0)=true:=by simp[he]
  have HE:=Lib.hid he
  clear he
  have rowN:RowIs (w2.alloc (.cells #[.int .i64 0,.int .i64 0,.slice none 0 0,.slice none 0 0] 50)) w2.heap.size 50 [.int .i64 0,.int .i64 0,.slice none 0 0,.slice none 0 0]:=RowIs.alloc w2 _ _
  have rowR2:=rowR.keep ((Keep.refl Nix w2).alloc (.cells #[.int .i64 0,.int .i64 0,.slice none 0 0,.slice none 0 0] 50)) id
  have hld:(ja1 50 (.pointer (some ⟨w2.heap.size,0,none⟩))).run Tryz.prog (w2.alloc (.cells #[.int .i64 0,.int .i64 0,.slice none 0 0,.slice none 0 0] 50))=.ok (.value (.agg #[.int .i64 0,.int .i64 0,.slice none 0 0,.slice none 0 0])) (w2.alloc (.cells #[.int .i64 0,.int .i64 0,.slice none 0 0,.slice none 0 0] 50)):=Whole.row S_Catalog rfl rowN
  have hst:=jaf (P:=Tryz.prog) (cs:=[.int .i64 0,.int .i64 0,.slice none 0 0,.slice none 0 0]) S_Catalog rowR2 rfl rfl rfl
  have rowF:=rowR2.setRow [.int .i64 0,.int .i64 0,.slice none 0 0,.slice none 0 0]
  have kS:=((Keep.refl (·=w.heap.size+1) w2).alloc (.cells #[.int .i64 0,.int .i64 0,.slice none 0 0,.slice none 0 0] 50)).setRow (fun _=>rfl) (#[.int .i64 0,.int .i64 0,.slice none 0 0,.slice none 0 0]:Array Value)
  clear rowN rowV rowR2
  go_wp2_with fail
  refine bodyPost_ret (jag (by rfl) _ _ _ _ _ _ _ (by rfl) rowF Tryz.underlying50 (by rfl) S_Catalog.info) rfl ?_
  rw[HY.out,jlg HE.out]
  exact⟨[.int .i64 0,.int .i64 0,.slice none 0 0,.slice none 0 0],rfl,jgU _ _,rfl,kk3.then kS (fun i hi e=>by omega)⟩
end
section
attribute [local go_sem ↓] jfQ
set_option maxRecDepth 100000 in
set_option maxHeartbeats 8000000 in
theorem jis{p:Nat→Prop}(a:Option Addr)(n ca:Nat)(l:List UInt8)(w:World)(hn:l.length=n)(ha:Lies w p a (l.map bv))(hr0:n≤140737488355328) :
  Calls Tryz.prog 86 #[.slice a n ca] w (Took jd1 w (jcP jbk jc3 l)):=by
 have rowR:RowIs (w.alloc (.cells #[.int .i64 0,.int .i64 0,.slice none 0 0,.slice none 0 0] 50)) w.heap.size 50 [.int .i64 0,.int .i64 0,.slice none 0 0,.slice none 0 0]:=RowIs.alloc w _ _
 have ha1:=ha.keep ((Keep.refl Nix w).alloc (.cells #[.int .i64 0,.int .i64 0,.slice none 0 0,.slice none 0 0] 50)) (fun _ _ h=>h)
 have hmf:∀(fn:Fn) (first cap:Array Value) (w:World),(Instr.makeFunc fn first cap).run Tryz.prog w=.ok (.func fn first cap) w:=fun _ _ _ _=>rfl
 have HN:=Lib.hid hn
 have kk:Keep Nix w (w.alloc (.cells #[.int .i64 0,.int .i64 0,.slice none 0 0,.slice none 0 0] 50)):=(Keep.refl Nix w).alloc _
 clear hn ha
 go_enter Tryz.func86,Tryz.ntmps86
 go_wp2_with fail
 go_fit (jju a n ca l _ HN.out ha1 hr0)
 rintro e w1 ⟨rd,rfl,hrd,hr,k1⟩
 have hrt:=hr.tight
 have rRl0:=rowR.lt
 replace rowR:=rowR.keep k1 id
 have rRl:=rowR.lt
 have hrd':w.heap.size<rd:=by simp at hrd;omega
 have hrl:=hr.lt
 have hr2:=hrt.nix ((Keep.refl Nix w1).alloc (.cells #[.pointer (some ⟨rd,0,none⟩)] 154))
 have rowR2:=rowR.keep ((Keep.refl Nix w1).alloc (.cells #[.pointer (some ⟨rd,0,none⟩)] 154)) id
 have kk2:Keep Nix w (w1.alloc (.cells #[.pointer (some ⟨rd,0,none⟩)] 154)):=(kk.trans k1).alloc _
 have hs1:w1.heap.size≤(w1.alloc (.cells #[.pointer (some ⟨rd,0,none⟩)] 154)).heap.size:=by simp
 clear hr hrt k1 kk ha1 rowR hrd
 go_wp2_with fail
 go_fit (jjz rd _ ⟨l,0,0,[]⟩ _ hr2 (fun b hb=>Nat.lt_of_lt_of_le hb.2 hs1))
 rintro e w2 ⟨cs,rfl,hc,ho,k2⟩
 have hlc:=Lib.hid (wGCatalog_lawful.len hc)
 have HO:=Lib.hid ho
 have hT:Hid (jcP jbk jc3 l=endP jc3 (jbk ⟨l,0,0,[]⟩)):=rfl
 generalize endP jc3 (jbk ⟨l,0,0,[]⟩)=y at hc hT ⊢
 replace rowR2:=rowR2.keep k2 (by omega)
 have kk3:Keep Nix w w2:=kk2.then k2 (fun i hi e=>by omega)
 have hst:=jaf (P:=Tryz.prog) (cs:=cs) S_Catalog rowR2 rfl hlc.out HO.out
 have rowF:=rowR2.setRow cs
 have kS:=(Keep.refl (·=w.heap.size) w2).setRow (fun _=>rfl) cs.toArray
 have hin:(Tryz.prog.info? 50).map (·.size)=some cs.toArray.size:=by rw[List.size_toArray,hlc.out];exact S_Catalog.info
 have HIN:=Lib.hid hin
 have hs3:=k2.size
 clear hin ho hr2 k2 kk2
 go_wp2_with fail
 refine bodyPost_ret (jag (by rfl) _ _ _ _ _ _ _ (by rfl) rowF Tryz.underlying50 (by rfl) HIN.out) rfl ?_
 rw[hT.out]
 exact⟨cs,rfl,wGCatalog_lawful.mono (wGCatalog_lawful.keep hc kS (fun b hb e=>by have:=hb.1;omega)) (fun b hb=>(⟨by have:=hb.1;omega,by have:=hb.2;have:=kS.size;omega⟩:jai w (w2.setRow w.heap.size cs.toArray) b)),HO.out,kk3.then kS (fun i hi e=>by omega)⟩
end
end
section
theorem jh4:∀(f i a v:Nat) (l u:List UInt8),f+1+i=10→l ++ u=numF f v→u≠[]→jbh (f+1) i a l=(0,0,8)
 | 0,i,a,v,[],u,hf,h,hu=>rfl
 | 0,i,a,v,c :: l,u,hf,h,hu=>by
  simp only[numF,List.cons_append,List.cons.injEq,List.append_eq_nil_iff]at h
  exact absurd h.2.2 hu
 | f+1,i,a,v,[],u,hf,h,hu=>rfl
 | f+1,i,a,v,c :: l,u,hf,h,hu=>by
  by_cases hv:v<128
  ·rw[jeC _ _ hv]at h
   simp only[List.cons_append,List.cons.injEq,List.append_eq_nil_iff]at h
   exact absurd h.2.2 hu
  ·rw[jfF _ _ (by omega)]at h
   simp only[List.cons_append,List.cons.injEq]at h
   obtain⟨rfl,h⟩:=h
   have e:=jev (v % 128+128) (by omega)
   conv=>lhs;unfold jbh
   rw[e,if_neg (by omega),if_neg (by omega)]
   exact jh4 f (i+1) _ (v / 128) l u (by omega) h hu
theorem jk4(v:Nat)(l u:List UInt8)(h:l ++ u=numB v)(hu:u≠[]):jaE l=(0,0,8):=jh4 9 0 0 v l u rfl h hu
structure Good{α:Type}(f:Ps α)(enc:α→List UInt8)(ok:α→Prop):Prop where
 stuck:∀s,s.e≠0→(f s).2=s
 back:∀x s t,ok x→s.e=0→s.B.drop s.pos=enc x ++ t→f s=(x,{s with pos:=s.pos+(enc x).length})
 cut:∀x s u,ok x→s.e=0→s.B.drop s.pos ++ u=enc x→u≠[]→(f s).2.e=8
 form:∀s,s.e=0→(f s).2.e=0→(f s).2={s with pos:=(f s).2.pos}∧s.B.drop s.pos=enc (f s).1 ++ s.B.drop (f s).2.pos∧s.pos≤(f s).2.pos
/-! ### numbers -/
theorem jb7{m v:Nat}{s:RdS}{t:List UInt8}(he:s.e=0)(hm:v≤m)(hv:v<2 ^ 64)(h:s.B.drop s.pos=numB v ++ t):numS m s=(v,{s with pos:=s.pos+(numB v).length}):=by
 unfold numS
 rw[if_neg (by simp[he]),h,jmJ v t hv]
 rw[if_neg (by simp),if_neg (by simpa using hm)]
theorem jeV{m v:Nat}{s:RdS}{u:List UInt8}(he:s.e=0)(h:s.B.drop s.pos ++ u=numB v)(hu:u≠[]):numS m s=(0,{s with e:=8}):=by
 unfold numS
 rw[if_neg (by simp[he]),jk4 v _ u h hu,if_pos (by simp)]
theorem jdx{m:Nat}{s:RdS}(he:s.e=0)(h:(numS m s).2.e=0):(numS m s).2={s with pos:=(numS m s).2.pos}∧s.B.drop s.pos=numB (numS m s).1 ++ s.B.drop (numS m s).2.pos∧s.pos≤(numS m s).2.pos:=by
 unfold numS at *
 rw[if_neg (by simp[he])]at *
 by_cases h1:(jaE (s.B.drop s.pos)).2.2=0
 ·rw[if_neg (by simp[h1])]at *
  by_cases h2:m<(jaE (s.B.drop s.pos)).1
  ·rw[if_pos h2]at h;simp at h
  ·rw[if_neg h2]at *
   refine⟨rfl,?_,Nat.le_add_right _ _⟩
   simp only[jlG _ h1]
   rw[←List.drop_drop,List.take_append_drop]
 ·rw[if_pos (by simpa using h1)]at h
  exact absurd h h1
/-! ### parts side by side -/
def seqP{α β:Type}(f:Ps α)(g:Ps β):Ps (α×β):=fun s=>(((f s).1,(g (f s).2).1),(g (f s).2).2)
theorem Good.seq{α β:Type}{f:Ps α}{g:Ps β}{ef:α→List UInt8}{eg:β→List UInt8}{kf:α→Prop}{kg:β→Prop}(hf:Good f ef kf)(hg:Good g eg kg) :
  Good (seqP f g) (fun x=>ef x.1 ++ eg x.2) (fun x=>kf x.1∧kg x.2):=by
 refine⟨?_,?_,?_,?_⟩
 ·intro s he
  have h1:=hf.stuck s he
  show(g (f s).2).2=s
  rw[h1];exact hg.stuck s he
 ·rintro⟨x,y⟩ s t ⟨kx,ky⟩ he h
  rw[List.append_assoc]at h
  have h1:=hf.back x s _ kx he h
  have h2:=hg.back y {s with pos:=s.pos+(ef x).length} t ky he (by
   show s.B.drop (s.pos+(ef x).length)=_
   rw[←List.drop_drop,h,List.drop_left])
  show(((f s).1,(g (f s).2).1),(g (f s).2).2)=_
  rw[h1,h2]
  simp only[List.length_append,Nat.add_assoc]
 ·rintro⟨x,y⟩ s u ⟨kx,ky⟩ he h hu
  show(g (f s).2).2.e=8
  rcases List.append_eq_append_iff.mp h with⟨a,h1,h2⟩ | ⟨c,h1,h2⟩
  ·by_cases ha:a=[]
   ·subst ha
    rw[List.append_nil]at h1
    have b1:=hf.back x s [] kx he (by rw[List.append_nil];exact h1.symm)
    rw[b1]
    refine hg.cut y _ u ky he ?_ hu
    show s.B.drop (s.pos+(ef x).length) ++ u=_
    rw[←List.drop_drop,←h1,List.drop_length,h2];rfl
   ·have c1:=hf.cut x s a kx he h1.symm ha
    rw[hg.stuck _ (by rw[c1];decide),c1]
  ·have b1:=hf.back x s c kx he h1
   rw[b1]
   refine hg.cut y _ u ky he ?_ hu
   show s.B.drop (s.pos+(ef x).length) ++ u=_
   rw[←List.drop_drop,h1,List.drop_left,h2]
 ·intro s he h
  have he1:(f s).2.e=0:=by
   apply Classical.byContradiction
   intro hn
   exact hn (by rw[←hg.stuck _ hn];exact h)
  obtain⟨a1,a2,a3⟩:=hf.form s he he1
  obtain⟨b1,b2,b3⟩:=hg.form (f s).2 he1 h
  have eB:(f s).2.B=s.B:=by rw[a1]
  refine⟨?_,?_,Nat.le_trans a3 b3⟩
  ·show(g (f s).2).2={s with pos:=(g (f s).2).2.pos}
   rw[b1,a1]
  ·show s.B.drop s.pos=(ef (f s).1 ++ eg (g (f s).2).1) ++ s.B.drop (g (f s).2).2.pos
   rw[eB]at b2
   rw[a2,b2,List.append_assoc]
theorem Good.map{α β:Type}{f:Ps α}{ef:α→List UInt8}{kf:α→Prop}(hf:Good f ef kf)(φ:α→β)(ψ:β→α)(h1:∀y,φ (ψ y)=y)(h2:∀x,ψ (φ x)=x) :
  Good (fun s=>(φ (f s).1,(f s).2)) (fun y=>ef (ψ y)) (fun y=>kf (ψ y)):=by
 refine⟨hf.stuck,?_,fun x s u hx=>hf.cut (ψ x) s u hx,?_⟩
 ·intro x s t hx he h
  show(φ (f s).1,(f s).2)=_
  rw[hf.back (ψ x) s t hx he h];simp only[h1]
 ·intro s he h
  show _∧s.B.drop s.pos=ef (ψ (φ (f s).1)) ++ _∧_
  rw[h2]
  exact hf.form s he h
/-! ### the leaves -/
theorem good_int:Good pInt encI jae:=by
 refine⟨?_,?_,?_,?_⟩
 ·intro s he;unfold pInt;rw[jeb he]
 ·intro x s t hx he h
  have hz:=jlw hx
  unfold jaw at hz
  unfold pInt
  rw[jb7 he (by unfold maxU;omega) (by omega) h]
  simp only[jpJ]
 ·intro x s u hx he h hu
  unfold pInt
  rw[jeV he h hu]
 ·intro s he h
  obtain⟨h1,h2,h3⟩:=jdx he h
  refine⟨h1,?_,h3⟩
  show _=numB (zig (zag (numS maxU s).1)).toNat ++ _
  have e:(zig (zag (numS maxU s).1)).toNat=(numS maxU s).1:=by
   generalize (numS maxU s).1=v
   unfold zig zag;split <;> split <;> omega
  rw[e];exact h2
theorem good_num:Good pNum encU jaw:=by
 refine⟨?_,?_,?_,?_⟩
 ·intro s he;unfold pNum;rw[jeb he]
 ·intro x s t hx he h
  unfold jaw at hx
  unfold pNum
  rw[jb7 he (by unfold maxU;omega) (by omega) h]
  simp only[Int.toNat_of_nonneg hx.1]
 ·intro x s u hx he h hu
  unfold pNum
  rw[jeV he h hu]
 ·intro s he h
  obtain⟨h1,h2,h3⟩:=jdx he h
  exact⟨h1,h2,h3⟩
theorem jfo:Good jbZ encF (fun _=>True):=by
 refine⟨?_,?_,?_,?_⟩
 ·intro s he;unfold jbZ;rw[jeb he]
 ·intro x s t hx he h
  unfold jbZ
  rw[jb7 he (by cases x <;> decide) (by cases x <;> decide) h]
  cases x <;> rfl
 ·intro x s u hx he h hu
  unfold jbZ
  rw[jeV he h hu]
 ·intro s he h
  obtain⟨h1,h2,h3⟩:=jdx he h
  refine⟨h1,?_,h3⟩
  have hl:=jcc 1 s
  show _=numB (if decide (((numS 1 s).1:Int)=1)=true then 1 else 0) ++ _
  have e:(if decide (((numS 1 s).1:Int)=1)=true then 1 else 0)=(numS 1 s).1:=by
   generalize (numS 1 s).1=v at hl ⊢
   by_cases hv:v=1
   ·subst hv;rfl
   ·rw[if_neg (by simp;omega)];omega
  rw[e];exact h2
theorem good_bytes:Good jaF jas (fun l=>l.length≤65536):=by
 refine⟨?_,?_,?_,?_⟩
 ·intro s he;unfold jaF;rw[jgR he]
 ·intro x s t hx he h
  unfold jas at h
  rw[List.append_assoc]at h
  have hl:x.length+t.length≤s.B.length - (s.pos+(numB x.length).length):=by
   have:=congrArg List.length h
   simp only[List.length_drop,List.length_append]at this;omega
  have hd:s.B.drop (s.pos+(numB x.length).length)=x ++ t:=by rw[←List.drop_drop,h,List.drop_left]
  unfold jaF ja4
  rw[if_neg (by simp[he]),jb7 he hx (by omega) h,if_neg (by simp[he])]
  rw[if_neg (by simp only;omega)]
  simp only[hd,List.take_left,jas,List.length_append,Nat.add_assoc]
 ·intro x s u hx he h hu
  unfold jas at h
  unfold jaF ja4
  rw[if_neg (by simp[he])]
  rcases List.append_eq_append_iff.mp h with⟨a,h1,h2⟩ | ⟨c,h1,h2⟩
  ·by_cases ha:a=[]
   ·subst ha
    rw[List.append_nil]at h1
    have hx0:x≠[]:=by rintro rfl;exact hu (by simpa using h2)
    have hp:0<x.length:=List.length_pos_iff.mpr hx0
    have hl:s.B.length - (s.pos+(numB x.length).length)=0:=by
     have:=congrArg List.length h1
     simp only[List.length_drop]at this;omega
    rw[jb7 (t:=[]) he hx (by omega) (by rw[List.append_nil];exact h1.symm),if_neg (by simp[he]),if_pos (by simp only;omega)]
   ·rw[jeV he h1.symm ha,if_pos (by simp)]
  ·have hl:s.B.length - (s.pos+(numB x.length).length)=c.length:=by
    have:=congrArg List.length h1
    simp only[List.length_drop,List.length_append]at this;omega
   have hc:c.length<x.length:=by
    have:=congrArg List.length h2
    have:=List.length_pos_iff.mpr hu
    simp only[List.length_append]at *;omega
   rw[jb7 (t:=c) he hx (by omega) h1,if_neg (by simp[he]),if_pos (by simp only;omega)]
 ·intro s he h
  unfold jaF ja4 at *
  rw[if_neg (by simp[he])]at *
  by_cases h1:(numS 65536 s).2.e=0
  ·rw[if_neg (by simp[h1])]at *
   by_cases h2:s.B.length - (numS 65536 s).2.pos<(numS 65536 s).1
   ·rw[if_pos h2]at h;simp at h
   ·rw[if_neg h2]at *
    obtain⟨a1,a2,a3⟩:=jdx he h1
    refine⟨rfl,?_,Nat.le_trans a3 (Nat.le_add_right _ _)⟩
    have hl:((s.B.drop (numS 65536 s).2.pos).take (numS 65536 s).1).length=(numS 65536 s).1:=by
     rw[List.length_take,List.length_drop];omega
    unfold jas
    simp only[hl]
    rw[List.append_assoc,←List.drop_drop,List.take_append_drop]
    exact a2
  ·rw[if_pos (by simpa using h1)]at h
   exact absurd h h1
/-! ### lists -/
theorem jdG{α:Type}(f:Ps α)(n:Nat){s:RdS}(he:s.e≠0):jan f n s=([],s):=by
 cases n with
 | zero=>
  rfl
 | succ n=>
  unfold jan;rw[if_neg he]
theorem jh9{α:Type}{f:Ps α}{enc:α→List UInt8}{ok:α→Prop}(hf:Good f enc ok):∀(l:List α) (s:RdS) (t:List UInt8),(∀x∈l,ok x)→s.e=0→s.B.drop s.pos=l.flatMap enc ++ t→
  jan f l.length s=(l,{s with pos:=s.pos+(l.flatMap enc).length})
 | [],s,t,_,he,_=>rfl
 | x :: l,s,t,hk,he,h=>by
  rw[List.flatMap_cons,List.append_assoc]at h
  have h1:=hf.back x s _ (hk x List.mem_cons_self) he h
  have h2:=jh9 hf l {s with pos:=s.pos+(enc x).length} t (fun y hy=>hk y (List.mem_cons_of_mem _ hy)) he (by
   show s.B.drop (s.pos+(enc x).length)=_
   rw[←List.drop_drop,h,List.drop_left])
  rw[List.length_cons]
  unfold jan
  rw[if_pos he,h1,h2]
  simp only[List.flatMap_cons,List.length_append,Nat.add_assoc]
theorem jfq{α:Type}{f:Ps α}{enc:α→List UInt8}{ok:α→Prop}(hf:Good f enc ok):∀(l:List α) (s:RdS) (u:List UInt8),(∀x∈l,ok x)→s.e=0→s.B.drop s.pos ++ u=l.flatMap enc→u≠[]→
  (jan f l.length s).2.e=8
 | [],s,u,_,he,h,hu=>by
  simp only[List.flatMap_nil,List.append_eq_nil_iff]at h
  exact absurd h.2 hu
 | x :: l,s,u,hk,he,h,hu=>by
  rw[List.flatMap_cons]at h
  rw[List.length_cons]
  unfold jan
  rw[if_pos he]
  show(jan f l.length (f s).2).2.e=8
  have kx:=hk x List.mem_cons_self
  rcases List.append_eq_append_iff.mp h with⟨a,h1,h2⟩ | ⟨c,h1,h2⟩
  ·by_cases ha:a=[]
   ·subst ha
    rw[List.append_nil]at h1
    rw[hf.back x s [] kx he (by rw[List.append_nil];exact h1.symm)]
    refine jfq hf l _ u (fun y hy=>hk y (List.mem_cons_of_mem _ hy)) he ?_ hu
    show s.B.drop (s.pos+(enc x).length) ++ u=_
    rw[←List.drop_drop,←h1,List.drop_length,h2];rfl
   ·have c1:=hf.cut x s a kx he h1.symm ha
    rw[jdG f _ (by rw[c1];decide),c1]
  ·rw[hf.back x s c kx he h1]
   refine jfq hf l _ u (fun y hy=>hk y (List.mem_cons_of_mem _ hy)) he ?_ hu
   show s.B.drop (s.pos+(enc x).length) ++ u=_
   rw[←List.drop_drop,h1,List.drop_left,h2]
theorem jhA{α:Type}{f:Ps α}{enc:α→List UInt8}{ok:α→Prop}(hf:Good f enc ok):∀(n:Nat) (s:RdS),s.e=0→(jan f n s).2.e=0→
  (jan f n s).2={s with pos:=(jan f n s).2.pos}∧s.B.drop s.pos=(jan f n s).1.flatMap enc ++ s.B.drop (jan f n s).2.pos∧s.pos≤(jan f n s).2.pos∧(jan f n s).1.length=n
 | 0,s,he,h=>⟨rfl,rfl,Nat.le_refl _,rfl⟩
 | n+1,s,he,h=>by
  unfold jan at *
  rw[if_pos he]at *
  have he1:(f s).2.e=0:=by
   apply Classical.byContradiction
   intro hn
   rw[jdG f n hn]at h
   exact hn h
  obtain⟨a1,a2,a3⟩:=hf.form s he he1
  obtain⟨b1,b2,b3,b4⟩:=jhA hf n (f s).2 he1 h
  have eB:(f s).2.B=s.B:=by rw[a1]
  refine⟨?_,?_,Nat.le_trans a3 b3,by simp only[List.length_cons,b4]⟩
  ·show(jan f n (f s).2).2={s with pos:=(jan f n (f s).2).2.pos}
   rw[b1,a1]
  ·rw[eB]at b2
   simp only[List.flatMap_cons,List.append_assoc]
   rw[←b2];exact a2
theorem Good.list{α:Type}{f:Ps α}{enc:α→List UInt8}{ok:α→Prop}(hf:Good f enc ok):Good (jaA f) (encL enc) (fun l=>l.length≤5000∧∀x∈l,ok x):=by
 refine⟨?_,?_,?_,?_⟩
 ·intro s he;unfold jaA;rw[jeb he];exact congrArg Prod.snd (jdG f 0 he)
 ·rintro l s t ⟨hl,hk⟩ he h
  unfold encL at h
  rw[List.append_assoc]at h
  unfold jaA
  rw[jb7 he hl (by omega) h]
  have b:=jh9 hf l {s with pos:=s.pos+(numB l.length).length} t hk he (by
   show s.B.drop (s.pos+(numB l.length).length)=_
   rw[←List.drop_drop,h,List.drop_left])
  dsimp only
  rw[b]
  simp only[encL,List.length_append,Nat.add_assoc]
 ·rintro l s u ⟨hl,hk⟩ he h hu
  unfold encL at h
  unfold jaA
  rcases List.append_eq_append_iff.mp h with⟨a,h1,h2⟩ | ⟨c,h1,h2⟩
  ·by_cases ha:a=[]
   ·subst ha
    rw[List.append_nil]at h1
    rw[jb7 (t:=[]) he hl (by omega) (by rw[List.append_nil];exact h1.symm)]
    refine jfq hf l _ u hk he ?_ hu
    show s.B.drop (s.pos+(numB l.length).length) ++ u=_
    rw[←List.drop_drop,←h1,List.drop_length,h2];rfl
   ·rw[jeV he h1.symm ha]
    exact(by rw[jdG f _ (show(8:Int)≠0 by decide)]:(jan f 0 {s with e:=8}).2.e=8)
  ·rw[jb7 (t:=c) he hl (by omega) h1]
   refine jfq hf l _ u hk he ?_ hu
   show s.B.drop (s.pos+(numB l.length).length) ++ u=_
   rw[←List.drop_drop,h1,List.drop_left,h2]
 ·intro s he h
  unfold jaA at *
  have he1:(numS 5000 s).2.e=0:=by
   apply Classical.byContradiction
   intro hn
   rw[jdG f _ hn]at h
   exact hn h
  obtain⟨a1,a2,a3⟩:=jdx he he1
  obtain⟨b1,b2,b3,b4⟩:=jhA hf _ (numS 5000 s).2 he1 h
  have eB:(numS 5000 s).2.B=s.B:=by rw[a1]
  refine⟨?_,?_,Nat.le_trans a3 b3⟩
  ·rw[b1,a1]
  ·rw[eB]at b2
   unfold encL
   rw[b4,List.append_assoc,←b2];exact a2
/-! ### the whole -/
section
variable {α : Type} {f : Ps α} {enc : α → List UInt8} {ok : α → Prop} (hf : Good f enc ok) (z : α)
include hf
theorem Good.take_back(x:α)(hx:ok x):jcP f z (enc x)=(x,0):=by
 unfold jcP
 rw[hf.back x _ [] hx rfl (by simp),jie]
 simp[endS]
end
end
abbrev okF(_:Bool):Prop:=True
abbrev okT(l:List UInt8):Prop:=l.length≤65536
abbrev okL{α:Type}(ok:α→Prop)(l:List α):Prop:=l.length≤5000∧∀x∈l,ok x
def jiB(x:GColumn):Prop:=(okT x.fName∧jae x.fKind)∧okF x.fNull
theorem jkI:jaR=fun s=>((fun q=>(⟨q.1.1,q.1.2,q.2⟩:GColumn)) ((seqP (seqP jaF pInt) jbZ) s).1,((seqP (seqP jaF pInt) jbZ) s).2):=by
 funext s
 simp only[jaR,seqP]
theorem good_GColumn:Good jaR jaK jiB:=by
 rw[jkI]
 exact((good_bytes.seq good_int).seq jfo).map (fun q=>(⟨q.1.1,q.1.2,q.2⟩:GColumn)) (fun y:GColumn=>((y.fName,y.fKind),y.fNull)) (fun _=>rfl) (fun _=>rfl)
def jhd(x:GTable):Prop:=((jae x.fID∧okT x.fName)∧(okL jiB) x.fColumns)∧(okL jae) x.fKey
theorem jlX:jbg=fun s=>((fun q=>(⟨q.1.1.1,q.1.1.2,q.1.2,q.2⟩:GTable)) ((seqP (seqP (seqP pInt jaF) (jaA jaR)) (jaA pInt)) s).1,((seqP (seqP (seqP pInt jaF) (jaA jaR)) (jaA pInt)) s).2):=by
 funext s
 simp only[jbg,seqP]
theorem good_GTable:Good jbg jaN jhd:=by
 rw[jlX]
 exact(((good_int.seq good_bytes).seq good_GColumn.list).seq good_int.list).map (fun q=>(⟨q.1.1.1,q.1.1.2,q.1.2,q.2⟩:GTable)) (fun y:GTable=>(((y.fID,y.fName),y.fColumns),y.fKey)) (fun _=>rfl) (fun _=>rfl)
def jhc(x:GIndex):Prop:=(((((jae x.fID∧jae x.fTable)∧okT x.fName)∧(okL jae) x.fColumns)∧okF x.fUnique)∧jae x.fState)∧okF x.fBad
theorem jlU:jbe=fun s=>((fun q=>(⟨q.1.1.1.1.1.1,q.1.1.1.1.1.2,q.1.1.1.1.2,q.1.1.1.2,q.1.1.2,q.1.2,q.2⟩:GIndex)) ((seqP (seqP (seqP (seqP (seqP (seqP pInt pInt) jaF) (jaA pInt)) jbZ) pInt) jbZ) s).1,((seqP (seqP (seqP (seqP (seqP (seqP pInt pInt) jaF) (jaA pInt)) jbZ) pInt) jbZ) s).2):=by
 funext s
 simp only[jbe,seqP]
theorem good_GIndex:Good jbe jaM jhc:=by
 rw[jlU]
 exact((((((good_int.seq good_int).seq good_bytes).seq good_int.list).seq jfo).seq good_int).seq jfo).map (fun q=>(⟨q.1.1.1.1.1.1,q.1.1.1.1.1.2,q.1.1.1.1.2,q.1.1.1.2,q.1.1.2,q.1.2,q.2⟩:GIndex)) (fun y:GIndex=>((((((y.fID,y.fTable),y.fName),y.fColumns),y.fUnique),y.fState),y.fBad)) (fun _=>rfl) (fun _=>rfl)
def jd7(x:GCatalog):Prop:=((jae x.fVersion∧jae x.fNext)∧(okL jhd) x.fTables)∧(okL jhc) x.fIndexes
theorem jkf:jbk=fun s=>((fun q=>(⟨q.1.1.1,q.1.1.2,q.1.2,q.2⟩:GCatalog)) ((seqP (seqP (seqP pInt pInt) (jaA jbg)) (jaA jbe)) s).1,((seqP (seqP (seqP pInt pInt) (jaA jbg)) (jaA jbe)) s).2):=by
 funext s
 simp only[jbk,seqP]
theorem good_GCatalog:Good jbk jaq jd7:=by
 rw[jkf]
 exact(((good_int.seq good_int).seq good_GTable.list).seq good_GIndex.list).map (fun q=>(⟨q.1.1.1,q.1.1.2,q.1.2,q.2⟩:GCatalog)) (fun y:GCatalog=>(((y.fVersion,y.fNext),y.fTables),y.fIndexes)) (fun _=>rfl) (fun _=>rfl)
def jlr(x:GPair):Prop:=(okT x.fKey∧okT x.fValue)∧jae x.fVersion
theorem jnl:jb1=fun s=>((fun q=>(⟨q.1.1,q.1.2,q.2⟩:GPair)) ((seqP (seqP jaF jaF) pInt) s).1,((seqP (seqP jaF jaF) pInt) s).2):=by
 funext s
 simp only[jb1,seqP]
theorem good_GPair:Good jb1 jaX jlr:=by
 rw[jnl]
 exact((good_bytes.seq good_bytes).seq good_int).map (fun q=>(⟨q.1.1,q.1.2,q.2⟩:GPair)) (fun y:GPair=>((y.fKey,y.fValue),y.fVersion)) (fun _=>rfl) (fun _=>rfl)
def jjT(x:GOwner):Prop:=jae x.fGroup∧okT x.fFrom
theorem jlV:jbf=fun s=>((fun q=>(⟨q.1,q.2⟩:GOwner)) ((seqP pInt jaF) s).1,((seqP pInt jaF) s).2):=by
 funext s
 simp only[jbf,seqP]
theorem good_GOwner:Good jbf jaQ jjT:=by
 rw[jlV]
 exact(good_int.seq good_bytes).map (fun q=>(⟨q.1,q.2⟩:GOwner)) (fun y:GOwner=>(y.fGroup,y.fFrom)) (fun _=>rfl) (fun _=>rfl)
def je3(x:GRoutes):Prop:=(((jae x.fEpoch∧jae x.fBase)∧(okL jjT) x.fSpans)∧jae x.fMoving)∧okT x.fCut
theorem jkJ:jcK=fun s=>((fun q=>(⟨q.1.1.1.1,q.1.1.1.2,q.1.1.2,q.1.2,q.2⟩:GRoutes)) ((seqP (seqP (seqP (seqP pInt pInt) (jaA jbf)) pInt) jaF) s).1,((seqP (seqP (seqP (seqP pInt pInt) (jaA jbf)) pInt) jaF) s).2):=by
 funext s
 simp only[jcK,seqP]
theorem jjM:Good jcK jbV je3:=by
 rw[jkJ]
 exact((((good_int.seq good_int).seq good_GOwner.list).seq good_int).seq good_bytes).map (fun q=>(⟨q.1.1.1.1,q.1.1.1.2,q.1.1.2,q.1.2,q.2⟩:GRoutes)) (fun y:GRoutes=>((((y.fEpoch,y.fBase),y.fSpans),y.fMoving),y.fCut)) (fun _=>rfl) (fun _=>rfl)
def jjU(x:GReply):Prop:=((((((jae x.fErr∧jaw x.fTxn)∧jae x.fN)∧okF x.fFlag)∧(okL jlr) x.fPairs)∧(okL jaw) x.fTxns)∧jd7 x.fCatalog)∧je3 x.fRoutes
theorem jlW:jbE=fun s=>((fun q=>(⟨q.1.1.1.1.1.1.1,q.1.1.1.1.1.1.2,q.1.1.1.1.1.2,q.1.1.1.1.2,q.1.1.1.2,q.1.1.2,q.1.2,q.2⟩:GReply)) ((seqP (seqP (seqP (seqP (seqP (seqP (seqP pInt pNum) pInt) jbZ) (jaA jb1)) (jaA pNum)) jbk) jcK) s).1,((seqP (seqP (seqP (seqP (seqP (seqP (seqP pInt pNum) pInt) jbZ) (jaA jb1)) (jaA pNum)) jbk) jcK) s).2):=by
 funext s
 simp only[jbE,seqP]
theorem good_GReply:Good jbE ja5 jjU:=by
 rw[jlW]
 exact(((((((good_int.seq good_num).seq good_int).seq jfo).seq good_GPair.list).seq good_num.list).seq good_GCatalog).seq jjM).map (fun q=>(⟨q.1.1.1.1.1.1.1,q.1.1.1.1.1.1.2,q.1.1.1.1.1.2,q.1.1.1.1.2,q.1.1.1.2,q.1.1.2,q.1.2,q.2⟩:GReply)) (fun y:GReply=>(((((((y.fErr,y.fTxn),y.fN),y.fFlag),y.fPairs),y.fTxns),y.fCatalog),y.fRoutes)) (fun _=>rfl) (fun _=>rfl)
end Go.Proofs.YtibaehlfpgipfaaGreat
