/- SCHEMA: an index is added, by the program. Printed by mac.py. -/
import Derived.Test.YtibaehlfpgipfaaGreatQZG20
namespace Go.Proofs.YtibaehlfpgipfaaGreat
open Go.RowKit
set_option maxRecDepth 100000
set_option maxHeartbeats 64000000
set_option linter.unusedSimpArgs false
def newX(c:GCatalog)(x:GIndex)(t:Int):GIndex:={x with fID:=c.fNext,fTable:=t,fState:=1,fBad:=false}
def putX(c:GCatalog)(x:GIndex):GCatalog:={c with fVersion:=c.fVersion+1,fNext:=c.fNext+1,fIndexes:=c.fIndexes ++ [x]}
def jaH(c:GCatalog)(x:GIndex)(tn:List UInt8):GCatalog×Int:=
 let t:=jbj (fun t=>decide (t.fName=tn)) c.fTables zTab
 if t.2=false then(c,5) else if jbc c (newX c x t.1.fID)=false then(c,9)
 else if 0≤jbo (fun y=>decide (y.fName=x.fName)) c.fIndexes then(c,6)
 else if 10≤c.fIndexes.length∨1073741824≤c.fNext then(c,4) else(putX c (newX c x t.1.fID),0)
theorem jjK{w:World}{p:Nat→Prop}{cs:List Value}{t:GTable}(h:jbR w p cs t):∃a ca b cb,cs=[.int .i64 t.fID,.string (strB t.fName),.slice a t.fColumns.length ca,.slice b t.fKey.length cb]∧jae t.fID:=by
 obtain⟨c0,c1,c2,c3,hcs,⟨rfl,e0⟩,⟨rfl,-⟩,h2,h3⟩:=h
 obtain⟨a,ca,rfl,-⟩:=jcM h2
 obtain⟨b,cb,rfl,-⟩:=jcM h3
 exact⟨a,ca,b,cb,hcs,jaO e0⟩
theorem jpm{α:Type}{R:RD α}{w7:World}{p q:Nat→Prop}{css:List (List Value)}{xs:List α}{sz:Nat}(h:Els R w7 p css xs)(L:Lawful R sz)(hq:∀b,p b→q b):Els R w7 q css xs:=h.mono L hq
section
attribute [local go_sem ↓] jbB jcp jc0 jdc jcd jc2 ji8
theorem jkE{p:Nat→Prop}(c:GCatalog)(csc:List Value)(x:GIndex)(csx:List Value)(tn:List UInt8)(w:World)(hc:jat w p csc c)(hx:jaZ w p csx x)(hs:jb4 c)(hsx:x.fColumns.length*8≤140737488355328)(hv:c.fVersion≤4611686018427387904)(hp:∀b,p b→b<w.heap.size) :
  Calls Tryz.prog 64 #[.agg csc.toArray,.agg csx.toArray,.string (strB tn)] w (Took jat w (jaH c x tn)):=by
 obtain⟨hlc,hcv,hcn,nT,nX⟩:=jgb hc
 have hlx:=rGIndex_lawful.len hx
 have row0:RowIs (((w.alloc (.cells csc.toArray 50)).alloc (.cells csx.toArray 41)).alloc (.cells #[.int .i64 0,.int .i64 0,.slice none 0 0,.slice none 0 0] 50)) w.heap.size 50 csc:=by have:=((RowIs.alloc w csc.toArray 50).keep ((Keep.refl Nix _).alloc (.cells csx.toArray 41)) id).keep ((Keep.refl Nix _).alloc (.cells #[.int .i64 0,.int .i64 0,.slice none 0 0,.slice none 0 0] 50)) id;simpa using this
 have rowX:RowIs (((w.alloc (.cells csc.toArray 50)).alloc (.cells csx.toArray 41)).alloc (.cells #[.int .i64 0,.int .i64 0,.slice none 0 0,.slice none 0 0] 50)) (w.heap.size+1) 41 csx:=by have:=(RowIs.alloc_at (w.alloc (.cells csc.toArray 50)) (w.heap.size+1) (by simp) csx.toArray 41).keep ((Keep.refl Nix _).alloc (.cells #[.int .i64 0,.int .i64 0,.slice none 0 0,.slice none 0 0] 50)) id;simpa using this
 have rowR:RowIs (((w.alloc (.cells csc.toArray 50)).alloc (.cells csx.toArray 41)).alloc (.cells #[.int .i64 0,.int .i64 0,.slice none 0 0,.slice none 0 0] 50)) (w.heap.size+1+1) 50 [.int .i64 0,.int .i64 0,.slice none 0 0,.slice none 0 0]:=RowIs.alloc_at ((w.alloc (.cells csc.toArray 50)).alloc (.cells csx.toArray 41)) _ (by simp) #[.int .i64 0,.int .i64 0,.slice none 0 0,.slice none 0 0] 50
 have kk:Keep Nix w (((w.alloc (.cells csc.toArray 50)).alloc (.cells csx.toArray 41)).alloc (.cells #[.int .i64 0,.int .i64 0,.slice none 0 0,.slice none 0 0] 50)):=(((Keep.refl Nix w).alloc _).alloc _).alloc _
 have gc:=rGCatalog_lawful.nix hc kk
 have gx:=rGIndex_lawful.nix hx kk
 clear hc hx
 have ld0:=Whole.run (P:=Tryz.prog) S_Catalog hlc row0
 go_enter Tryz.func64,Tryz.ntmps64
 go_wp2_with fail
 clear ld0
 go_fit (jhm c _ _ gc hs)
 rintro e w1 ⟨csO,rfl,hOwn,k1⟩
 (try replace row0:=row0.keep k1 id)
 (try replace rowR:=rowR.keep k1 id)
 (try replace rowO:=rowO.keep k1 id)
 (try replace rowN:=rowN.keep k1 id)
 (try replace gc:=rGCatalog_lawful.nix gc k1)
 (try replace hO:=rGCatalog_lawful.nix hO k1)
 (try replace ownT:=jad ownT k1 (fun _ _ h=>h))
 (try replace ownX:=jad ownX k1 (fun _ _ h=>h))
 (try replace elsT:=elsT.keep fGTable_lawful k1 (fun _ _ h=>h))
 (try replace elsX:=elsX.keep fGIndex_lawful k1 (fun _ _ h=>h))
 replace kk:=kk.trans k1
 (try replace rowX:=rowX.keep k1 id)
 (try replace rowT:=rowT.keep k1 id)
 (try replace gx:=rGIndex_lawful.nix gx k1)
 clear k1
 have hO:=hOwn.read hcv hcn nT nX
 obtain⟨aO,cO,aP,cP,cssT,cssX,m,rfl,hbm,hmw,ownT,hTlt,elsT,ownX,elsX⟩:=hOwn
 have hs1:w.heap.size+1+1+1+1+1+1≤m:=by simp at hbm;omega
 replace elsT:=elsT.mono (q:=fun b=>w.heap.size+1+1+1+1+1+1≤b∧b<m) fGTable_lawful (fun b hb=>⟨by have:=hb.1;simp at this;omega,hb.2.1⟩)
 replace ownT:=jbY (base':=w.heap.size+1+1+1+1+1+1) ownT (by simp)
 have hXlt:∀b,OwnB (.slice aP c.fIndexes.length cP) b→m≤b∧b<w1.heap.size:=fun b hb=>ownX.lt b hb
 obtain⟨hst,rowO,kV⟩:=jds (P:=Tryz.prog) (zs:=[.int .i64 0,.int .i64 0,.slice none 0 0,.slice none 0 0]) S_Catalog w1 rfl (rGCatalog_lawful.len hO) (jay hO)
 (try replace row0:=row0.keep kV id)
 (try replace rowR:=rowR.keep kV id)
 (try replace rowO:=rowO.keep kV id)
 (try replace rowN:=rowN.keep kV id)
 (try replace gc:=rGCatalog_lawful.nix gc kV)
 (try replace hO:=rGCatalog_lawful.nix hO kV)
 (try replace ownT:=jad ownT kV (fun _ _ h=>h))
 (try replace ownX:=jad ownX kV (fun _ _ h=>h))
 (try replace elsT:=elsT.keep fGTable_lawful kV (fun _ _ h=>h))
 (try replace elsX:=elsX.keep fGIndex_lawful kV (fun _ _ h=>h))
 replace kk:=kk.trans kV
 (try replace rowX:=rowX.keep kV id)
 (try replace rowT:=rowT.keep kV id)
 (try replace gx:=rGIndex_lawful.nix gx kV)
 clear kV
 have ld0:=Whole.run (P:=Tryz.prog) S_Catalog hlc row0
 clear hO
 go_wp2_with fail
 clear ld0 hst
 obtain⟨y,HY⟩:∃y,Hid (jbj (fun t=>decide (t.fName=tn)) c.fTables zTab=y):=⟨_,rfl⟩
 have HC:=jke c csc tn _ gc hs.1
 rw[HY.out]at HC
 go_fit HC
 clear HC
 obtain⟨t,yb⟩:=y
 rintro e w2 ⟨cst,rfl,fT,k2⟩
 replace fT:jbR w2 (jai _ w2) cst t:=fT
 (try replace row0:=row0.keep k2 id)
 (try replace rowR:=rowR.keep k2 id)
 (try replace rowO:=rowO.keep k2 id)
 (try replace rowN:=rowN.keep k2 id)
 (try replace gc:=rGCatalog_lawful.nix gc k2)
 (try replace hO:=rGCatalog_lawful.nix hO k2)
 (try replace ownT:=jad ownT k2 (fun _ _ h=>h))
 (try replace ownX:=jad ownX k2 (fun _ _ h=>h))
 (try replace elsT:=elsT.keep fGTable_lawful k2 (fun _ _ h=>h))
 (try replace elsX:=elsX.keep fGIndex_lawful k2 (fun _ _ h=>h))
 replace kk:=kk.trans k2
 (try replace rowX:=rowX.keep k2 id)
 (try replace rowT:=rowT.keep k2 id)
 (try replace gx:=rGIndex_lawful.nix gx k2)
 clear k2
 have hO1:=rowO.lt
 obtain⟨hst,rowT,kV⟩:=jds (P:=Tryz.prog) (zs:=[.int .i64 0,.string {data:=#[]},.slice none 0 0,.slice none 0 0]) S_Table w2 rfl (fGTable_lawful.len fT) (jdZ fT)
 (try replace row0:=row0.keep kV id)
 (try replace rowR:=rowR.keep kV id)
 (try replace rowO:=rowO.keep kV id)
 (try replace rowN:=rowN.keep kV id)
 (try replace gc:=rGCatalog_lawful.nix gc kV)
 (try replace hO:=rGCatalog_lawful.nix hO kV)
 (try replace ownT:=jad ownT kV (fun _ _ h=>h))
 (try replace ownX:=jad ownX kV (fun _ _ h=>h))
 (try replace elsT:=elsT.keep fGTable_lawful kV (fun _ _ h=>h))
 (try replace elsX:=elsX.keep fGIndex_lawful kV (fun _ _ h=>h))
 replace kk:=kk.trans kV
 (try replace rowX:=rowX.keep kV id)
 (try replace rowT:=rowT.keep kV id)
 (try replace gx:=rGIndex_lawful.nix gx kV)
 have hs2:=kV.size
 clear kV
 have ldO0:=Whole.run (P:=Tryz.prog) S_Catalog rfl rowO
 cases yb
 focus
  have HR:Hid (jaH c x tn=(c,5)):=by show _=_;unfold jaH;rw[HY.out];rfl
  clear ldO0
  refine ?h1a
 rotate_left
 focus
  have ldX:=Whole.run (P:=Tryz.prog) S_Index hlx rowX
  have HOX:=Lib.hid (jfH x csx _ gx hsx)
  clear ldO0 gx
  go_wp2_with fail
  clear ldX hst
  go_fit HOX.out
  rintro e w3 ⟨csn,rfl,fN,k3⟩
  (try replace row0:=row0.keep k3 id)
  (try replace rowR:=rowR.keep k3 id)
  (try replace rowO:=rowO.keep k3 id)
  (try replace rowN:=rowN.keep k3 id)
  (try replace gc:=rGCatalog_lawful.nix gc k3)
  (try replace hO:=rGCatalog_lawful.nix hO k3)
  (try replace ownT:=jad ownT k3 (fun _ _ h=>h))
  (try replace ownX:=jad ownX k3 (fun _ _ h=>h))
  (try replace elsT:=elsT.keep fGTable_lawful k3 (fun _ _ h=>h))
  (try replace elsX:=elsX.keep fGIndex_lawful k3 (fun _ _ h=>h))
  replace kk:=kk.trans k3
  (try replace rowX:=rowX.keep k3 id)
  (try replace rowT:=rowT.keep k3 id)
  (try replace gx:=rGIndex_lawful.nix gx k3)
  have hs3:=k3.size
  clear k3 HOX
  obtain⟨aN,cN,rfl,hn0,hn1,hn5,hnc⟩:=jeQ fN
  have hns:x.fName.length≤far:=by
   obtain⟨_,_,c2,_,_,_,_,hcs,-,-,h2,-⟩:=fN
   exact h2.2
  obtain⟨aC,cC,aK,cK,rfl,ht0⟩:=jjK fT
  replace hnc:=(jce (jab _)).mono hnc (q:=fun b=>w2.heap.size≤b∧b<w3.heap.size) (fun b hb=>⟨Nat.le_trans hs2 hb.1,hb.2⟩)
  clear fN fT hn0 hn1 hn5
  have hst:=jaf (P:=Tryz.prog) (cs:=[.int .i64 x.fID,.int .i64 x.fTable,.string (strB x.fName),.slice aN x.fColumns.length cN,.bool x.fUnique,.int .i64 x.fState,.bool x.fBad]) S_Index rowX hlx rfl rfl
  replace rowX:=rowX.setRow [.int .i64 x.fID,.int .i64 x.fTable,.string (strB x.fName),.slice aN x.fColumns.length cN,.bool x.fUnique,.int .i64 x.fState,.bool x.fBad]
  have kZ:Keep (·=w.heap.size+1) w3 (w3.setRow (w.heap.size+1) ([.int .i64 x.fID,.int .i64 x.fTable,.string (strB x.fName),.slice aN x.fColumns.length cN,.bool x.fUnique,.int .i64 x.fState,.bool x.fBad]:List Value).toArray):=(Keep.refl (·=w.heap.size+1) w3).setRow (fun _=>rfl) _
  have hS:∀w',Keep (·=w.heap.size+1) w3 w'→w'.cell? ⟨w1.heap.size,1,none⟩=some (.int .i64 c.fNext)∧w'.cell? ⟨w2.heap.size,0,none⟩=some (.int .i64 t.fID):=fun w' k=>⟨(rowO.keep k (by omega)).cell 1,(rowT.keep k (by omega)).cell 0⟩
  have HS:=Lib.hid hS
  clear hS
  go_wp2_with fail
  clear hst
  replace rowX:=rowX.same (w':=(w3.setRow (w.heap.size+1) ([.int .i64 x.fID,.int .i64 x.fTable,.string (strB x.fName),.slice aN x.fColumns.length cN,.bool x.fUnique,.int .i64 x.fState,.bool x.fBad]:List Value).toArray).drew)
  replace kZ:=kZ.drew
  refine wp_region_held_drew (S:=(fun w'=>w'.cell? ⟨w1.heap.size,1,none⟩=some (.int .i64 c.fNext)∧w'.cell? ⟨w2.heap.size,0,none⟩=some (.int .i64 t.fID))) (by kernel_rfl) ((HS.out _ kZ)) (fun jaa=>?_)
  generalize (w3.setRow (w.heap.size+1) #[.int .i64 x.fID,.int .i64 x.fTable,.string (strB x.fName),.slice aN x.fColumns.length cN,.bool x.fUnique,.int .i64 x.fState,.bool x.fBad]).drew=wS at *
  refine tk 0 rfl jaa ?_
  refine tk 1 rfl jaa ?_
  refine tk 2 rfl jaa ?_
  refine tk 3 rfl jaa ?_
  refine tk 4 rfl jaa ?_
  refine wpAnyH_ready (rs:=[5]) (by kernel_rfl) (by simp) ?_
  refine AllReadyH.cons rfl (fun K hK=>?_) AllReadyH.nil
  have x2:=rowX.cell 0
  have f2:=rowX.frozen 0
  (try simp only[List.getElem?_cons_succ]at x2);(try simp only[List.getElem?_cons_zero]at x2)
  go_simp
  clear x2 f2
  replace rowX:=rowX.set 0 (.int .i64 c.fNext)
  (try simp only[List.set_cons_succ]at rowX);(try simp only[List.set_cons_zero]at rowX)
  replace kZ:=kZ.setCell (p:=⟨w.heap.size+1,0,none⟩) (fun _=>rfl) (.int .i64 c.fNext)
  refine hK.out _ _ ((HS.out _ kZ)) (fun jaa=>?_)
  clear hK K
  try simp only[Act.put,zz1,zz2,zz3,zz4,zz5,zz6]
  refine tk 6 rfl jaa ?_
  refine wpAnyH_ready (rs:=[7]) (by kernel_rfl) (by simp) ?_
  refine AllReadyH.cons rfl (fun K hK=>?_) AllReadyH.nil
  have x2:=rowX.cell 1
  have f2:=rowX.frozen 1
  (try simp only[List.getElem?_cons_succ]at x2);(try simp only[List.getElem?_cons_zero]at x2)
  go_simp
  clear x2 f2
  replace rowX:=rowX.set 1 (.int .i64 t.fID)
  (try simp only[List.set_cons_succ]at rowX);(try simp only[List.set_cons_zero]at rowX)
  replace kZ:=kZ.setCell (p:=⟨w.heap.size+1,1,none⟩) (fun _=>rfl) (.int .i64 t.fID)
  refine hK.out _ _ ((HS.out _ kZ)) (fun jaa=>?_)
  clear hK K
  try simp only[Act.put,zz1,zz2,zz3,zz4,zz5,zz6]
  refine tk 8 rfl jaa ?_
  refine wpAnyH_ready (rs:=[9]) (by kernel_rfl) (by simp) ?_
  refine AllReadyH.cons rfl (fun K hK=>?_) AllReadyH.nil
  have x2:=rowX.cell 5
  have f2:=rowX.frozen 5
  (try simp only[List.getElem?_cons_succ]at x2);(try simp only[List.getElem?_cons_zero]at x2)
  go_simp
  clear x2 f2
  replace rowX:=rowX.set 5 (.int .i64 1)
  (try simp only[List.set_cons_succ]at rowX);(try simp only[List.set_cons_zero]at rowX)
  replace kZ:=kZ.setCell (p:=⟨w.heap.size+1,5,none⟩) (fun _=>rfl) (.int .i64 1)
  refine hK.out _ _ ((HS.out _ kZ)) (fun jaa=>?_)
  clear hK K
  try simp only[Act.put,zz1,zz2,zz3,zz4,zz5,zz6]
  refine tk 10 rfl jaa ?_
  refine wpAnyH_ready (rs:=[11]) (by kernel_rfl) (by simp) ?_
  refine AllReadyH.cons rfl (fun K hK=>?_) AllReadyH.nil
  have x2:=rowX.cell 6
  have f2:=rowX.frozen 6
  (try simp only[List.getElem?_cons_succ]at x2);(try simp only[List.getElem?_cons_zero]at x2)
  go_simp
  clear x2 f2
  replace rowX:=rowX.set 6 (.bool false)
  (try simp only[List.set_cons_succ]at rowX);(try simp only[List.set_cons_zero]at rowX)
  replace kZ:=kZ.setCell (p:=⟨w.heap.size+1,6,none⟩) (fun _=>rfl) (.bool false)
  refine hK.out _ _ ((HS.out _ kZ)) (fun jaa=>?_)
  clear hK K
  try simp only[Act.put,zz1,zz2,zz3,zz4,zz5,zz6]
  refine wpAnyH_done (by kernel_rfl) ?_ _
  clear jaa HS
  generalize (((wS.setCell ⟨w.heap.size+1,0,none⟩ (.int .i64 c.fNext)).setCell ⟨w.heap.size+1,1,none⟩ (.int .i64 t.fID)).setCell ⟨w.heap.size+1,5,none⟩ (.int .i64 1)).setCell ⟨w.heap.size+1,6,none⟩ (.bool false)=wZ at *
  replace row0:=row0.keep kZ (by omega)
  replace rowR:=rowR.keep kZ (by omega)
  replace rowO:=rowO.keep kZ (by omega)
  replace gc:=rGCatalog_lawful.keep gc kZ (fun b hb e=>by have:=hp b hb;omega)
  have ownT0:=ownT
  replace ownT:=jad ownT kZ (fun b hb e=>by have:=(ownT0.lt b hb).1;omega)
  clear ownT0
  replace ownX:=jad ownX kZ (fun b hb e=>by have:=(hXlt b hb).1;omega)
  replace elsT:=elsT.keep fGTable_lawful kZ (fun b hb e=>by have:=hb.1;omega)
  replace elsX:=elsX.keep fGIndex_lawful kZ (fun b hb e=>by have:=hb.1;omega)
  replace hnc:=(jce (jab _)).keep hnc kZ (fun b hb e=>by have:=hb.1;omega)
  replace kk:=kk.then kZ (fun i hi e=>by omega)
  have hs4:=kZ.size
  clear kZ rowT
  have fN:jbQ wZ (fun b=>w2.heap.size≤b∧b<w3.heap.size) [.int .i64 c.fNext,.int .i64 t.fID,.string (strB x.fName),.slice aN x.fColumns.length cN,.bool x.fUnique,.int .i64 1,.bool false] (newX c x t.fID):=⟨[_],[_],[_],[_],[_],[_],[_],rfl,⟨rfl,jbd hcn⟩,⟨rfl,jbd ht0⟩,⟨rfl,hns⟩,hnc,rfl,⟨rfl,(by decide:(Lit.int .i64 1).wf=true)⟩,rfl⟩
  obtain⟨z,hz⟩:∃z,z=newX c x t.fID:=⟨_,rfl⟩
  rw[←hz]at fN
  have hzn:Hid (z.fName=x.fName):=by show _=_;rw[hz];rfl
  have HZ:=Lib.hid hz
  have ld0:=Whole.run (P:=Tryz.prog) S_Catalog hlc row0
  have ldX:=Whole.run (P:=Tryz.prog) S_Index rfl rowX
  obtain⟨ib,HB⟩:∃b,Hid (jbc c z=b):=⟨_,rfl⟩
  have HC:=jfV c csc z _ wZ (rGCatalog_lawful.mono gc (q:=fun b=>b<wZ.heap.size) (fun b hb=>by have:=hp b hb;have:=kk.size;omega)) (rGIndex_lawful.mono (jde fN) (fun b hb=>by have:=hb.2;omega)) (fun b hb=>hb)
  rw[HB.out]at HC
  have HCC:=Lib.hid HC
  clear HC hz
  go_wp2_with fail
  clear ld0 ldX
  go_fit HCC.out
  rintro e w5 ⟨rfl,k5⟩
  (try replace row0:=row0.keep k5 id)
  (try replace rowR:=rowR.keep k5 id)
  (try replace rowO:=rowO.keep k5 id)
  (try replace rowN:=rowN.keep k5 id)
  (try replace gc:=rGCatalog_lawful.nix gc k5)
  (try replace hO:=rGCatalog_lawful.nix hO k5)
  (try replace ownT:=jad ownT k5 (fun _ _ h=>h))
  (try replace ownX:=jad ownX k5 (fun _ _ h=>h))
  (try replace elsT:=elsT.keep fGTable_lawful k5 (fun _ _ h=>h))
  (try replace elsX:=elsX.keep fGIndex_lawful k5 (fun _ _ h=>h))
  replace kk:=kk.trans k5
  (try replace rowX:=rowX.keep k5 id)
  (try replace rowT:=rowT.keep k5 id)
  (try replace gx:=rGIndex_lawful.nix gx k5)
  replace fN:=fGIndex_lawful.nix fN k5
  have hs5:=k5.size
  clear k5 HCC
  cases ib
  focus
   have HR:Hid (jaH c x tn=(c,9)):=by show _=_;unfold jaH;rw[HY.out];show(if true=false then _ else if jbc c (newX c x t.fID)=false then _ else _)=_;rw[←HZ.out,HB.out];rfl
   clear fN
   refine ?h1b
  rotate_left
  focus
   have ld0:=Whole.run (P:=Tryz.prog) S_Catalog hlc row0
   have x2:=rowX.cell 2
   (try simp only[List.getElem?_cons_succ]at x2);(try simp only[List.getElem?_cons_zero]at x2)
   have HF:=Lib.hid (jm2 c csc x.fName _ gc)
   go_wp2_with fail
   clear ld0 x2
   go_fit HF.out
   rintro e w6 ⟨rfl,k6⟩
   (try replace row0:=row0.keep k6 id)
   (try replace rowR:=rowR.keep k6 id)
   (try replace rowO:=rowO.keep k6 id)
   (try replace rowN:=rowN.keep k6 id)
   (try replace gc:=rGCatalog_lawful.nix gc k6)
   (try replace hO:=rGCatalog_lawful.nix hO k6)
   (try replace ownT:=jad ownT k6 (fun _ _ h=>h))
   (try replace ownX:=jad ownX k6 (fun _ _ h=>h))
   (try replace elsT:=elsT.keep fGTable_lawful k6 (fun _ _ h=>h))
   (try replace elsX:=elsX.keep fGIndex_lawful k6 (fun _ _ h=>h))
   replace kk:=kk.trans k6
   (try replace rowX:=rowX.keep k6 id)
   (try replace rowT:=rowT.keep k6 id)
   (try replace gx:=rGIndex_lawful.nix gx k6)
   replace fN:=fGIndex_lawful.nix fN k6
   have hs6:=k6.size
   clear k6 HF
   have HRQ:Hid (∀r,(if 0≤jbo (fun y=>decide (y.fName=x.fName)) c.fIndexes then(c,(6:Int)) else if 10≤c.fIndexes.length∨1073741824≤c.fNext then(c,4) else(putX c z,0))=r→jaH c x tn=r):=fun r hr=>by
    unfold jaH;rw[HY.out];show(if true=false then _ else if jbc c (newX c x t.fID)=false then _ else _)=_
    rw[←HZ.out,HB.out];exact hr
   rcases jb6 (fun y:GIndex=>decide (y.fName=x.fName)) c.fIndexes with⟨h1,-⟩ | ⟨k,hk,h1,-,-⟩
   rotate_left
   focus
    rw[h1]
    have hk0:(0:Int)≤(k:Int):=by omega
    have HR:Hid (jaH c x tn=(c,6)):=HRQ.out _ (by rw[h1,if_pos hk0])
    clear h1 HRQ fN
    refine ?h1c
   rotate_left
   focus
    rw[h1]
    have HRR:Hid (∀r,(if 10≤c.fIndexes.length∨1073741824≤c.fNext then(c,(4:Int)) else(putX c z,0))=r→jaH c x tn=r):=fun r hr=>HRQ.out _ (by rw[h1,if_neg (by decide)];exact hr)
    clear HRQ h1
    have mX:c.fIndexes.length≤140737488351232:=by have:=hs.2.2.2;omega
    obtain⟨aT0,cT0,aX0,cX0,rfl,-⟩:=jau gc
    have x3:=row0.cell 3
    (try simp only[List.getElem?_cons_succ]at x3);(try simp only[List.getElem?_cons_zero]at x3)
    have x1:=row0.cell 1
    (try simp only[List.getElem?_cons_succ]at x1);(try simp only[List.getElem?_cons_zero]at x1)
    by_cases hfull:10≤c.fIndexes.length∨1073741824≤c.fNext
    focus
     have HR:Hid (jaH c x tn=(c,4)):=HRR.out _ (if_pos hfull)
     clear fN HRR
     rcases Nat.lt_or_ge c.fIndexes.length 10 with h6 | h6
     focus
      have h7:1073741824≤c.fNext:=by omega
      clear hfull
      refine ?h1d
     rotate_left
     focus
      clear hfull
      refine ?h1e
     rotate_left
    rotate_left 2
    ·have HR:Hid (jaH c x tn=(putX c z,0)):=HRR.out _ (if_neg hfull)
     have h6:c.fIndexes.length<10:=by omega
     have h7:c.fNext<1073741824:=by omega
     clear hfull HRR
     have ldX:=Whole.run (P:=Tryz.prog) S_Index rfl rowX
     have y3:=rowO.cell 3
     (try simp only[List.getElem?_cons_succ]at y3);(try simp only[List.getElem?_cons_zero]at y3)
     have hls:=jb3 (P:=Tryz.prog) T_lIndex (by decide) [.int .i64 c.fNext,.int .i64 t.fID,.string (strB x.fName),.slice aN x.fColumns.length cN,.bool x.fUnique,.int .i64 1,.bool false] rfl w6
     have hms:m≤w6.heap.size:=by omega
     clear gc
     go_wp2_with (at_builtin;refine jbi (c:=1) T_lIndex ?hgd (.tmp 57) (.tmp 59) ?ho _ ?hs ownX ?hx ?c0 ?c1 ?c2 ?c3 ?c4 ?_)
     case hgd=>rfl
     case ho=>rfl
     case hs=>rfl
     case hx=>rfl
     case c0=>rfl
     case c1=>exact⟨rfl,rfl,rfl,rfl,rfl,rfl,rfl⟩
     case c2=>unfold maxLen;omega
     case c3=>omega
     case c4=>exact hms
     intro a7 c7 w7 own7 k7 jax
     clear x1 x3 y3 ldX hls
     have hn7:∀b,OwnB (.slice aP c.fIndexes.length cP) b→m≤b∧b<w1.heap.size:=hXlt
     have rowO7:=rowO.keep k7 (fun hb=>by have:=hn7 _ hb;omega)
     have rowR7:=rowR.keep k7 (fun hb=>by have:=hn7 _ hb;omega)
     have ownT7:=jad ownT k7 (fun b hb e=>by have:=hn7 _ e;have:=hTlt b hb;omega)
     have elsT7:=elsT.keep fGTable_lawful k7 (fun b hb e=>by have:=hn7 _ e;have:=hb.2;omega)
     have hs7:=k7.size
     have elsX7:=Els.snoc (jpm (w7:=w7) (elsX.keep fGIndex_lawful k7 (fun b hb e=>hb.2.2 e)) fGIndex_lawful (fun b hb=>(⟨by have:=hb.1;omega,by have:=hb.2.1;omega,by have:=hb.2.1;omega⟩:w.heap.size+1+1<b∧b<w7.heap.size∧b≠w1.heap.size)))
      (fGIndex_lawful.mono (fGIndex_lawful.keep fN k7 (fun b hb e=>by have:=hn7 _ e;have:=hb.1;omega)) (fun b hb=>(⟨by have:=hb.1;omega,by have:=hb.2;omega,by have:=hb.1;omega⟩:w.heap.size+1+1<b∧b<w7.heap.size∧b≠w1.heap.size)))
     have kk7:=kk.then k7 (fun i hi hb=>by have:=hn7 _ hb;omega)
     have h7g:∀b,OwnB (.slice a7 (c.fIndexes.length+1) c7) b→b≠w1.heap.size:=fun b hb=>by
      rcases jax b hb with h | h
      ·have:=hn7 b h;omega
      ·omega
     clear ownT ownX elsT elsX fN k7 jax rowO rowR kk rowX
     have x3:=rowO7.cell 3
     (try simp only[List.getElem?_cons_succ]at x3);(try simp only[List.getElem?_cons_zero]at x3)
     have f3:=rowO7.frozen 3
     have rowO8:=rowO7.set 3 (.slice a7 (c.fIndexes.length+1) c7)
     simp only[List.set_cons_succ,List.set_cons_zero]at rowO8
     have x1:=rowO8.cell 1
     (try simp only[List.getElem?_cons_succ]at x1);(try simp only[List.getElem?_cons_zero]at x1)
     have f1:=rowO8.frozen 1
     have rowO9:=rowO8.set 1 (.int .i64 (c.fNext+1))
     simp only[List.set_cons_succ,List.set_cons_zero]at rowO9
     have x0:=rowO9.cell 0
     (try simp only[List.getElem?_cons_succ]at x0);(try simp only[List.getElem?_cons_zero]at x0)
     have f0:=rowO9.frozen 0
     have rowO10:=rowO9.set 0 (.int .i64 (c.fVersion+1))
     simp only[List.set_cons_zero]at rowO10
     have kB:Keep (·=w1.heap.size) w7 (((w7.setCell ⟨w1.heap.size,3,none⟩ (.slice a7 (c.fIndexes.length+1) c7)).setCell ⟨w1.heap.size,1,none⟩ (.int .i64 (c.fNext+1))).setCell ⟨w1.heap.size,0,none⟩ (.int .i64 (c.fVersion+1))):=(((Keep.refl (·=w1.heap.size) w7).setCell (p:=⟨w1.heap.size,3,none⟩) (fun _=>rfl) _).setCell (p:=⟨w1.heap.size,1,none⟩) (fun _=>rfl) _).setCell (p:=⟨w1.heap.size,0,none⟩) (fun _=>rfl) _
     have i1:IntKind.i64.wrap (c.fNext+1)=c.fNext+1:=by have:=hcn.1;rw[IntKind.wrap_i64];omega
     have i2:IntKind.i64.wrap (c.fVersion+1)=c.fVersion+1:=by have:=hcv.1;rw[IntKind.wrap_i64];omega
     have hcv2:jae (c.fVersion+1):=⟨by have:=hcv.1;omega,by omega⟩
     have hcn2:jae (c.fNext+1):=⟨by have:=hcn.1;omega,by omega⟩
     have hln:(putX c z).fIndexes.length=c.fIndexes.length+1:=by simp[putX]
     have hfl:(cssX ++ [([.int .i64 c.fNext,.int .i64 t.fID,.string (strB x.fName),.slice aN x.fColumns.length cN,.bool x.fUnique,.int .i64 1,.bool false]:List Value)]).flatten=cssX.flatten ++ ([.int .i64 c.fNext,.int .i64 t.fID,.string (strB x.fName),.slice aN x.fColumns.length cN,.bool x.fUnique,.int .i64 1,.bool false]:List Value):=by simp
     obtain⟨hstR,rowF,HRES,HKF⟩:=jdw (w:=w) (c:=c) (d:=putX c z) (base:=w.heap.size+1+1+1+1+1+1) (m:=m) (ver:=c.fVersion+1) (nx:=c.fNext+1) (nX:=c.fIndexes.length+1) (cssX:=cssX ++ [[.int .i64 c.fNext,.int .i64 t.fID,.string (strB x.fName),.slice aN x.fColumns.length cN,.bool x.fUnique,.int .i64 1,.bool false]]) rfl rfl hln (rowR7.keep kB (by omega)) rfl (by omega) (by omega) (by omega) hcv2 hcn2 rfl hs.2.2.1 (by rw[hln];omega)
      (jad ownT7 kB (fun b hb e=>by have:=hTlt b hb;omega)) (by rw[hfl];exact jad own7 kB (fun b hb e=>h7g b hb e)) (elsT7.keep fGTable_lawful kB (fun b hb e=>by have:=hb.2;omega)) (elsX7.keep fGIndex_lawful kB (fun b hb e=>hb.2.2 e))
      (fun b hb=>⟨by have:=hb.1;omega,by have:=hb.2;have:=kB.size;omega⟩) (fun b hb=>⟨by have:=hb.1;omega,by have:=hb.2.1;have:=kB.size;omega⟩) (kk7.then kB (fun i hi e=>by omega))
     have ldO:=Whole.run (P:=Tryz.prog) S_Catalog rfl rowO10
     clear own7 ownT7 elsT7 elsX7 kk7 rowO7 rowO8 rowO9 rowO10 kB rowR7 hln hfl row0
     go_wp2_with fail
     refine bodyPost_ret (jag (by rfl) _ _ _ _ _ _ _ (by rfl) rowF Tryz.underlying50 (by rfl) (by exact S_Catalog.info)) rfl ?_
     rw[HR.out]
     exact⟨_,rfl,HRES.out,jay HRES.out,HKF.out⟩
   rotate_left 2
  rotate_left 3
 rotate_left 4
 case h1a | h1b | h1c | h1d | h1e=>
  obtain⟨hstR,rowF,HRES,HKF⟩:=jdw (w:=w) (d:=c) rfl rfl rfl rowR rfl (by omega) (by omega) (by omega) hcv hcn rfl hs.2.2.1 (by have:=hs.2.2.2;omega) ownT ownX elsT elsX (fun b hb=>⟨by have:=hb.1;omega,by have:=hb.2;omega⟩) (fun b hb=>⟨by have:=hb.1;omega,by have:=hb.2.1;omega⟩) kk
  have ldO:=Whole.run (P:=Tryz.prog) S_Catalog rfl rowO
  clear ownT ownX elsT elsX
  go_wp2_with fail
  refine bodyPost_ret (jag (by rfl) _ _ _ _ _ _ _ (by rfl) rowF Tryz.underlying50 (by rfl) (by exact S_Catalog.info)) rfl ?_
  rw[HR.out]
  exact⟨_,rfl,HRES.out,jay HRES.out,HKF.out⟩
end
end Go.Proofs.YtibaehlfpgipfaaGreat
