/- SCHEMA: an index is let go, by the program. Printed by mac.py. -/
import Derived.Test.YtibaehlfpgipfaaGreatQZG19
namespace Go.Proofs.YtibaehlfpgipfaaGreat
open Go.RowKit
set_option maxRecDepth 100000
set_option maxHeartbeats 64000000
section
def jcx(c:GCatalog)(k:Nat)(x:GIndex):GCatalog:={c with fVersion:=c.fVersion+1,fIndexes:=c.fIndexes.set k x}
def jdt(c:GCatalog)(k:Nat):GCatalog:={c with fVersion:=c.fVersion+1,fIndexes:=c.fIndexes.eraseIdx k}
def jdD(c:GCatalog)(k:Nat)(x:GIndex):GCatalog×Int:=
 if x.fState=4 then(jcx c k {x with fState:=5},0) else if 1≤x.fState∧x.fState<4 then(jcx c k {x with fState:=6},0) else(c,7)
def atI{α β:Type}(i:Int)(l:List α)(z:β)(f:Nat→α→β):β:=if i<0 then z else match l[i.toNat]? with
 | none=>z
 | some x=>f i.toNat x
theorem jel{α β:Type}{l:List α}{z:β}{f:Nat→α→β}:atI (-1) l z f=z:=by unfold atI;rw[if_pos (by decide)]
theorem jek{α β:Type}{l:List α}{z:β}{f:Nat→α→β}{k:Nat}(h:k<l.length):atI (k:Int) l z f=f k l[k]:=by
 unfold atI;rw[if_neg (by omega),Int.toNat_natCast,List.getElem?_eq_getElem h]
def jbU(c:GCatalog)(nm:List UInt8):GCatalog×Int:=atI (jbo (fun x=>decide (x.fName=nm)) c.fIndexes) c.fIndexes (c,5) (jdD c)
section
attribute [local go_sem ↓] jbB jcp jc0 jdc
theorem jpA{p:Nat→Prop}(c:GCatalog)(csc:List Value)(nm:List UInt8)(w:World)(hc:jat w p csc c)(hs:jb4 c)(hv:c.fVersion≤4611686018427387904) :
  Calls Tryz.prog 65 #[.agg csc.toArray,.string (strB nm)] w (Took jat w (jbU c nm)):=by
 obtain⟨hlc,hcv,hcn,nT,nX⟩:=jgb hc
 have row0:RowIs ((w.alloc (.cells csc.toArray 50)).alloc (.cells #[.int .i64 0,.int .i64 0,.slice none 0 0,.slice none 0 0] 50)) w.heap.size 50 csc:=by have:=(RowIs.alloc w csc.toArray 50).keep ((Keep.refl Nix _).alloc (.cells #[.int .i64 0,.int .i64 0,.slice none 0 0,.slice none 0 0] 50)) id;simpa using this
 have rowR:RowIs ((w.alloc (.cells csc.toArray 50)).alloc (.cells #[.int .i64 0,.int .i64 0,.slice none 0 0,.slice none 0 0] 50)) (w.heap.size+1) 50 [.int .i64 0,.int .i64 0,.slice none 0 0,.slice none 0 0]:=RowIs.alloc_at (w.alloc (.cells csc.toArray 50)) _ (by simp) #[.int .i64 0,.int .i64 0,.slice none 0 0,.slice none 0 0] 50
 have kk:Keep Nix w ((w.alloc (.cells csc.toArray 50)).alloc (.cells #[.int .i64 0,.int .i64 0,.slice none 0 0,.slice none 0 0] 50)):=((Keep.refl Nix w).alloc _).alloc _
 have gc:=rGCatalog_lawful.nix hc kk
 clear hc
 have ld0:=Whole.run (P:=Tryz.prog) S_Catalog hlc row0
 go_enter Tryz.func65,Tryz.ntmps65
 go_wp2_with fail
 clear ld0
 go_fit (jhm c _ _ gc hs)
 rintro e w1 ⟨csO,rfl,hOwn,k1⟩
 (try replace row0:=row0.keep k1 id)
 (try replace rowR:=rowR.keep k1 id)
 (try replace rowO:=rowO.keep k1 id)
 (try replace gc:=rGCatalog_lawful.nix gc k1)
 (try replace hO:=rGCatalog_lawful.nix hO k1)
 (try replace ownT:=jad ownT k1 (fun _ _ h=>h))
 (try replace ownX:=jad ownX k1 (fun _ _ h=>h))
 (try replace elsT:=elsT.keep fGTable_lawful k1 (fun _ _ h=>h))
 (try replace elsX:=elsX.keep fGIndex_lawful k1 (fun _ _ h=>h))
 replace kk:=kk.trans k1
 clear k1
 have hO:=hOwn.read hcv hcn nT nX
 obtain⟨aO,cO,aP,cP,cssT,cssX,m,rfl,hbm,hmw,ownT,hTlt,elsT,ownX,elsX⟩:=hOwn
 have hs1:w.heap.size+1+1+1+1+1≤m:=by simp at hbm;omega
 have elsT:=elsT.mono (q:=fun b=>w.heap.size+1+1+1+1+1≤b∧b<m) fGTable_lawful (fun b hb=>⟨by have:=hb.1;simp at this;omega,hb.2.1⟩)
 have ownT:=jbY (base':=w.heap.size+1+1+1+1+1) ownT (by simp)
 have hXlt:∀b,OwnB (.slice aP c.fIndexes.length cP) b→b<w1.heap.size:=fun b hb=>(ownX.lt b hb).2
 obtain⟨hst,rowO,kV⟩:=jds (P:=Tryz.prog) (zs:=[.int .i64 0,.int .i64 0,.slice none 0 0,.slice none 0 0]) S_Catalog w1 rfl (rGCatalog_lawful.len hO) (jay hO)
 (try replace row0:=row0.keep kV id)
 (try replace rowR:=rowR.keep kV id)
 (try replace rowO:=rowO.keep kV id)
 (try replace gc:=rGCatalog_lawful.nix gc kV)
 (try replace hO:=rGCatalog_lawful.nix hO kV)
 (try replace ownT:=jad ownT kV (fun _ _ h=>h))
 (try replace ownX:=jad ownX kV (fun _ _ h=>h))
 (try replace elsT:=elsT.keep fGTable_lawful kV (fun _ _ h=>h))
 (try replace elsX:=elsX.keep fGIndex_lawful kV (fun _ _ h=>h))
 replace kk:=kk.trans kV
 clear kV gc
 have ldO:=Whole.run (P:=Tryz.prog) S_Catalog rfl rowO
 have HF:=Lib.hid (jm2 c _ nm _ hO)
 clear hO
 go_wp2_with fail
 clear ldO hst
 go_fit HF.out
 rintro e w2 ⟨rfl,k2⟩
 (try replace row0:=row0.keep k2 id)
 (try replace rowR:=rowR.keep k2 id)
 (try replace rowO:=rowO.keep k2 id)
 (try replace gc:=rGCatalog_lawful.nix gc k2)
 (try replace hO:=rGCatalog_lawful.nix hO k2)
 (try replace ownT:=jad ownT k2 (fun _ _ h=>h))
 (try replace ownX:=jad ownX k2 (fun _ _ h=>h))
 (try replace elsT:=elsT.keep fGTable_lawful k2 (fun _ _ h=>h))
 (try replace elsX:=elsX.keep fGIndex_lawful k2 (fun _ _ h=>h))
 replace kk:=kk.trans k2
 clear k2 HF
 have hO1:=rowO.lt
 rcases jb6 (fun x:GIndex=>decide (x.fName=nm)) c.fIndexes with⟨h1,-⟩ | ⟨k,hk,h1,-,-⟩
 focus
  rw[h1]
  have HR:Hid (jbU c nm=(c,5)):=by show _=_;unfold jbU;rw[h1,jel]
  clear h1
  refine ?h1a
 rotate_left
 focus
  rw[h1]
  have HR1:Hid (jbU c nm=jdD c k c.fIndexes[k]):=by show _=_;unfold jbU;rw[h1,jek hk]
  clear h1
  have hkX:k<cssX.length:=by rw[elsX.1];exact hk
  have fx:=elsX.2 k _ _ (List.getElem?_eq_getElem hkX) (List.getElem?_eq_getElem hk)
  obtain⟨x,hx⟩:∃x,Hid (c.fIndexes[k]=x):=⟨c.fIndexes[k],Lib.hid rfl⟩
  rw[hx.out]at fx HR1
  obtain⟨aI,cI,hcs,-,-,e5,-⟩:=jeQ fx
  obtain⟨bX,rest,rfl,hbX,rowP,hlP,hxl,hnc,hcm⟩:=jjW ownX (by omega)
  have hl7:=elsX.lens fGIndex_lawful
  have hb1:=hXlt bX rfl
  have y5:=jep rowP hl7 hkX (j:=5) (u:=.int .i64 x.fState) (by rw[hcs];rfl)
  have f5:=rowP.frozen (k*7+5)
  have hi0:(0:Int)≤(k:Int):=by omega
  have hi1:(k:Int)<(c.fIndexes.length:Int):=by omega
  have mX:c.fIndexes.length≤140737488351232:=by have:=hs.2.2.2;omega
  have i2:IntKind.i64.wrap (c.fVersion+1)=c.fVersion+1:=by have:=hcv.1;rw[IntKind.wrap_i64];omega
  have hcv2:jae (c.fVersion+1):=⟨by have:=hcv.1;omega,by omega⟩
  have x3:=rowO.cell 3
  (try simp only[List.getElem?_cons_succ]at x3);(try simp only[List.getElem?_cons_zero]at x3)
  have EH:=Lib.hid hcs
  clear hcs
  rcases jbH x.fState 4 with⟨t4,hT4⟩ | ⟨t4,hT4⟩
  focus
   have HR:Hid (jbU c nm=(jcx c k {x with fState:=5},0)):=by show _=_;rw[HR1.out];unfold jdD;rw[if_pos hT4.out]
   clear HR1 hT4
   have kA:Keep (·=bX) w2 (w2.setCell ⟨bX,k*7+5,none⟩ (.int .i64 5)):=(Keep.refl (·=bX) w2).setCell (p:=⟨bX,k*7+5,none⟩) (fun _=>rfl) _
   obtain⟨rowP2,hlP2,hxl2⟩:=jfL rowP hl7 hkX (j:=5) (by decide) (.int .i64 5)
   have fx2:=jcB fx (s:=5) ⟨by decide,by decide⟩
   have ownX2:=jd9 rowP2 hbX (hlP2.trans hlP) (hxl2.trans hxl) hnc hcm
   have elsX2:=(elsX.set (i:=k) fx2).keep fGIndex_lawful kA (fun b hb e=>hb.2.2 (by rw[e];rfl))
   have rowO2:=rowO.keep kA (by omega)
   have rowR2:=rowR.keep kA (by omega)
   have ownT2:=jad ownT kA (fun b hb e=>by have:=hTlt b hb;omega)
   have elsT2:=elsT.keep fGTable_lawful kA (fun b hb e=>by have:=hb.2;omega)
   have kk2:=kk.then kA (fun i hi e=>by omega)
   have x0:=rowO2.cell 0
   (try simp only[List.getElem?_cons_succ]at x0);(try simp only[List.getElem?_cons_zero]at x0)
   have f0:=rowO2.frozen 0
   have rowO3:=rowO2.set 0 (.int .i64 (c.fVersion+1))
   simp only[List.set_cons_zero]at rowO3
   have kB:Keep (·=w1.heap.size) (w2.setCell ⟨bX,k*7+5,none⟩ (.int .i64 5)) ((w2.setCell ⟨bX,k*7+5,none⟩ (.int .i64 5)).setCell ⟨w1.heap.size,0,none⟩ (.int .i64 (c.fVersion+1))):=(Keep.refl (·=w1.heap.size) _).setCell (p:=⟨w1.heap.size,0,none⟩) (fun _=>rfl) _
   obtain⟨hstR,rowF,HRES,HKF⟩:=jdw (w:=w) (c:=c) (d:=jcx c k {x with fState:=5}) (ver:=c.fVersion+1) (nx:=c.fNext) (nX:=c.fIndexes.length) rfl rfl (List.length_set ..) (rowR2.keep kB (by omega)) rfl (by omega) (by omega) (by omega) hcv2 hcn rfl hs.2.2.1 (by show(c.fIndexes.set k _).length≤_;rw[List.length_set];have:=hs.2.2.2;omega)
    (jad ownT2 kB (fun b hb e=>by have:=hTlt b hb;omega)) (jad ownX2 kB (fun b hb e=>by have:=hXlt b hb;omega)) (elsT2.keep fGTable_lawful kB (fun b hb e=>by have:=hb.2;omega)) (elsX2.keep fGIndex_lawful kB (fun b hb e=>by have:=hb.2.1;omega))
    (fun b hb=>⟨by have:=hb.1;omega,by have:=hb.2;have:=kA.size;have:=kB.size;omega⟩) (fun b hb=>⟨by have:=hb.1;omega,by have:=hb.2.1;have:=kA.size;have:=kB.size;omega⟩) (kk2.then kB (fun i hi e=>by omega))
   refine ?h2a
  rotate_left
  focus
   rcases Int.lt_or_le x.fState 1 with s1 | s1
   focus
    have HR:Hid (jbU c nm=(c,7)):=by show _=_;rw[HR1.out];unfold jdD;rw[if_neg hT4,if_neg (by omega)]
    clear HR1 hT4
    refine ?h1b
   rotate_left
   focus
    rcases Int.lt_or_le x.fState 4 with s2 | s2
    focus
     have HR:Hid (jbU c nm=(jcx c k {x with fState:=6},0)):=by show _=_;rw[HR1.out];unfold jdD;rw[if_neg hT4,if_pos ⟨s1,s2⟩]
     clear HR1 hT4
     have kA:Keep (·=bX) w2 (w2.setCell ⟨bX,k*7+5,none⟩ (.int .i64 6)):=(Keep.refl (·=bX) w2).setCell (p:=⟨bX,k*7+5,none⟩) (fun _=>rfl) _
     obtain⟨rowP2,hlP2,hxl2⟩:=jfL rowP hl7 hkX (j:=5) (by decide) (.int .i64 6)
     have fx2:=jcB fx (s:=6) ⟨by decide,by decide⟩
     have ownX2:=jd9 rowP2 hbX (hlP2.trans hlP) (hxl2.trans hxl) hnc hcm
     have elsX2:=(elsX.set (i:=k) fx2).keep fGIndex_lawful kA (fun b hb e=>hb.2.2 (by rw[e];rfl))
     have rowO2:=rowO.keep kA (by omega)
     have rowR2:=rowR.keep kA (by omega)
     have ownT2:=jad ownT kA (fun b hb e=>by have:=hTlt b hb;omega)
     have elsT2:=elsT.keep fGTable_lawful kA (fun b hb e=>by have:=hb.2;omega)
     have kk2:=kk.then kA (fun i hi e=>by omega)
     have x0:=rowO2.cell 0
     (try simp only[List.getElem?_cons_succ]at x0);(try simp only[List.getElem?_cons_zero]at x0)
     have f0:=rowO2.frozen 0
     have rowO3:=rowO2.set 0 (.int .i64 (c.fVersion+1))
     simp only[List.set_cons_zero]at rowO3
     have kB:Keep (·=w1.heap.size) (w2.setCell ⟨bX,k*7+5,none⟩ (.int .i64 6)) ((w2.setCell ⟨bX,k*7+5,none⟩ (.int .i64 6)).setCell ⟨w1.heap.size,0,none⟩ (.int .i64 (c.fVersion+1))):=(Keep.refl (·=w1.heap.size) _).setCell (p:=⟨w1.heap.size,0,none⟩) (fun _=>rfl) _
     obtain⟨hstR,rowF,HRES,HKF⟩:=jdw (w:=w) (c:=c) (d:=jcx c k {x with fState:=6}) (ver:=c.fVersion+1) (nx:=c.fNext) (nX:=c.fIndexes.length) rfl rfl (List.length_set ..) (rowR2.keep kB (by omega)) rfl (by omega) (by omega) (by omega) hcv2 hcn rfl hs.2.2.1 (by show(c.fIndexes.set k _).length≤_;rw[List.length_set];have:=hs.2.2.2;omega)
      (jad ownT2 kB (fun b hb e=>by have:=hTlt b hb;omega)) (jad ownX2 kB (fun b hb e=>by have:=hXlt b hb;omega)) (elsT2.keep fGTable_lawful kB (fun b hb e=>by have:=hb.2;omega)) (elsX2.keep fGIndex_lawful kB (fun b hb e=>by have:=hb.2.1;omega))
      (fun b hb=>⟨by have:=hb.1;omega,by have:=hb.2;have:=kA.size;have:=kB.size;omega⟩) (fun b hb=>⟨by have:=hb.1;omega,by have:=hb.2.1;have:=kA.size;have:=kB.size;omega⟩) (kk2.then kB (fun i hi e=>by omega))
     refine ?h2b
    rotate_left
    focus
     have HR:Hid (jbU c nm=(c,7)):=by show _=_;rw[HR1.out];unfold jdD;rw[if_neg hT4,if_neg (by omega)]
     clear HR1 hT4
     refine ?h1c
    rotate_left
   rotate_left 2
  rotate_left 3
 rotate_left 4
 case h1a | h1b | h1c=>
  obtain⟨hstR,rowF,HRES,HKF⟩:=jdw (w:=w) (d:=c) rfl rfl rfl rowR rfl (by omega) (by omega) (by omega) hcv hcn rfl hs.2.2.1 (by have:=hs.2.2.2;omega) ownT ownX elsT elsX (fun b hb=>⟨by have:=hb.1;omega,by have:=hb.2;omega⟩) (fun b hb=>⟨by have:=hb.1;omega,by have:=hb.2.1;omega⟩) kk
  have ldO:=Whole.run (P:=Tryz.prog) S_Catalog rfl rowO
  go_wp2_with fail
  refine bodyPost_ret (jag (by rfl) _ _ _ _ _ _ _ (by rfl) rowF Tryz.underlying50 (by rfl) (by exact S_Catalog.info)) rfl ?_
  rw[HR.out]
  exact⟨_,rfl,HRES.out,jay HRES.out,HKF.out⟩
 case h2a | h2b=>
  have ldO:=Whole.run (P:=Tryz.prog) S_Catalog rfl rowO3
  clear kA rowP rowP2 fx2 fx ownX2 elsX2 rowO2 rowR2 ownT2 elsT2 kk2 rowO3 kB ownT ownX elsT elsX hlP hlP2 hxl hxl2
  go_wp2_with fail
  refine bodyPost_ret (jag (by rfl) _ _ _ _ _ _ _ (by rfl) rowF Tryz.underlying50 (by rfl) (by exact S_Catalog.info)) rfl ?_
  rw[HR.out]
  exact⟨_,rfl,HRES.out,jay HRES.out,HKF.out⟩
end
end
section
def jcX(frm tq:Int)(bad:Bool)(c:GCatalog)(k:Nat)(x:GIndex):GCatalog×Int:=
 if x.fState≠frm∨(¬(tq=jcv x.fState∧tq≠frm)∧¬(bad=true∧frm=3∧tq=6)) then(c,7)
 else(if tq=0 then jdt c k else jcx c k {x with fState:=tq,fBad:=bad || x.fBad},0)
def jaS(c:GCatalog)(d frm tq:Int)(bad:Bool):GCatalog×Int:=atI (jbo (fun x=>decide (x.fID=d)) c.fIndexes) c.fIndexes (c,5) (jcX frm tq bad c)
theorem jns{c:GCatalog}{k:Nat}{x:GIndex}{frm tq:Int}{bad:Bool}(h:x.fState≠frm∨(¬(tq=jcv x.fState∧tq≠frm)∧¬(bad=true∧frm=3∧tq=6))):jcX frm tq bad c k x=(c,7):=by unfold jcX;rw[if_pos h]
theorem jhM{c:GCatalog}{k:Nat}{x:GIndex}{frm tq:Int}{bad:Bool}(h1:x.fState=frm)(h:(tq=jcv x.fState∧tq≠frm)∨(bad=true∧frm=3∧tq=6))(h0:tq≠0):jcX frm tq bad c k x=(jcx c k {x with fState:=tq,fBad:=bad || x.fBad},0):=by
 unfold jcX;rw[if_neg (fun e=>e.elim (fun e=>e h1) (fun e=>h.elim e.1 e.2)),if_neg h0]
theorem jhL{c:GCatalog}{k:Nat}{x:GIndex}{frm tq:Int}{bad:Bool}(h1:x.fState=frm)(h:(tq=jcv x.fState∧tq≠frm)∨(bad=true∧frm=3∧tq=6))(h0:tq=0):jcX frm tq bad c k x=(jdt c k,0):=by
 unfold jcX;rw[if_neg (fun e=>e.elim (fun e=>e h1) (fun e=>h.elim e.1 e.2)),if_pos h0]
theorem jpb{w:World}{p:Nat→Prop}{v n:Int}{aT aX:Option Addr}{nT cT nX cX:Nat}{c:GCatalog}(h:jat w p [.int .i64 v,.int .i64 n,.slice aT nT cT,.slice aX nX cX] c):jap jaZ w p [.slice aX nX cX] c.fIndexes:=by
 obtain⟨_,_,_,_,e,-,-,-,h,-⟩:=jau h
 simp only[List.cons.injEq,Value.slice.injEq,and_true]at e
 obtain⟨-,-,-,rfl,rfl,rfl⟩:=e
 exact h
theorem jfK{w:World}{b e sz:Nat}{css:List (List Value)}{rest:List Value}(h:RowIs w b e (css.flatten ++ rest))(hl:∀c∈css,c.length=sz){i j j2:Nat}(hi:i<css.length)(hj:j<sz)(hj2:j2<sz)(v v2:Value) :
  RowIs ((w.setCell ⟨b,i*sz+j,none⟩ v).setCell ⟨b,i*sz+j2,none⟩ v2) b e ((css.set i ((css[i].set j v).set j2 v2)).flatten ++ rest)∧((css.set i ((css[i].set j v).set j2 v2)).flatten ++ rest).length=(css.flatten ++ rest).length∧(css.set i ((css[i].set j v).set j2 v2)).flatten.length=css.flatten.length:=by
 obtain⟨h1,h2,h3⟩:=jfL h hl hi hj v
 have hi':i<(css.set i (css[i].set j v)).length:=by rw[List.length_set];exact hi
 have hl':∀c∈css.set i (css[i].set j v),c.length=sz:=fun c hc=>by
  rcases List.mem_or_eq_of_mem_set hc with hc | rfl
  ·exact hl c hc
  ·rw[List.length_set];exact hl _ (List.getElem_mem hi)
 obtain⟨g1,g2,g3⟩:=jfL h1 hl' hi' hj2 v2
 rw[List.getElem_set_self,List.set_set]at g1 g2 g3
 exact⟨g1,g2.trans h2,g3.trans h3⟩
theorem jjF{sz n k:Nat}{css:List (List Value)}{rest:List Value}(hl:∀c∈css,c.length=sz)(hf:css.flatten.length=n*sz)(hk:k<css.length)(hn:k<n) :
  (css.flatten ++ rest).take (k*sz) ++ ((css.flatten ++ rest).drop ((k+1)*sz)).take ((n - 1 - k)*sz)=(css.eraseIdx k).flatten:=by
 have h1:k*sz≤n*sz:=Nat.mul_le_mul_right _ (by omega)
 have h2:(k+1)*sz≤n*sz:=Nat.mul_le_mul_right _ (by omega)
 have h3:n*sz=(k+1)*sz+(n - 1 - k)*sz:=by rw[←Nat.add_mul];congr 1;omega
 rw[jht css hl k hk,List.take_append_of_le_length (by omega),List.drop_append_of_le_length (by omega)]
 congr 1
 exact List.take_left' (by rw[List.length_drop,hf];omega)
theorem jbK{c:GCatalog}{k:Nat}{x:GIndex}{frm tq:Int}{bad v1 v2 v4 v5 v6:Bool}(A1:v1=true↔tq=jcv x.fState)(A2:v2=true↔tq=frm)(A4:v4=true↔frm=3)(A5:v5=true↔tq=6)(A6:v6=true↔x.fState=frm)(h:(!v6 || (!(v1 && !v2) && !(bad && v4 && v5)))=true):jcX frm tq bad c k x=(c,7):=by
 refine jns ?_
 simp only[ne_eq]
 rw[←A1,←A2,←A4,←A5,←A6]
 revert h
 cases v1 <;> cases v2 <;> cases v4 <;> cases v5 <;> cases v6 <;> cases bad <;> decide
theorem jkm{x:GIndex}{frm tq:Int}{bad v1 v2 v4 v5 v6:Bool}(A1:v1=true↔tq=jcv x.fState)(A2:v2=true↔tq=frm)(A4:v4=true↔frm=3)(A5:v5=true↔tq=6)(A6:v6=true↔x.fState=frm)(h:(v6 && ((v1 && !v2) || (bad && v4 && v5)))=true):x.fState=frm∧((tq=jcv x.fState∧tq≠frm)∨(bad=true∧frm=3∧tq=6)):=by
 simp only[ne_eq]
 rw[←A1,←A2,←A4,←A5,←A6]
 revert h
 cases v1 <;> cases v2 <;> cases v4 <;> cases v5 <;> cases v6 <;> cases bad <;> decide
section
attribute [local go_sem ↓] jbB jcp jc0 jdc
theorem jpC{p:Nat→Prop}(c:GCatalog)(csc:List Value)(d frm tq:Int)(bad:Bool)(w:World)(hc:jat w p csc c)(hs:jb4 c)(hv:c.fVersion≤4611686018427387904)(hto:jae tq) :
  Calls Tryz.prog 66 #[.agg csc.toArray,.int .i64 d,.int .i64 frm,.int .i64 tq,.bool bad] w (Took jat w (jaS c d frm tq bad)):=by
 obtain⟨hlc,hcv,hcn,nT,nX⟩:=jgb hc
 have row0:RowIs (((w.alloc (.cells csc.toArray 50)).alloc (.cells #[.int .i64 d] 3)).alloc (.cells #[.int .i64 0,.int .i64 0,.slice none 0 0,.slice none 0 0] 50)) w.heap.size 50 csc:=by have:=((RowIs.alloc w csc.toArray 50).keep ((Keep.refl Nix _).alloc (.cells #[.int .i64 d] 3)) id).keep ((Keep.refl Nix _).alloc (.cells #[.int .i64 0,.int .i64 0,.slice none 0 0,.slice none 0 0] 50)) id;simpa using this
 have rowN:RowIs (((w.alloc (.cells csc.toArray 50)).alloc (.cells #[.int .i64 d] 3)).alloc (.cells #[.int .i64 0,.int .i64 0,.slice none 0 0,.slice none 0 0] 50)) (w.heap.size+1) 3 [.int .i64 d]:=(RowIs.alloc_at (w.alloc (.cells csc.toArray 50)) _ (by simp) #[.int .i64 d] 3).keep ((Keep.refl Nix _).alloc _) id
 have rowR:RowIs (((w.alloc (.cells csc.toArray 50)).alloc (.cells #[.int .i64 d] 3)).alloc (.cells #[.int .i64 0,.int .i64 0,.slice none 0 0,.slice none 0 0] 50)) (w.heap.size+1+1) 50 [.int .i64 0,.int .i64 0,.slice none 0 0,.slice none 0 0]:=RowIs.alloc_at ((w.alloc (.cells csc.toArray 50)).alloc (.cells #[.int .i64 d] 3)) _ (by simp) #[.int .i64 0,.int .i64 0,.slice none 0 0,.slice none 0 0] 50
 have kk:Keep Nix w (((w.alloc (.cells csc.toArray 50)).alloc (.cells #[.int .i64 d] 3)).alloc (.cells #[.int .i64 0,.int .i64 0,.slice none 0 0,.slice none 0 0] 50)):=(((Keep.refl Nix w).alloc _).alloc _).alloc _
 have gc:=rGCatalog_lawful.nix hc kk
 clear hc
 have ld0:=Whole.run (P:=Tryz.prog) S_Catalog hlc row0
 go_enter Tryz.func66,Tryz.ntmps66
 go_wp2_with fail
 clear ld0
 go_fit (jhm c _ _ gc hs)
 rintro e w1 ⟨csO,rfl,hOwn,k1⟩
 (try replace row0:=row0.keep k1 id)
 (try replace rowR:=rowR.keep k1 id)
 (try replace rowO:=rowO.keep k1 id)
 (try replace rowN:=rowN.keep k1 id)
 (try replace gc:=rGCatalog_lawful.nix gc k1)
 (try replace hO:=rGCatalog_lawful.nix hO k1)
 (try replace ownT:=jad ownT k1 (fun _ _ h=>h))
 (try replace ownX:=jad ownX k1 (fun _ _ h=>h))
 (try replace elsT:=elsT.keep fGTable_lawful k1 (fun _ _ h=>h))
 (try replace elsX:=elsX.keep fGIndex_lawful k1 (fun _ _ h=>h))
 replace kk:=kk.trans k1
 clear k1
 have hO:=hOwn.read hcv hcn nT nX
 obtain⟨aO,cO,aP,cP,cssT,cssX,m,rfl,hbm,hmw,ownT,hTlt,elsT,ownX,elsX⟩:=hOwn
 have hs1:w.heap.size+1+1+1+1+1+1≤m:=by simp at hbm;omega
 have elsT:=elsT.mono (q:=fun b=>w.heap.size+1+1+1+1+1+1≤b∧b<m) fGTable_lawful (fun b hb=>⟨by have:=hb.1;simp at this;omega,hb.2.1⟩)
 have ownT:=jbY (base':=w.heap.size+1+1+1+1+1+1) ownT (by simp)
 have hXlt:∀b,OwnB (.slice aP c.fIndexes.length cP) b→b<w1.heap.size:=fun b hb=>(ownX.lt b hb).2
 obtain⟨hst,rowO,kV⟩:=jds (P:=Tryz.prog) (zs:=[.int .i64 0,.int .i64 0,.slice none 0 0,.slice none 0 0]) S_Catalog w1 rfl (rGCatalog_lawful.len hO) (jay hO)
 (try replace row0:=row0.keep kV id)
 (try replace rowR:=rowR.keep kV id)
 (try replace rowO:=rowO.keep kV id)
 (try replace rowN:=rowN.keep kV id)
 (try replace gc:=rGCatalog_lawful.nix gc kV)
 (try replace hO:=rGCatalog_lawful.nix hO kV)
 (try replace ownT:=jad ownT kV (fun _ _ h=>h))
 (try replace ownX:=jad ownX kV (fun _ _ h=>h))
 (try replace elsT:=elsT.keep fGTable_lawful kV (fun _ _ h=>h))
 (try replace elsX:=elsX.keep fGIndex_lawful kV (fun _ _ h=>h))
 replace kk:=kk.trans kV
 clear kV gc
 have hOX:=jpb hO
 have HF:=Lib.hid (jgc aP c.fIndexes.length cP c.fIndexes 110 (.pointer (some ⟨w.heap.size+1,0,none⟩)) (fun x=>decide (x.fID=d)) _
  hOX Tryz.call110 (fun w' z cs' k' _ hz=>jpo z cs' (w.heap.size+1) d w' hz (Nat.lt_of_lt_of_le rowN.lt k'.size) ((rowN.keep k' id).cell 0)))
 clear hO hOX
 have x3:=rowO.cell 3
 (try simp only[List.getElem?_cons_succ]at x3);(try simp only[List.getElem?_cons_zero]at x3)
 go_wp2_with fail
 clear x3 hst
 go_fit HF.out
 rintro e w2 ⟨rfl,k2⟩
 (try replace row0:=row0.keep k2 id)
 (try replace rowR:=rowR.keep k2 id)
 (try replace rowO:=rowO.keep k2 id)
 (try replace rowN:=rowN.keep k2 id)
 (try replace gc:=rGCatalog_lawful.nix gc k2)
 (try replace hO:=rGCatalog_lawful.nix hO k2)
 (try replace ownT:=jad ownT k2 (fun _ _ h=>h))
 (try replace ownX:=jad ownX k2 (fun _ _ h=>h))
 (try replace elsT:=elsT.keep fGTable_lawful k2 (fun _ _ h=>h))
 (try replace elsX:=elsX.keep fGIndex_lawful k2 (fun _ _ h=>h))
 replace kk:=kk.trans k2
 clear k2 HF rowN
 have hO1:=rowO.lt
 rcases jb6 (fun x:GIndex=>decide (x.fID=d)) c.fIndexes with⟨h1,-⟩ | ⟨k,hk,h1,-,-⟩
 ·rw[h1]
  have HR:Hid (jaS c d frm tq bad=(c,5)):=by show _=_;unfold jaS;rw[h1,jel]
  clear h1
  obtain⟨hstR,rowF,HRES,HKF⟩:=jdw (w:=w) (d:=c) rfl rfl rfl rowR rfl (by omega) (by omega) (by omega) hcv hcn rfl hs.2.2.1 (by have:=hs.2.2.2;omega) ownT ownX elsT elsX (fun b hb=>⟨by have:=hb.1;omega,by have:=hb.2;omega⟩) (fun b hb=>⟨by have:=hb.1;omega,by have:=hb.2.1;omega⟩) kk
  have ldO:=Whole.run (P:=Tryz.prog) S_Catalog rfl rowO
  go_wp2_with fail
  refine bodyPost_ret (jag (by rfl) _ _ _ _ _ _ _ (by rfl) rowF Tryz.underlying50 (by rfl) (by exact S_Catalog.info)) rfl ?_
  rw[HR.out]
  exact⟨_,rfl,HRES.out,jay HRES.out,HKF.out⟩
 rw[h1]
 have HR1:Hid (jaS c d frm tq bad=jcX frm tq bad c k c.fIndexes[k]):=by show _=_;unfold jaS;rw[h1,jek hk]
 clear h1
 have hkX:k<cssX.length:=by rw[elsX.1];exact hk
 have fx:=elsX.2 k _ _ (List.getElem?_eq_getElem hkX) (List.getElem?_eq_getElem hk)
 obtain⟨x,hx⟩:∃x,Hid (c.fIndexes[k]=x):=⟨c.fIndexes[k],Lib.hid rfl⟩
 rw[hx.out]at fx HR1
 obtain⟨aI,cI,hcs,-,-,e5,-⟩:=jeQ fx
 obtain⟨bX,rest,rfl,hbX,rowP,hlP,hxl,hnc,hcm⟩:=jjW ownX (by omega)
 have hl7:=elsX.lens fGIndex_lawful
 have hb1:=hXlt bX rfl
 have y5:=jep rowP hl7 hkX (j:=5) (u:=.int .i64 x.fState) (by rw[hcs];rfl)
 have y6:=jep rowP hl7 hkX (j:=6) (u:=.bool x.fBad) (by rw[hcs];rfl)
 have f5:=rowP.frozen (k*7+5)
 have f6:=rowP.frozen (k*7+6)
 have hi0:(0:Int)≤(k:Int):=by omega
 have hi1:(k:Int)<(c.fIndexes.length:Int):=by omega
 have mX:c.fIndexes.length≤140737488351232:=by have:=hs.2.2.2;omega
 have i2:IntKind.i64.wrap (c.fVersion+1)=c.fVersion+1:=by have:=hcv.1;rw[IntKind.wrap_i64];omega
 have hcv2:jae (c.fVersion+1):=⟨by have:=hcv.1;omega,by omega⟩
 have x3:=rowO.cell 3
 (try simp only[List.getElem?_cons_succ]at x3);(try simp only[List.getElem?_cons_zero]at x3)
 have ldX:=Whole.at (P:=Tryz.prog) (w:=w2) (b:=bX) (o:=k*7) (cs:=cssX[k]) S_Index (fGIndex_lawful.len fx) (fun j u hu=>jep rowP hl7 hkX hu)
 unfold Whole at ldX
 have HN:=Lib.hid (jpB x cssX[k] w2 (jde fx))
 have EH:=Lib.hid hcs
 clear hcs y5 y6 f5 f6
 go_wp2_with fail
 clear ldX x3
 go_fit HN.out
 rintro e w3 ⟨rfl,k3⟩
 (try replace row0:=row0.keep k3 id)
 (try replace rowR:=rowR.keep k3 id)
 (try replace rowO:=rowO.keep k3 id)
 (try replace rowN:=rowN.keep k3 id)
 (try replace gc:=rGCatalog_lawful.nix gc k3)
 (try replace hO:=rGCatalog_lawful.nix hO k3)
 (try replace ownT:=jad ownT k3 (fun _ _ h=>h))
 (try replace ownX:=jad ownX k3 (fun _ _ h=>h))
 (try replace elsT:=elsT.keep fGTable_lawful k3 (fun _ _ h=>h))
 (try replace elsX:=elsX.keep fGIndex_lawful k3 (fun _ _ h=>h))
 replace kk:=kk.trans k3
 replace rowP:=rowP.keep k3 id
 replace fx:=fGIndex_lawful.nix fx k3
 have hs3:=k3.size
 clear k3 HN
 have y5:=jep rowP hl7 hkX (j:=5) (u:=.int .i64 x.fState) (by rw[EH.out];rfl)
 have y6:=jep rowP hl7 hkX (j:=6) (u:=.bool x.fBad) (by rw[EH.out];rfl)
 have f5:=rowP.frozen (k*7+5)
 have f6:=rowP.frozen (k*7+6)
 have z6:(w3.setCell ⟨bX,k*7+5,none⟩ (.int .i64 tq)).cell? ⟨bX,k*7+6,none⟩=some (.bool x.fBad):=(World.cell?_setCell_other _ _ _ _ (by simp)).trans y6
 obtain⟨v1,a1,A1⟩:∃v,(tq == jcv x.fState)=v∧Hid (v=true↔tq=jcv x.fState):=⟨_,rfl,Lib.hid (by simp)⟩
 obtain⟨v2,a2,A2⟩:∃v,(tq != frm)=!v∧Hid (v=true↔tq=frm):=⟨tq == frm,rfl,Lib.hid (by simp)⟩
 obtain⟨v4,a4,A4⟩:∃v,(frm == 3)=v∧Hid (v=true↔frm=3):=⟨_,rfl,Lib.hid (by simp)⟩
 obtain⟨v5,a5,A5⟩:∃v,(tq == 6)=v∧Hid (v=true↔tq=6):=⟨_,rfl,Lib.hid (by simp)⟩
 obtain⟨v6,a6,A6⟩:∃v,(x.fState != frm)=!v∧Hid (v=true↔x.fState=frm):=⟨x.fState == frm,rfl,Lib.hid (by simp)⟩
 cases v6
 focus
  cases v1
  focus
   cases bad
   focus
    have HR:Hid (jaS c d frm tq false=(c,7)):=by show _=_;rw[HR1.out];exact jbK A1.out A2.out A4.out A5.out A6.out rfl
    refine ?h2a
   rotate_left
   focus
    cases v4
    focus
     have HR:Hid (jaS c d frm tq true=(c,7)):=by show _=_;rw[HR1.out];exact jbK A1.out A2.out A4.out A5.out A6.out rfl
     refine ?h2b
    rotate_left
    focus
     cases v5
     focus
      have HR:Hid (jaS c d frm tq true=(c,7)):=by show _=_;rw[HR1.out];exact jbK A1.out A2.out A4.out A5.out A6.out rfl
      refine ?h2c
     rotate_left
     focus
      have HR:Hid (jaS c d frm tq true=(c,7)):=by show _=_;rw[HR1.out];exact jbK A1.out A2.out A4.out A5.out A6.out rfl
      refine ?h2d
     rotate_left
    rotate_left 2
   rotate_left 3
  rotate_left 4
  focus
   cases v2
   focus
    cases bad
    focus
     have HR:Hid (jaS c d frm tq false=(c,7)):=by show _=_;rw[HR1.out];exact jbK A1.out A2.out A4.out A5.out A6.out rfl
     refine ?h2e
    rotate_left
    focus
     cases v4
     focus
      have HR:Hid (jaS c d frm tq true=(c,7)):=by show _=_;rw[HR1.out];exact jbK A1.out A2.out A4.out A5.out A6.out rfl
      refine ?h2f
     rotate_left
     focus
      cases v5
      focus
       have HR:Hid (jaS c d frm tq true=(c,7)):=by show _=_;rw[HR1.out];exact jbK A1.out A2.out A4.out A5.out A6.out rfl
       refine ?h2g
      rotate_left
      focus
       have HR:Hid (jaS c d frm tq true=(c,7)):=by show _=_;rw[HR1.out];exact jbK A1.out A2.out A4.out A5.out A6.out rfl
       refine ?h2h
      rotate_left
     rotate_left 2
    rotate_left 3
   rotate_left 4
   focus
    cases bad
    focus
     have HR:Hid (jaS c d frm tq false=(c,7)):=by show _=_;rw[HR1.out];exact jbK A1.out A2.out A4.out A5.out A6.out rfl
     refine ?h2i
    rotate_left
    focus
     cases v4
     focus
      have HR:Hid (jaS c d frm tq true=(c,7)):=by show _=_;rw[HR1.out];exact jbK A1.out A2.out A4.out A5.out A6.out rfl
      refine ?h2j
     rotate_left
     focus
      cases v5
      focus
       have HR:Hid (jaS c d frm tq true=(c,7)):=by show _=_;rw[HR1.out];exact jbK A1.out A2.out A4.out A5.out A6.out rfl
       refine ?h2k
      rotate_left
      focus
       have HR:Hid (jaS c d frm tq true=(c,7)):=by show _=_;rw[HR1.out];exact jbK A1.out A2.out A4.out A5.out A6.out rfl
       refine ?h2l
      rotate_left
     rotate_left 2
    rotate_left 3
   rotate_left 4
  rotate_left 8
 rotate_left 12
 focus
  cases v1
  focus
   cases bad
   focus
    have HR:Hid (jaS c d frm tq false=(c,7)):=by show _=_;rw[HR1.out];exact jbK A1.out A2.out A4.out A5.out A6.out rfl
    refine ?h2m
   rotate_left
   focus
    cases v4
    focus
     have HR:Hid (jaS c d frm tq true=(c,7)):=by show _=_;rw[HR1.out];exact jbK A1.out A2.out A4.out A5.out A6.out rfl
     refine ?h2n
    rotate_left
    focus
     cases v5
     focus
      have HR:Hid (jaS c d frm tq true=(c,7)):=by show _=_;rw[HR1.out];exact jbK A1.out A2.out A4.out A5.out A6.out rfl
      refine ?h2o
     rotate_left
     refine ?h1a
     rotate_left
    rotate_left 2
   rotate_left 3
  rotate_left 4
  focus
   cases v2
   focus
    cases bad
    ·obtain⟨g1,g2⟩:=jkm (bad:=false) A1.out A2.out A4.out A5.out A6.out rfl
     rcases jbH tq 0 with⟨t0,T0⟩ | ⟨t0,T0⟩
     ·have HR:Hid (jaS c d frm tq false=(jdt c k,0)):=by show _=_;rw[HR1.out];exact jhL g1 g2 T0.out
      clear g1 g2 HR1 T0
      have kA:Keep (·=bX) w3 ((w3.setCell ⟨bX,k*7+5,none⟩ (.int .i64 tq)).setCell ⟨bX,k*7+6,none⟩ (.bool x.fBad)):=((Keep.refl (·=bX) w3).setCell (p:=⟨bX,k*7+5,none⟩) (fun _=>rfl) _).setCell (p:=⟨bX,k*7+6,none⟩) (fun _=>rfl) _
      obtain⟨rowP2,hlP2,hxl2⟩:=jfK rowP hl7 hkX (j:=5) (j2:=6) (by decide) (by decide) (.int .i64 tq) (.bool x.fBad)
      have fx2:=jeu (jcB fx hto) x.fBad
      have rowO2:=rowO.keep kA (by omega)
      have rowR2:=rowR.keep kA (by omega)
      have ownT2:=jad ownT kA (fun b hb e=>by have:=hTlt b hb;omega)
      have elsT2:=elsT.keep fGTable_lawful kA (fun b hb e=>by have:=hb.2;omega)
      have kk2:=kk.then kA (fun i hi e=>by omega)
      have elsX2:=elsX.set (i:=k) fx2
      have hl72:=elsX2.lens fGIndex_lawful
      have H12:=elsX2.ones jeP
      have HD:=jjr _ bX cP c.fIndexes.length k (k+1) rfl _ rowP2 (hlP2.trans hlP) hk hnc (by unfold maxLen at hcm;exact hcm) (fun u hu=>H12 u (by rw[List.take_left' (hxl2.trans hxl)]at hu;exact hu))
      rw[show((k+1:Nat):Int)=(k:Int)+1 from by omega]at HD
      have HDD:=Lib.hid HD
      clear HD
      have x3:=rowO2.cell 3
      (try simp only[List.getElem?_cons_succ]at x3);(try simp only[List.getElem?_cons_zero]at x3)
      have HCF:=Lib.hid (jjF (rest:=rest) hl72 (hxl2.trans hxl) (by rw[List.length_set];exact hkX) hk)
      clear hl72 H12
      go_wp2_with fail
      clear x3 y5 y6 f5 f6 z6
      go_fit HDD.out
      rintro e w4 ⟨rfl,ds,rowD,hdl,hdt,k4⟩
      clear HDD
      have hd2:ds=(cssX.eraseIdx k).flatten ++ ds.drop ((c.fIndexes.length - 1)*7):=by
       have h1:=hdt.trans HCF.out
       rw[List.eraseIdx_set_eq]at h1
       rw[←h1];exact(List.take_append_drop _ _).symm
      have hxl3:(cssX.eraseIdx k).flatten.length=(c.fIndexes.length - 1)*7:=by
       have h1:=hdt.trans HCF.out
       rw[List.eraseIdx_set_eq]at h1
       rw[←h1,List.length_take,hdl,hlP2.trans hlP]
       have:(c.fIndexes.length - 1)*7≤cP*7:=by omega
       omega
      have hdl3:=hdl.trans (hlP2.trans hlP)
      have ownX3:w4.ownsRow m 41 7 (.slice (some ⟨bX,0,none⟩) (c.fIndexes.length - 1) cP) (c.fIndexes.length - 1) (cssX.eraseIdx k).flatten:=jd9 (rest:=ds.drop ((c.fIndexes.length - 1)*7)) (by rw[←hd2];exact rowD) hbX (by rw[←hd2];exact hdl3) hxl3 (by omega) hcm
      have elsX3:=((elsX.erase k).keep fGIndex_lawful kA (fun b hb e=>hb.2.2 (by rw[e];rfl))).keep fGIndex_lawful k4 (fun b hb e=>hb.2.2 (by rw[e];rfl))
      have rowO4:=rowO2.keep k4 (by omega)
      have rowR4:=rowR2.keep k4 (by omega)
      have ownT4:=jad ownT2 k4 (fun b hb e=>by have:=hTlt b hb;omega)
      have elsT4:=elsT2.keep fGTable_lawful k4 (fun b hb e=>by have:=hb.2;omega)
      have kk4:=kk2.then k4 (fun i hi e=>by omega)
      have hsz4:w3.heap.size≤w4.heap.size:=Nat.le_trans kA.size k4.size
      clear rowP rowP2 fx2 fx rowO2 rowR2 ownT2 elsT2 kk2 ownT ownX elsT elsX hlP hlP2 hxl hxl2 elsX2 rowD hdl hdt hd2 hxl3 hdl3 kA k4 HCF
      have x3:=rowO4.cell 3
      (try simp only[List.getElem?_cons_succ]at x3);(try simp only[List.getElem?_cons_zero]at x3)
      have f3:=rowO4.frozen 3
      have rowO5:=rowO4.set 3 (.slice (some ⟨bX,0,none⟩) (c.fIndexes.length - 1) cP)
      simp only[List.set_cons_succ,List.set_cons_zero]at rowO5
      have x0:=rowO5.cell 0
      (try simp only[List.getElem?_cons_succ]at x0);(try simp only[List.getElem?_cons_zero]at x0)
      have f0:=rowO5.frozen 0
      have rowO6:=rowO5.set 0 (.int .i64 (c.fVersion+1))
      simp only[List.set_cons_zero]at rowO6
      have kB:Keep (·=w1.heap.size) w4 ((w4.setCell ⟨w1.heap.size,3,none⟩ (.slice (some ⟨bX,0,none⟩) (c.fIndexes.length - 1) cP)).setCell ⟨w1.heap.size,0,none⟩ (.int .i64 (c.fVersion+1))):=((Keep.refl (·=w1.heap.size) w4).setCell (p:=⟨w1.heap.size,3,none⟩) (fun _=>rfl) _).setCell (p:=⟨w1.heap.size,0,none⟩) (fun _=>rfl) _
      have hlen:(jdt c k).fIndexes.length=c.fIndexes.length - 1:=List.length_eraseIdx_of_lt hk
      obtain⟨hstR,rowF,HRES,HKF⟩:=jdw (w:=w) (c:=c) (d:=jdt c k) (ver:=c.fVersion+1) (nx:=c.fNext) (nX:=c.fIndexes.length - 1) rfl rfl hlen (rowR4.keep kB (by omega)) rfl (by omega) (by omega) (by omega) hcv2 hcn rfl hs.2.2.1 (by rw[hlen];have:=hs.2.2.2;omega)
       (jad ownT4 kB (fun b hb e=>by have:=hTlt b hb;omega)) (jad ownX3 kB (fun b hb e=>by have:=hXlt b hb;omega)) (elsT4.keep fGTable_lawful kB (fun b hb e=>by have:=hb.2;omega)) (elsX3.keep fGIndex_lawful kB (fun b hb e=>by have:=hb.2.1;omega))
       (fun b hb=>⟨by have:=hb.1;omega,by have:=hb.2;have:=kB.size;omega⟩) (fun b hb=>⟨by have:=hb.1;omega,by have:=hb.2.1;have:=kB.size;omega⟩) (kk4.then kB (fun i hi e=>by omega))
      have ldO:=Whole.run (P:=Tryz.prog) S_Catalog rfl rowO6
      clear hlen rowO4 rowR4 ownT4 elsT4 kk4 ownX3 elsX3 rowO5 rowO6 kB
      go_wp2_with fail
      refine bodyPost_ret (jag (by rfl) _ _ _ _ _ _ _ (by rfl) rowF Tryz.underlying50 (by rfl) (by exact S_Catalog.info)) rfl ?_
      rw[HR.out]
      exact⟨_,rfl,HRES.out,jay HRES.out,HKF.out⟩
     ·have HR:Hid (jaS c d frm tq false=(jcx c k {x with fState:=tq,fBad:=x.fBad},0)):=by show _=_;rw[HR1.out];exact jhM g1 g2 T0
      clear g1 g2 HR1 T0
      have kA:Keep (·=bX) w3 ((w3.setCell ⟨bX,k*7+5,none⟩ (.int .i64 tq)).setCell ⟨bX,k*7+6,none⟩ (.bool x.fBad)):=((Keep.refl (·=bX) w3).setCell (p:=⟨bX,k*7+5,none⟩) (fun _=>rfl) _).setCell (p:=⟨bX,k*7+6,none⟩) (fun _=>rfl) _
      obtain⟨rowP2,hlP2,hxl2⟩:=jfK rowP hl7 hkX (j:=5) (j2:=6) (by decide) (by decide) (.int .i64 tq) (.bool x.fBad)
      have fx2:=jeu (jcB fx hto) x.fBad
      have rowO2:=rowO.keep kA (by omega)
      have rowR2:=rowR.keep kA (by omega)
      have ownT2:=jad ownT kA (fun b hb e=>by have:=hTlt b hb;omega)
      have elsT2:=elsT.keep fGTable_lawful kA (fun b hb e=>by have:=hb.2;omega)
      have kk2:=kk.then kA (fun i hi e=>by omega)
      have ownX2:=jd9 rowP2 hbX (hlP2.trans hlP) (hxl2.trans hxl) hnc hcm
      have elsX2:=(elsX.set (i:=k) fx2).keep fGIndex_lawful kA (fun b hb e=>hb.2.2 (by rw[e];rfl))
      have x0:=rowO2.cell 0
      (try simp only[List.getElem?_cons_succ]at x0);(try simp only[List.getElem?_cons_zero]at x0)
      have f0:=rowO2.frozen 0
      have rowO3:=rowO2.set 0 (.int .i64 (c.fVersion+1))
      simp only[List.set_cons_zero]at rowO3
      have kB:Keep (·=w1.heap.size) ((w3.setCell ⟨bX,k*7+5,none⟩ (.int .i64 tq)).setCell ⟨bX,k*7+6,none⟩ (.bool x.fBad)) (((w3.setCell ⟨bX,k*7+5,none⟩ (.int .i64 tq)).setCell ⟨bX,k*7+6,none⟩ (.bool x.fBad)).setCell ⟨w1.heap.size,0,none⟩ (.int .i64 (c.fVersion+1))):=(Keep.refl (·=w1.heap.size) _).setCell (p:=⟨w1.heap.size,0,none⟩) (fun _=>rfl) _
      obtain⟨hstR,rowF,HRES,HKF⟩:=jdw (w:=w) (c:=c) (d:=jcx c k {x with fState:=tq,fBad:=x.fBad}) (ver:=c.fVersion+1) (nx:=c.fNext) (nX:=c.fIndexes.length) rfl rfl (List.length_set ..) (rowR2.keep kB (by omega)) rfl (by omega) (by omega) (by omega) hcv2 hcn rfl hs.2.2.1 (by show(c.fIndexes.set k _).length≤_;rw[List.length_set];have:=hs.2.2.2;omega)
       (jad ownT2 kB (fun b hb e=>by have:=hTlt b hb;omega)) (jad ownX2 kB (fun b hb e=>by have:=hXlt b hb;omega)) (elsT2.keep fGTable_lawful kB (fun b hb e=>by have:=hb.2;omega)) (elsX2.keep fGIndex_lawful kB (fun b hb e=>by have:=hb.2.1;omega))
       (fun b hb=>⟨by have:=hb.1;omega,by have:=hb.2;have:=kA.size;have:=kB.size;omega⟩) (fun b hb=>⟨by have:=hb.1;omega,by have:=hb.2.1;have:=kA.size;have:=kB.size;omega⟩) (kk2.then kB (fun i hi e=>by omega))
      have ldO:=Whole.run (P:=Tryz.prog) S_Catalog rfl rowO3
      clear kA rowP rowP2 fx2 fx ownX2 elsX2 rowO2 rowR2 ownT2 elsT2 kk2 rowO3 kB ownT ownX elsT elsX hlP hlP2 hxl hxl2
      go_wp2_with fail
      refine bodyPost_ret (jag (by rfl) _ _ _ _ _ _ _ (by rfl) rowF Tryz.underlying50 (by rfl) (by exact S_Catalog.info)) rfl ?_
      rw[HR.out]
      exact⟨_,rfl,HRES.out,jay HRES.out,HKF.out⟩
    cases v4
    refine ?h1b
    rotate_left
    focus
     cases v5
     refine ?h1c
     rotate_left
     refine ?h1d
     rotate_left
    rotate_left 2
   rotate_left 3
   focus
    cases bad
    focus
     have HR:Hid (jaS c d frm tq false=(c,7)):=by show _=_;rw[HR1.out];exact jbK A1.out A2.out A4.out A5.out A6.out rfl
     refine ?h2p
    rotate_left
    focus
     cases v4
     focus
      have HR:Hid (jaS c d frm tq true=(c,7)):=by show _=_;rw[HR1.out];exact jbK A1.out A2.out A4.out A5.out A6.out rfl
      refine ?h2q
     rotate_left
     focus
      cases v5
      focus
       have HR:Hid (jaS c d frm tq true=(c,7)):=by show _=_;rw[HR1.out];exact jbK A1.out A2.out A4.out A5.out A6.out rfl
       refine ?h2r
      rotate_left
      refine ?h1e
      rotate_left
     rotate_left 2
    rotate_left 3
   rotate_left 4
  rotate_left 7
 rotate_left 11
 case h1a | h1b | h1c | h1d | h1e=>
  obtain⟨g1,g2⟩:=jkm (bad:=true) A1.out A2.out A4.out A5.out A6.out rfl
  rcases jbH tq 0 with⟨t0,T0⟩ | ⟨t0,T0⟩
  ·have HR:Hid (jaS c d frm tq true=(jdt c k,0)):=by show _=_;rw[HR1.out];exact jhL g1 g2 T0.out
   clear g1 g2 HR1 T0
   have kA:Keep (·=bX) w3 ((w3.setCell ⟨bX,k*7+5,none⟩ (.int .i64 tq)).setCell ⟨bX,k*7+6,none⟩ (.bool true)):=((Keep.refl (·=bX) w3).setCell (p:=⟨bX,k*7+5,none⟩) (fun _=>rfl) _).setCell (p:=⟨bX,k*7+6,none⟩) (fun _=>rfl) _
   obtain⟨rowP2,hlP2,hxl2⟩:=jfK rowP hl7 hkX (j:=5) (j2:=6) (by decide) (by decide) (.int .i64 tq) (.bool true)
   have fx2:=jeu (jcB fx hto) true
   have rowO2:=rowO.keep kA (by omega)
   have rowR2:=rowR.keep kA (by omega)
   have ownT2:=jad ownT kA (fun b hb e=>by have:=hTlt b hb;omega)
   have elsT2:=elsT.keep fGTable_lawful kA (fun b hb e=>by have:=hb.2;omega)
   have kk2:=kk.then kA (fun i hi e=>by omega)
   have elsX2:=elsX.set (i:=k) fx2
   have hl72:=elsX2.lens fGIndex_lawful
   have H12:=elsX2.ones jeP
   have HD:=jjr _ bX cP c.fIndexes.length k (k+1) rfl _ rowP2 (hlP2.trans hlP) hk hnc (by unfold maxLen at hcm;exact hcm) (fun u hu=>H12 u (by rw[List.take_left' (hxl2.trans hxl)]at hu;exact hu))
   rw[show((k+1:Nat):Int)=(k:Int)+1 from by omega]at HD
   have HDD:=Lib.hid HD
   clear HD
   have x3:=rowO2.cell 3
   (try simp only[List.getElem?_cons_succ]at x3);(try simp only[List.getElem?_cons_zero]at x3)
   have HCF:=Lib.hid (jjF (rest:=rest) hl72 (hxl2.trans hxl) (by rw[List.length_set];exact hkX) hk)
   clear hl72 H12
   go_wp2_with fail
   clear x3 y5 y6 f5 f6 z6
   go_fit HDD.out
   rintro e w4 ⟨rfl,ds,rowD,hdl,hdt,k4⟩
   clear HDD
   have hd2:ds=(cssX.eraseIdx k).flatten ++ ds.drop ((c.fIndexes.length - 1)*7):=by
    have h1:=hdt.trans HCF.out
    rw[List.eraseIdx_set_eq]at h1
    rw[←h1];exact(List.take_append_drop _ _).symm
   have hxl3:(cssX.eraseIdx k).flatten.length=(c.fIndexes.length - 1)*7:=by
    have h1:=hdt.trans HCF.out
    rw[List.eraseIdx_set_eq]at h1
    rw[←h1,List.length_take,hdl,hlP2.trans hlP]
    have:(c.fIndexes.length - 1)*7≤cP*7:=by omega
    omega
   have hdl3:=hdl.trans (hlP2.trans hlP)
   have ownX3:w4.ownsRow m 41 7 (.slice (some ⟨bX,0,none⟩) (c.fIndexes.length - 1) cP) (c.fIndexes.length - 1) (cssX.eraseIdx k).flatten:=jd9 (rest:=ds.drop ((c.fIndexes.length - 1)*7)) (by rw[←hd2];exact rowD) hbX (by rw[←hd2];exact hdl3) hxl3 (by omega) hcm
   have elsX3:=((elsX.erase k).keep fGIndex_lawful kA (fun b hb e=>hb.2.2 (by rw[e];rfl))).keep fGIndex_lawful k4 (fun b hb e=>hb.2.2 (by rw[e];rfl))
   have rowO4:=rowO2.keep k4 (by omega)
   have rowR4:=rowR2.keep k4 (by omega)
   have ownT4:=jad ownT2 k4 (fun b hb e=>by have:=hTlt b hb;omega)
   have elsT4:=elsT2.keep fGTable_lawful k4 (fun b hb e=>by have:=hb.2;omega)
   have kk4:=kk2.then k4 (fun i hi e=>by omega)
   have hsz4:w3.heap.size≤w4.heap.size:=Nat.le_trans kA.size k4.size
   clear rowP rowP2 fx2 fx rowO2 rowR2 ownT2 elsT2 kk2 ownT ownX elsT elsX hlP hlP2 hxl hxl2 elsX2 rowD hdl hdt hd2 hxl3 hdl3 kA k4 HCF
   have x3:=rowO4.cell 3
   (try simp only[List.getElem?_cons_succ]at x3);(try simp only[List.getElem?_cons_zero]at x3)
   have f3:=rowO4.frozen 3
   have rowO5:=rowO4.set 3 (.slice (some ⟨bX,0,none⟩) (c.fIndexes.length - 1) cP)
   simp only[List.set_cons_succ,List.set_cons_zero]at rowO5
   have x0:=rowO5.cell 0
   (try simp only[List.getElem?_cons_succ]at x0);(try simp only[List.getElem?_cons_zero]at x0)
   have f0:=rowO5.frozen 0
   have rowO6:=rowO5.set 0 (.int .i64 (c.fVersion+1))
   simp only[List.set_cons_zero]at rowO6
   have kB:Keep (·=w1.heap.size) w4 ((w4.setCell ⟨w1.heap.size,3,none⟩ (.slice (some ⟨bX,0,none⟩) (c.fIndexes.length - 1) cP)).setCell ⟨w1.heap.size,0,none⟩ (.int .i64 (c.fVersion+1))):=((Keep.refl (·=w1.heap.size) w4).setCell (p:=⟨w1.heap.size,3,none⟩) (fun _=>rfl) _).setCell (p:=⟨w1.heap.size,0,none⟩) (fun _=>rfl) _
   have hlen:(jdt c k).fIndexes.length=c.fIndexes.length - 1:=List.length_eraseIdx_of_lt hk
   obtain⟨hstR,rowF,HRES,HKF⟩:=jdw (w:=w) (c:=c) (d:=jdt c k) (ver:=c.fVersion+1) (nx:=c.fNext) (nX:=c.fIndexes.length - 1) rfl rfl hlen (rowR4.keep kB (by omega)) rfl (by omega) (by omega) (by omega) hcv2 hcn rfl hs.2.2.1 (by rw[hlen];have:=hs.2.2.2;omega)
    (jad ownT4 kB (fun b hb e=>by have:=hTlt b hb;omega)) (jad ownX3 kB (fun b hb e=>by have:=hXlt b hb;omega)) (elsT4.keep fGTable_lawful kB (fun b hb e=>by have:=hb.2;omega)) (elsX3.keep fGIndex_lawful kB (fun b hb e=>by have:=hb.2.1;omega))
    (fun b hb=>⟨by have:=hb.1;omega,by have:=hb.2;have:=kB.size;omega⟩) (fun b hb=>⟨by have:=hb.1;omega,by have:=hb.2.1;have:=kB.size;omega⟩) (kk4.then kB (fun i hi e=>by omega))
   have ldO:=Whole.run (P:=Tryz.prog) S_Catalog rfl rowO6
   clear hlen rowO4 rowR4 ownT4 elsT4 kk4 ownX3 elsX3 rowO5 rowO6 kB
   go_wp2_with fail
   refine bodyPost_ret (jag (by rfl) _ _ _ _ _ _ _ (by rfl) rowF Tryz.underlying50 (by rfl) (by exact S_Catalog.info)) rfl ?_
   rw[HR.out]
   exact⟨_,rfl,HRES.out,jay HRES.out,HKF.out⟩
  ·have HR:Hid (jaS c d frm tq true=(jcx c k {x with fState:=tq,fBad:=true},0)):=by show _=_;rw[HR1.out];exact jhM g1 g2 T0
   clear g1 g2 HR1 T0
   have kA:Keep (·=bX) w3 ((w3.setCell ⟨bX,k*7+5,none⟩ (.int .i64 tq)).setCell ⟨bX,k*7+6,none⟩ (.bool true)):=((Keep.refl (·=bX) w3).setCell (p:=⟨bX,k*7+5,none⟩) (fun _=>rfl) _).setCell (p:=⟨bX,k*7+6,none⟩) (fun _=>rfl) _
   obtain⟨rowP2,hlP2,hxl2⟩:=jfK rowP hl7 hkX (j:=5) (j2:=6) (by decide) (by decide) (.int .i64 tq) (.bool true)
   have fx2:=jeu (jcB fx hto) true
   have rowO2:=rowO.keep kA (by omega)
   have rowR2:=rowR.keep kA (by omega)
   have ownT2:=jad ownT kA (fun b hb e=>by have:=hTlt b hb;omega)
   have elsT2:=elsT.keep fGTable_lawful kA (fun b hb e=>by have:=hb.2;omega)
   have kk2:=kk.then kA (fun i hi e=>by omega)
   have ownX2:=jd9 rowP2 hbX (hlP2.trans hlP) (hxl2.trans hxl) hnc hcm
   have elsX2:=(elsX.set (i:=k) fx2).keep fGIndex_lawful kA (fun b hb e=>hb.2.2 (by rw[e];rfl))
   have x0:=rowO2.cell 0
   (try simp only[List.getElem?_cons_succ]at x0);(try simp only[List.getElem?_cons_zero]at x0)
   have f0:=rowO2.frozen 0
   have rowO3:=rowO2.set 0 (.int .i64 (c.fVersion+1))
   simp only[List.set_cons_zero]at rowO3
   have kB:Keep (·=w1.heap.size) ((w3.setCell ⟨bX,k*7+5,none⟩ (.int .i64 tq)).setCell ⟨bX,k*7+6,none⟩ (.bool true)) (((w3.setCell ⟨bX,k*7+5,none⟩ (.int .i64 tq)).setCell ⟨bX,k*7+6,none⟩ (.bool true)).setCell ⟨w1.heap.size,0,none⟩ (.int .i64 (c.fVersion+1))):=(Keep.refl (·=w1.heap.size) _).setCell (p:=⟨w1.heap.size,0,none⟩) (fun _=>rfl) _
   obtain⟨hstR,rowF,HRES,HKF⟩:=jdw (w:=w) (c:=c) (d:=jcx c k {x with fState:=tq,fBad:=true}) (ver:=c.fVersion+1) (nx:=c.fNext) (nX:=c.fIndexes.length) rfl rfl (List.length_set ..) (rowR2.keep kB (by omega)) rfl (by omega) (by omega) (by omega) hcv2 hcn rfl hs.2.2.1 (by show(c.fIndexes.set k _).length≤_;rw[List.length_set];have:=hs.2.2.2;omega)
    (jad ownT2 kB (fun b hb e=>by have:=hTlt b hb;omega)) (jad ownX2 kB (fun b hb e=>by have:=hXlt b hb;omega)) (elsT2.keep fGTable_lawful kB (fun b hb e=>by have:=hb.2;omega)) (elsX2.keep fGIndex_lawful kB (fun b hb e=>by have:=hb.2.1;omega))
    (fun b hb=>⟨by have:=hb.1;omega,by have:=hb.2;have:=kA.size;have:=kB.size;omega⟩) (fun b hb=>⟨by have:=hb.1;omega,by have:=hb.2.1;have:=kA.size;have:=kB.size;omega⟩) (kk2.then kB (fun i hi e=>by omega))
   have ldO:=Whole.run (P:=Tryz.prog) S_Catalog rfl rowO3
   clear kA rowP rowP2 fx2 fx ownX2 elsX2 rowO2 rowR2 ownT2 elsT2 kk2 rowO3 kB ownT ownX elsT elsX hlP hlP2 hxl hxl2
   go_wp2_with fail
   refine bodyPost_ret (jag (by rfl) _ _ _ _ _ _ _ (by rfl) rowF Tryz.underlying50 (by rfl) (by exact S_Catalog.info)) rfl ?_
   rw[HR.out]
   exact⟨_,rfl,HRES.out,jay HRES.out,HKF.out⟩
 case h2a | h2b | h2c | h2d | h2e | h2f | h2g | h2h | h2i | h2j | h2k | h2l | h2m | h2n | h2o | h2p | h2q | h2r=>
  obtain⟨hstR,rowF,HRES,HKF⟩:=jdw (w:=w) (d:=c) rfl rfl rfl rowR rfl (by omega) (by omega) (by omega) hcv hcn rfl hs.2.2.1 (by have:=hs.2.2.2;omega) ownT ownX elsT elsX (fun b hb=>⟨by have:=hb.1;omega,by have:=hb.2;omega⟩) (fun b hb=>⟨by have:=hb.1;omega,by have:=hb.2.1;omega⟩) kk
  have ldO:=Whole.run (P:=Tryz.prog) S_Catalog rfl rowO
  clear ownT ownX elsT elsX rowP hlP hxl fx
  go_wp2_with fail
  refine bodyPost_ret (jag (by rfl) _ _ _ _ _ _ _ (by rfl) rowF Tryz.underlying50 (by rfl) (by exact S_Catalog.info)) rfl ?_
  rw[HR.out]
  exact⟨_,rfl,HRES.out,jay HRES.out,HKF.out⟩
end
end
end Go.Proofs.YtibaehlfpgipfaaGreat
