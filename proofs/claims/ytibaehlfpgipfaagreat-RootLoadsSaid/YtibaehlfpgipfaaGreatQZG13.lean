/- SCHEMA: a table is added, by the program. Printed by gen29.py. -/
import Derived.Test.YtibaehlfpgipfaaGreatQZSchF
import Derived.Test.YtibaehlfpgipfaaGreatQZBase
import Derived.Lib.BytesEntry
import Derived.Lib.Bytealg
import Derived.Test.YtibaehlfpgipfaaGreatQZG3
import Derived.Lib.SliceRun
import Derived.Deep.RegionHeld3
import Derived.Deep.DeepCutAuto
import Derived.Deep.CutBlock
namespace Go.Proofs.YtibaehlfpgipfaaGreat
open Go.RowKit
set_option maxRecDepth 100000
set_option maxHeartbeats 16000000
section
theorem jku{w w7 wz:World}{c:GCatalog}{t:GTable}{a7 aP:Option Addr}{c7 cP base m:Nat}{cssT cssX:List (List Value)}{CN:List Value}{q:Nat→Prop}(hcv:jae c.fVersion)(hcn:jae c.fNext)(hs:jb4 c)(hv:c.fVersion≤4611686018427387904)(h7:c.fNext<1073741824)(h6:c.fTables.length<6)
  (e9:w7.heap.size≤wz.heap.size) (_hw:w.heap.size≤w7.heap.size)
  (own:wz.ownsRow base 39 4 (.slice a7 (c.fTables.length+1) c7) (c.fTables.length+1) (cssT.flatten ++ CN)) (ownX:wz.ownsRow m 41 7 (.slice aP c.fIndexes.length cP) c.fIndexes.length cssX.flatten)
  (els:Els jaG wz (fun b=>w.heap.size+1+1+1≤b∧b<w7.heap.size∧q b) (cssT ++ [CN]) (c.fTables ++ [{t with fID:=c.fNext}])) (elsI:Els jaZ wz (fun b=>w.heap.size+1+1+1≤b∧b<w7.heap.size∧q b) cssX c.fIndexes)
  (hT:∀b,OwnB (.slice a7 (c.fTables.length+1) c7) b→w.heap.size+1+1+1≤b∧b<w7.heap.size) (hX:∀b,OwnB (.slice aP c.fIndexes.length cP) b→w.heap.size+1+1+1≤b∧b<w7.heap.size) :
  jat wz (jai w wz) [.int .i64 (c.fVersion+1),.int .i64 (c.fNext+1),.slice a7 (c.fTables.length+1) c7,.slice aP c.fIndexes.length cP] ({c with fVersion:=c.fVersion+1,fNext:=c.fNext+1,fTables:=c.fTables ++ [{t with fID:=c.fNext}]}:GCatalog):=by
 have hln:(c.fTables ++ [{t with fID:=c.fNext}]).length=c.fTables.length+1:=by simp
 have hr:([.int .i64 (c.fVersion+1),.int .i64 (c.fNext+1),.slice a7 (c.fTables.length+1) c7,.slice aP c.fIndexes.length cP]:List Value)=[.int .i64 (c.fVersion+1),.int .i64 (c.fNext+1),.slice a7 (c.fTables ++ [{t with fID:=c.fNext}]).length c7,.slice aP c.fIndexes.length cP]:=by rw[hln]
 rw[hr]
 refine jcs _ _ (x:=({c with fVersion:=c.fVersion+1,fNext:=c.fNext+1,fTables:=c.fTables ++ [{t with fID:=c.fNext}]}:GCatalog)) ⟨by have:=hcv.1;show _≤c.fVersion+1;omega,by show c.fVersion+1≤_;omega⟩ ⟨by have:=hcn.1;show _≤c.fNext+1;omega,by show c.fNext+1≤_;omega⟩ ?_ ?_
 ·refine jd4 (R:=jaG) (base:=base) (e:=39) (sz:=4) (css:=cssT ++ [CN]) ?_ els (by show(c.fTables ++ [{t with fID:=c.fNext}]).length≤far;rw[hln];unfold far;omega) (fun d y hy=>rGTable_lawful.mono hy (fun b hb=>⟨by have:=hb.1;omega,by have:=hb.2.1;omega⟩)) (fun b h1 h2=>?_)
  ·show wz.ownsRow base _ 4 (.slice a7 (c.fTables ++ [{t with fID:=c.fNext}]).length c7) (c.fTables ++ [{t with fID:=c.fNext}]).length _
   rw[hln];simpa using own
  ·have h2':OwnB (.slice a7 (c.fTables.length+1) c7) b:=by rw[←hln];exact h2
   have:=hT b h2'
   exact⟨by omega,by omega⟩
 ·exact jd4 (R:=jaZ) ownX elsI (by show c.fIndexes.length≤far;unfold far;have:=hs.2.2.2;omega) (fun d y hy=>rGIndex_lawful.mono hy (fun b hb=>⟨by have:=hb.1;omega,by have:=hb.2.1;omega⟩)) (fun b h1 h2=>by have:=hX b h2;exact⟨by omega,by omega⟩)
theorem jkh(w:World)(a:Addr)(v:Value):(w.setCell a v).heap.size=w.heap.size:=by simp[World.setCell]
theorem jgO(w:World)(b:Nat)(cs:Array Value):(w.setRow b cs).heap.size=w.heap.size:=by simp[World.setRow]
def ja9(c:GCatalog)(t:GTable):GCatalog×Int:=
 if jbq t=false then(c,9) else if(jbj (fun x=>decide (x.fName=t.fName)) c.fTables zTab).2=true then(c,6)
 else if 6≤c.fTables.length∨1073741824≤c.fNext then(c,4)
 else({c with fVersion:=c.fVersion+1,fNext:=c.fNext+1,fTables:=c.fTables ++ [{t with fID:=c.fNext}]},0)
theorem jfb{t:GTable}(h:jbq t=true):t.fColumns.length≤6∧t.fKey.length≤6:=by
 have h1:t.fColumns.length≤6:=by
  have h:=h
  unfold jbq at h
  simp only[Bool.and_eq_true,decide_eq_true_eq]at h
  exact h.2.1.2
 unfold jbq at h
 simp only[Bool.and_eq_true,decide_eq_true_eq]at h
 have h2:=of_decide_eq_true h.2.2.1
 rw[show min (t.fColumns.length:Int) 6=((t.fColumns.length:Nat):Int)by omega]at h2
 have:=je2 _ _ h2.1
 omega
section
attribute [local go_sem ↓] jcd jc2 jbB jcp ji9
theorem jkF{p:Nat→Prop}(c:GCatalog)(csc:List Value)(t:GTable)(cst:List Value)(w:World)(hc:jat w p csc c)(ht:jaG w p cst t)(hs:jb4 c)(hv:c.fVersion≤4611686018427387904)(_hp:∀b,p b→b<w.heap.size) :
  Calls Tryz.prog 63 #[.agg csc.toArray,.agg cst.toArray] w (Took jat w (ja9 c t)):=by
 have gc:=hc
 have gt:=ht
 obtain⟨aT,cT,aX,cX,rfl,hcv,hcn,hcT,hcX,-⟩:=jau hc
 have hlc:([.int .i64 c.fVersion,.int .i64 c.fNext,.slice aT c.fTables.length cT,.slice aX c.fIndexes.length cX]:List Value).length=4:=rfl
 obtain⟨aC,cC,aK,cK,rfl,h0,h1,h2,h3,-⟩:=jbw ht
 have row0:RowIs (((w.alloc (.cells #[.int .i64 c.fVersion,.int .i64 c.fNext,.slice aT c.fTables.length cT,.slice aX c.fIndexes.length cX] 50)).alloc (.cells #[.int .i64 t.fID,.string (strB t.fName),.slice aC t.fColumns.length cC,.slice aK t.fKey.length cK] 39)).alloc (.cells #[.int .i64 0,.int .i64 0,.slice none 0 0,.slice none 0 0] 50)) w.heap.size 50 [.int .i64 c.fVersion,.int .i64 c.fNext,.slice aT c.fTables.length cT,.slice aX c.fIndexes.length cX]:=((RowIs.alloc w _ _).keep ((Keep.refl Nix _).alloc _) id).keep ((Keep.refl Nix _).alloc _) id
 have rowT:RowIs (((w.alloc (.cells #[.int .i64 c.fVersion,.int .i64 c.fNext,.slice aT c.fTables.length cT,.slice aX c.fIndexes.length cX] 50)).alloc (.cells #[.int .i64 t.fID,.string (strB t.fName),.slice aC t.fColumns.length cC,.slice aK t.fKey.length cK] 39)).alloc (.cells #[.int .i64 0,.int .i64 0,.slice none 0 0,.slice none 0 0] 50)) (w.heap.size+1) 39 [.int .i64 t.fID,.string (strB t.fName),.slice aC t.fColumns.length cC,.slice aK t.fKey.length cK]:=(RowIs.alloc_at (w.alloc (.cells #[.int .i64 c.fVersion,.int .i64 c.fNext,.slice aT c.fTables.length cT,.slice aX c.fIndexes.length cX] 50)) _ (by simp) #[.int .i64 t.fID,.string (strB t.fName),.slice aC t.fColumns.length cC,.slice aK t.fKey.length cK] 39).keep ((Keep.refl Nix _).alloc _) id
 have rowR:RowIs (((w.alloc (.cells #[.int .i64 c.fVersion,.int .i64 c.fNext,.slice aT c.fTables.length cT,.slice aX c.fIndexes.length cX] 50)).alloc (.cells #[.int .i64 t.fID,.string (strB t.fName),.slice aC t.fColumns.length cC,.slice aK t.fKey.length cK] 39)).alloc (.cells #[.int .i64 0,.int .i64 0,.slice none 0 0,.slice none 0 0] 50)) (w.heap.size+1+1) 50 [.int .i64 0,.int .i64 0,.slice none 0 0,.slice none 0 0]:=RowIs.alloc_at ((w.alloc (.cells #[.int .i64 c.fVersion,.int .i64 c.fNext,.slice aT c.fTables.length cT,.slice aX c.fIndexes.length cX] 50)).alloc (.cells #[.int .i64 t.fID,.string (strB t.fName),.slice aC t.fColumns.length cC,.slice aK t.fKey.length cK] 39)) _ (by simp) #[.int .i64 0,.int .i64 0,.slice none 0 0,.slice none 0 0] 50
 have kk:Keep Nix w (((w.alloc (.cells #[.int .i64 c.fVersion,.int .i64 c.fNext,.slice aT c.fTables.length cT,.slice aX c.fIndexes.length cX] 50)).alloc (.cells #[.int .i64 t.fID,.string (strB t.fName),.slice aC t.fColumns.length cC,.slice aK t.fKey.length cK] 39)).alloc (.cells #[.int .i64 0,.int .i64 0,.slice none 0 0,.slice none 0 0] 50)):=(((Keep.refl Nix w).alloc _).alloc _).alloc _
 have ld0:=Whole.row (P:=Tryz.prog) S_Catalog hlc row0
 unfold Whole at ld0
 replace gc:=rGCatalog_lawful.nix gc kk
 replace gt:=rGTable_lawful.nix gt kk
 clear hc ht
 go_enter Tryz.func63,Tryz.ntmps63
 go_wp2_with fail
 clear ld0
 go_fit (jhm c _ _ gc hs)
 rintro e w1 ⟨cso,rfl,hOwn,k1⟩
 have hO:=hOwn.read hcv hcn (ja0 hcT).2.2 (ja0 hcX).2.2
 obtain⟨aO,cO,aP,cP,cssT,cssX,m,rfl,hbm,hmw,ownT,hTlt,elsT,ownX,elsX⟩:=hOwn
 have hXlt:Hid (∀b,OwnB (.slice aP c.fIndexes.length cP) b→b<w1.heap.size):=fun b hb=>(ownX.lt b hb).2
 have hs1:w.heap.size+1+1+1≤w1.heap.size:=by simp at hbm;omega
 replace row0:=row0.keep k1 id
 replace rowT:=rowT.keep k1 id
 replace rowR:=rowR.keep k1 id
 replace gc:=rGCatalog_lawful.nix gc k1
 replace gt:=rGTable_lawful.nix gt k1
 replace kk:=kk.trans k1
 have hlo:=rGCatalog_lawful.len hO
 have hst:=jaf (P:=Tryz.prog) (cs:=[.int .i64 c.fVersion,.int .i64 c.fNext,.slice aO c.fTables.length cO,.slice aP c.fIndexes.length cP]) S_Catalog (RowIs.alloc w1 #[.int .i64 0,.int .i64 0,.slice none 0 0,.slice none 0 0] 50) rfl hlo (jay hO)
 have rowO:=(RowIs.alloc w1 #[.int .i64 0,.int .i64 0,.slice none 0 0,.slice none 0 0] 50).setRow [.int .i64 c.fVersion,.int .i64 c.fNext,.slice aO c.fTables.length cO,.slice aP c.fIndexes.length cP]
 have kV:Keep Nix w1 ((w1.alloc (.cells #[.int .i64 0,.int .i64 0,.slice none 0 0,.slice none 0 0] 50)).setRow w1.heap.size ([.int .i64 c.fVersion,.int .i64 c.fNext,.slice aO c.fTables.length cO,.slice aP c.fIndexes.length cP]:List Value).toArray):=((Keep.refl Nix w1).alloc (.cells #[.int .i64 0,.int .i64 0,.slice none 0 0,.slice none 0 0] 50)).setRow (fun h=>absurd h (Nat.lt_irrefl _)) _
 replace row0:=row0.keep kV id
 replace rowT:=rowT.keep kV id
 replace rowR:=rowR.keep kV id
 replace gc:=rGCatalog_lawful.nix gc kV
 replace gt:=rGTable_lawful.nix gt kV
 replace hO:=rGCatalog_lawful.nix hO kV
 replace ownT:=jad ownT kV (fun _ _ h=>h)
 replace ownX:=jad ownX kV (fun _ _ h=>h)
 replace elsT:=elsT.keep fGTable_lawful kV (fun _ _ h=>h)
 replace elsX:=elsX.keep fGIndex_lawful kV (fun _ _ h=>h)
 replace kk:=kk.trans kV
 clear k1 kV
 have ld0:=Whole.row (P:=Tryz.prog) S_Catalog hlc row0
 unfold Whole at ld0
 have x1:=rowT.cell 1
 simp only[List.getElem?_cons_succ,List.getElem?_cons_zero]at x1
 go_wp2_with fail
 clear ld0 hst x1
 go_fit (jke c _ t.fName _ gc hs.1)
 rintro e w2 ⟨csf,rfl,hF,k1⟩
 obtain⟨y,hy⟩:∃y,Hid (jbj (fun x=>decide (x.fName=t.fName)) c.fTables zTab=y):=⟨_,rfl⟩
 rw[hy.out]at hF ⊢
 obtain⟨yt,twice⟩:=y
 replace hF:jbR w2 (jai _ w2) csf yt:=hF
 have hst:=jaf (P:=Tryz.prog) (cs:=csf) S_Table (RowIs.alloc w2 #[.int .i64 0,.string {data:=#[]},.slice none 0 0,.slice none 0 0] 39) rfl (fGTable_lawful.len hF) (jdZ hF)
 have kV:Keep Nix w2 ((w2.alloc (.cells #[.int .i64 0,.string {data:=#[]},.slice none 0 0,.slice none 0 0] 39)).setRow w2.heap.size csf.toArray):=((Keep.refl Nix w2).alloc (.cells #[.int .i64 0,.string {data:=#[]},.slice none 0 0,.slice none 0 0] 39)).setRow (fun h=>absurd h (Nat.lt_irrefl _)) _
 have k3:=k1.trans kV
 replace row0:=row0.keep k3 id
 replace rowT:=rowT.keep k3 id
 replace rowR:=rowR.keep k3 id
 replace rowO:=rowO.keep k3 id
 replace gc:=rGCatalog_lawful.nix gc k3
 replace gt:=rGTable_lawful.nix gt k3
 replace hO:=rGCatalog_lawful.nix hO k3
 replace ownT:=jad ownT k3 (fun _ _ h=>h)
 replace ownX:=jad ownX k3 (fun _ _ h=>h)
 replace elsT:=elsT.keep fGTable_lawful k3 (fun _ _ h=>h)
 replace elsX:=elsX.keep fGIndex_lawful k3 (fun _ _ h=>h)
 replace kk:=kk.trans k3
 clear k1 kV k3 hF
 have ldt:=Whole.row (P:=Tryz.prog) S_Table rfl rowT
 unfold Whole at ldt
 go_wp2_with fail
 clear ldt hst
 go_fit (jfW t _ _ gt)
 rintro e w3 ⟨rfl,k1⟩
 replace row0:=row0.keep k1 id
 replace rowT:=rowT.keep k1 id
 replace rowR:=rowR.keep k1 id
 replace rowO:=rowO.keep k1 id
 replace gt:=rGTable_lawful.nix gt k1
 replace hO:=rGCatalog_lawful.nix hO k1
 replace ownT:=jad ownT k1 (fun _ _ h=>h)
 replace ownX:=jad ownX k1 (fun _ _ h=>h)
 replace elsT:=elsT.keep fGTable_lawful k1 (fun _ _ h=>h)
 replace elsX:=elsX.keep fGIndex_lawful k1 (fun _ _ h=>h)
 replace kk:=kk.trans k1
 clear k1
 -- what is handed back where nothing is added
 have hback:∀err:Int,ja9 c t=(c,err)→True:=fun _ _=>trivial
 clear hback
 have ldo:=Whole.row (P:=Tryz.prog) S_Catalog hlo rowO
 unfold Whole at ldo
 have hstR:=jaf (P:=Tryz.prog) (cs:=[.int .i64 c.fVersion,.int .i64 c.fNext,.slice aO c.fTables.length cO,.slice aP c.fIndexes.length cP]) S_Catalog rowR rfl hlo (jay hO)
 have rowF:=rowR.setRow [.int .i64 c.fVersion,.int .i64 c.fNext,.slice aO c.fTables.length cO,.slice aP c.fIndexes.length cP]
 have kS:Keep (·=w.heap.size+1+1) w3 (w3.setRow (w.heap.size+1+1) ([.int .i64 c.fVersion,.int .i64 c.fNext,.slice aO c.fTables.length cO,.slice aP c.fIndexes.length cP]:List Value).toArray):=(Keep.refl (·=w.heap.size+1+1) w3).setRow (fun _=>rfl) _
 have kF:=kk.setRow (g:=w.heap.size+1+1) (fun h=>by omega) ([.int .i64 c.fVersion,.int .i64 c.fNext,.slice aO c.fTables.length cO,.slice aP c.fIndexes.length cP]:List Value).toArray
 have hin:(Tryz.prog.info? 50).map (·.size)=some ([.int .i64 c.fVersion,.int .i64 c.fNext,.slice aO c.fTables.length cO,.slice aP c.fIndexes.length cP]:List Value).toArray.size:=by rw[List.size_toArray,hlo];exact S_Catalog.info
 have HIN:=Lib.hid hin
 clear hin
 obtain⟨bt,hbt⟩:∃b,Hid (jbq t=b):=⟨_,rfl⟩
 have hsO:=rowO.lt
 have hres:jat (w3.setRow (w.heap.size+1+1) ([.int .i64 c.fVersion,.int .i64 c.fNext,.slice aO c.fTables.length cO,.slice aP c.fIndexes.length cP]:List Value).toArray) (jai w (w3.setRow (w.heap.size+1+1) ([.int .i64 c.fVersion,.int .i64 c.fNext,.slice aO c.fTables.length cO,.slice aP c.fIndexes.length cP]:List Value).toArray)) [.int .i64 c.fVersion,.int .i64 c.fNext,.slice aO c.fTables.length cO,.slice aP c.fIndexes.length cP] c:=
  rGCatalog_lawful.mono (rGCatalog_lawful.keep hO kS (fun b hb e=>by have:=hb.1;simp at this;omega)) (fun b hb=>⟨by have:=hb.1;simp at this;omega,by have:=hb.2;have:=kS.size;omega⟩)
 rw[hbt.out]
 cases bt with
 | false=>
  have HR:Hid (ja9 c t=(c,9)):=by show _=_;unfold ja9;rw[if_pos hbt.out]
  go_wp2_with fail
  refine bodyPost_ret (jag (by rfl) _ _ _ _ _ _ _ (by rfl) rowF Tryz.underlying50 (by rfl) HIN.out) rfl ?_
  rw[HR.out]
  exact⟨_,rfl,hres,jay hres,kF⟩
 | true=>
 cases twice with
 | true=>
  have HR:Hid (ja9 c t=(c,6)):=by show _=_;unfold ja9;rw[if_neg (by rw[hbt.out];simp),if_pos (by rw[hy.out])]
  go_wp2_with fail
  refine bodyPost_ret (jag (by rfl) _ _ _ _ _ _ _ (by rfl) rowF Tryz.underlying50 (by rfl) HIN.out) rfl ?_
  rw[HR.out]
  exact⟨_,rfl,hres,jay hres,kF⟩
 | false=>
 have mT:c.fTables.length≤140737488351232:=by have:=hs.2.2.1;omega
 have x1:=row0.cell 1
 have x2:=row0.cell 2
 simp only[List.getElem?_cons_succ,List.getElem?_cons_zero]at x1 x2
 by_cases hfull:6≤c.fTables.length∨1073741824≤c.fNext
 ·have HR:Hid (ja9 c t=(c,4)):=by show _=_;unfold ja9;rw[if_neg (by rw[hbt.out];simp),if_neg (by rw[hy.out];simp),if_pos hfull]
  rcases Nat.lt_or_ge c.fTables.length 6 with h6 | h6
  ·have h7:1073741824≤c.fNext:=by omega
   clear hfull
   go_wp2_with fail
   refine bodyPost_ret (jag (by rfl) _ _ _ _ _ _ _ (by rfl) rowF Tryz.underlying50 (by rfl) HIN.out) rfl ?_
   rw[HR.out]
   exact⟨_,rfl,hres,jay hres,kF⟩
  ·clear hfull
   go_wp2_with fail
   refine bodyPost_ret (jag (by rfl) _ _ _ _ _ _ _ (by rfl) rowF Tryz.underlying50 (by rfl) HIN.out) rfl ?_
   rw[HR.out]
   exact⟨_,rfl,hres,jay hres,kF⟩
 have h6:c.fTables.length<6:=by omega
 have h7:c.fNext<1073741824:=by omega
 have HR:Hid (ja9 c t=({c with fVersion:=c.fVersion+1,fNext:=c.fNext+1,fTables:=c.fTables ++ [{t with fID:=c.fNext}]},0)):=by
  show _=_;unfold ja9;rw[if_neg (by rw[hbt.out];simp),if_neg (by rw[hy.out];simp),if_neg hfull]
 clear hfull hres kS kF rowF hstR ldo hO
 obtain⟨ht1,ht2⟩:=jfb hbt.out
 have ldt:=Whole.row (P:=Tryz.prog) S_Table rfl rowT
 unfold Whole at ldt
 have hbO3':=rowO.lt
 have hOt:=Lib.hid (jeD t _ _ gt (by omega) (by omega))
 clear gt
 go_wp2_with fail
 clear ldt x1 x2
 go_fit hOt.out
 rintro e w4 ⟨csn,rfl,hN,k1⟩
 replace rowT:=rowT.keep k1 id
 replace rowR:=rowR.keep k1 id
 replace rowO:=rowO.keep k1 id
 replace kk:=kk.trans k1
 replace ownT:=jad ownT k1 (fun _ _ h=>h)
 replace ownX:=jad ownX k1 (fun _ _ h=>h)
 replace elsT:=elsT.keep fGTable_lawful k1 (fun _ _ h=>h)
 replace elsX:=elsX.keep fGIndex_lawful k1 (fun _ _ h=>h)
 have hsN:=k1.size
 have hbO3:Hid (w1.heap.size<w3.heap.size):=hbO3'
 clear k1 hOt hbO3'
 have hNr:=jd2 hN
 obtain⟨q0,q1,q2,q3,hq,g0,g1,g2,g3⟩:=hN
 obtain⟨rfl,-⟩:=g0
 obtain⟨rfl,g1⟩:=g1
 obtain⟨b1,d1,rfl,g2⟩:=jcM g2
 obtain⟨b2,d2,rfl,g3⟩:=jcM g3
 simp only[List.flatten_cons,List.flatten_nil,List.append_nil,List.cons_append,List.nil_append]at hq
 subst hq
 have hst:=jaf (P:=Tryz.prog) (cs:=[.int .i64 t.fID,.string (strB t.fName),.slice b1 t.fColumns.length d1,.slice b2 t.fKey.length d2]) S_Table rowT rfl rfl rfl
 have rowT5:=rowT.setRow [.int .i64 t.fID,.string (strB t.fName),.slice b1 t.fColumns.length d1,.slice b2 t.fKey.length d2]
 have k5:Keep (·=w.heap.size+1) w4 (w4.setRow (w.heap.size+1) ([.int .i64 t.fID,.string (strB t.fName),.slice b1 t.fColumns.length d1,.slice b2 t.fKey.length d2]:List Value).toArray):=(Keep.refl (·=w.heap.size+1) w4).setRow (fun _=>rfl) _
 have rowT6:=rowT5.set 0 (.int .i64 c.fNext)
 simp only[List.set_cons_zero]at rowT6
 have k6:Keep (·=w.heap.size+1) (w4.setRow (w.heap.size+1) ([.int .i64 t.fID,.string (strB t.fName),.slice b1 t.fColumns.length d1,.slice b2 t.fKey.length d2]:List Value).toArray) ((w4.setRow (w.heap.size+1) ([.int .i64 t.fID,.string (strB t.fName),.slice b1 t.fColumns.length d1,.slice b2 t.fKey.length d2]:List Value).toArray).setCell ⟨w.heap.size+1,0,none⟩ (.int .i64 c.fNext)):=(Keep.refl (·=w.heap.size+1) _).setCell (p:=⟨w.heap.size+1,0,none⟩) (fun _=>rfl) _
 have k56:=k5.trans k6
 have hXm:∀b,OwnB (.slice aP c.fIndexes.length cP) b→m≤b:=fun b hb=>(ownX.lt b hb).1
 have hbm':w.heap.size+1+1+1≤m:=by simp at hbm;omega
 have ownX7:=jad ownX k56 (fun b hb e=>by have:=hXm b hb;omega)
 have elsT7:=elsT.keep fGTable_lawful k56 (fun b hb e=>by have:=hb.1;simp at this;omega)
 have elsX7:=elsX.keep fGIndex_lawful k56 (fun b hb e=>by have:=hb.1;omega)
 have rN:=rGTable_lawful.keep hNr k56 (fun b hb e=>by have:=hb.1;have:=hbO3.out;omega)
 have hmw':=Lib.hid hmw
 have rowO5:=rowO.keep k5 (by omega)
 have f0:=rowT5.frozen 0
 have y0:=rowT5.cell 0
 simp only[List.getElem?_cons_zero]at y0
 have rowO6:=rowO.keep k56 (by omega)
 have x1:=rowO5.cell 1
 have x2:=rowO6.cell 2
 simp only[List.getElem?_cons_succ,List.getElem?_cons_zero]at x1 x2
 have ldt:=Whole.row (P:=Tryz.prog) S_Table rfl rowT6
 unfold Whole at ldt
 have hls:=jb3 (P:=Tryz.prog) T_lTable (by decide) [.int .i64 c.fNext,.string (strB t.fName),.slice b1 t.fColumns.length d1,.slice b2 t.fKey.length d2] rfl ((w4.setRow (w.heap.size+1) ([.int .i64 t.fID,.string (strB t.fName),.slice b1 t.fColumns.length d1,.slice b2 t.fKey.length d2]:List Value).toArray).setCell ⟨w.heap.size+1,0,none⟩ (.int .i64 c.fNext))
 replace rowR:=rowR.keep k56 (by omega)
 replace kk:=kk.then k56 (fun i hi e=>by omega)
 replace ownT:=jad ownT k56 (fun b hb e=>by have:=(ownT.lt b hb).1;simp at this;omega)
 have hTg:∀b,OwnB (.slice aO c.fTables.length cO) b→w.heap.size+1+1+1≤b:=fun b hb=>by have:=(ownT.lt b hb).1;simp at this;omega
 have hbs:w.heap.size+1+1+1≤((w4.setRow (w.heap.size+1) ([.int .i64 t.fID,.string (strB t.fName),.slice b1 t.fColumns.length d1,.slice b2 t.fKey.length d2]:List Value).toArray).setCell ⟨w.heap.size+1,0,none⟩ (.int .i64 c.fNext)).heap.size:=by have:=rowO6.lt;simp at hsO ⊢;omega
 have hown1:=ownT.lt
 have hs6:((w4.setRow (w.heap.size+1) ([.int .i64 t.fID,.string (strB t.fName),.slice b1 t.fColumns.length d1,.slice b2 t.fKey.length d2]:List Value).toArray).setCell ⟨w.heap.size+1,0,none⟩ (.int .i64 c.fNext)).heap.size=w4.heap.size:=(jkh _ _ _).trans (jgO _ _ _)
 have HS6:=Lib.hid hs6
 clear hs6
 go_wp2_with (at_builtin;refine jbi (c:=1) T_lTable ?hgd (.tmp 43) (.tmp 45) ?ho _ ?hs ownT ?hx ?c0 ?c1 ?c2 ?c3 ?c4 ?_)
 case hgd=>rfl
 case ho=>rfl
 case hs=>rfl
 case hx=>rw[HS6.out];rfl
 case c0=>rfl
 case c1=>exact⟨rfl,rfl,rfl,rfl⟩
 case c2=>unfold maxLen;omega
 case c3=>omega
 case c4=>simp at hbm hbs ⊢;omega
 intro a7 c7 w7 own7 k7 jax
 have hTm:∀b,OwnB (.slice aO c.fTables.length cO) b→w.heap.size+1+1+1≤b∧b<m:=fun b hb=>⟨hTg b hb,hTlt b hb⟩
 have hmw1:=hmw'.out
 have rowO7:=rowO6.keep k7 (fun hb=>by have:=hTm _ hb;omega)
 replace rowR:=rowR.keep k7 (fun hb=>by have:=hTg _ hb;omega)
 replace ownX7:=jad ownX7 k7 (fun b hb h=>by have:=hXm b hb;have:=hTm b h;omega)
 replace elsT7:=elsT7.keep fGTable_lawful k7 (fun b hb=>hb.2.2)
 replace elsX7:=elsX7.keep fGIndex_lawful k7 (fun b hb h=>by have:=hb.1;have:=hTm b h;omega)
 replace rN:=rGTable_lawful.keep rN k7 (fun b hb h=>by have:=hb.1;have:=hTm b h;have:=hbO3.out;omega)
 have hs7:=k7.size
 have hs67:w4.heap.size≤w7.heap.size:=by rw[HS6.out]at hs7;exact hs7
 have h7g:∀b,OwnB (.slice a7 (c.fTables.length+1) c7) b→w.heap.size+1+1+1≤b∧b<w7.heap.size∧b≠w1.heap.size:=fun b hb=>by
  have h1:=(own7.lt b hb).2
  rcases jax b hb with h | h
  ·have:=hTm b h;omega
  ·have h':w4.heap.size≤b:=by first | exact h | exact Nat.le_trans (Nat.le_of_eq HS6.out.symm) h
   have:=hbO3.out;omega
 replace kk:=kk.then k7 (fun i hi hb=>by have:=hTg _ hb;omega)
 clear hls ldt y0 f0 x1 x2 hst k7 jax
 -- the table, as it is read now
 have rNew:jaG w7 (fun b=>w.heap.size+1+1+1≤b∧b<w7.heap.size∧b≠w1.heap.size) [.int .i64 c.fNext,.string (strB t.fName),.slice b1 t.fColumns.length d1,.slice b2 t.fKey.length d2] ({t with fID:=c.fNext}:GTable):=by
  obtain⟨e1,e2,e3,e4,he,z0,z1,z2,z3,-⟩:=jbw rN
  simp only[List.cons.injEq,Value.slice.injEq,and_true,true_and]at he
  obtain⟨⟨rfl,rfl⟩,rfl,rfl⟩:=he
  exact rGTable_lawful.mono (jhF w7 _ (x:=({t with fID:=c.fNext}:GTable)) hcn z1 z2 z3) (fun b hb=>by have h1:=hb.1;have h2:=hb.2;have:=hbO3.out;have:=kk.size;refine⟨by omega,by omega,by omega⟩)
 have elsR:Els jaG w7 (fun b=>w.heap.size+1+1+1≤b∧b<w7.heap.size∧b≠w1.heap.size) (cssT ++ [[.int .i64 c.fNext,.string (strB t.fName),.slice b1 t.fColumns.length d1,.slice b2 t.fKey.length d2]]) (c.fTables ++ [({t with fID:=c.fNext}:GTable)]):=
  Els.snoc ⟨elsT7.1,fun i cc x h1 h2=>rGTable_lawful.mono (jd2 (elsT7.2 i cc x h1 h2)) (fun b hb=>by have h3:=hb.1;have h4:=hb.2.1;simp at h3;have:=hbO3.out;refine⟨by omega,by omega,by omega⟩)⟩ rNew
 have elsI:Els jaZ w7 (fun b=>w.heap.size+1+1+1≤b∧b<w7.heap.size∧b≠w1.heap.size) cssX c.fIndexes:=
  ⟨elsX7.1,fun i cc x h1 h2=>rGIndex_lawful.mono (jde (elsX7.2 i cc x h1 h2)) (fun b hb=>by have h3:=hb.1;have h4:=hb.2.1;have:=hbO3.out;refine⟨by omega,by omega,by omega⟩)⟩
 clear rN elsT7 elsX7
 have k8:Keep (·=w1.heap.size) w7 (((w7.setCell ⟨w1.heap.size,2,none⟩ (.slice a7 (c.fTables.length+1) c7)).setCell ⟨w1.heap.size,1,none⟩ (.int .i64 (c.fNext+1))).setCell ⟨w1.heap.size,0,none⟩ (.int .i64 (c.fVersion+1))):=(((Keep.refl (·=w1.heap.size) w7).setCell (p:=⟨w1.heap.size,2,none⟩) (fun _=>rfl) (.slice a7 (c.fTables.length+1) c7)).setCell (p:=⟨w1.heap.size,1,none⟩) (fun _=>rfl) (.int .i64 (c.fNext+1))).setCell (p:=⟨w1.heap.size,0,none⟩) (fun _=>rfl) (.int .i64 (c.fVersion+1))
 have rowO8:=rowO7.set 2 (.slice a7 (c.fTables.length+1) c7)
 simp only[List.set_cons_succ,List.set_cons_zero]at rowO8
 have rowO9:=rowO8.set 1 (.int .i64 (c.fNext+1))
 simp only[List.set_cons_succ,List.set_cons_zero]at rowO9
 have rowO10:=rowO9.set 0 (.int .i64 (c.fVersion+1))
 simp only[List.set_cons_zero]at rowO10
 have x7:=rowO7.cell 2
 (try simp only[List.getElem?_cons_succ]at x7);(try simp only[List.getElem?_cons_zero]at x7)
 have f7:=rowO7.frozen 2
 have x8:=rowO8.cell 1
 (try simp only[List.getElem?_cons_succ]at x8);(try simp only[List.getElem?_cons_zero]at x8)
 have f8:=rowO8.frozen 1
 have x9:=rowO9.cell 0
 (try simp only[List.getElem?_cons_succ]at x9);(try simp only[List.getElem?_cons_zero]at x9)
 have f9:=rowO9.frozen 0
 have i1:IntKind.i64.wrap (c.fNext+1)=c.fNext+1:=by have:=hcn.1;rw[IntKind.wrap_i64];omega
 have i2:IntKind.i64.wrap (c.fVersion+1)=c.fVersion+1:=by have:=hcv.1;rw[IntKind.wrap_i64];omega
 replace rowR:=rowR.keep k8 (by omega)
 have ldo:=Whole.row (P:=Tryz.prog) (T:=50) S_Catalog rfl rowO10
 unfold Whole at ldo
 have hstR:=jaf (P:=Tryz.prog) (cs:=[.int .i64 (c.fVersion+1),.int .i64 (c.fNext+1),.slice a7 (c.fTables.length+1) c7,.slice aP c.fIndexes.length cP]) S_Catalog rowR rfl rfl rfl
 have rowF:=rowR.setRow [.int .i64 (c.fVersion+1),.int .i64 (c.fNext+1),.slice a7 (c.fTables.length+1) c7,.slice aP c.fIndexes.length cP]
 have k9:Keep (·=w.heap.size+1+1) (((w7.setCell ⟨w1.heap.size,2,none⟩ (.slice a7 (c.fTables.length+1) c7)).setCell ⟨w1.heap.size,1,none⟩ (.int .i64 (c.fNext+1))).setCell ⟨w1.heap.size,0,none⟩ (.int .i64 (c.fVersion+1))) ((((w7.setCell ⟨w1.heap.size,2,none⟩ (.slice a7 (c.fTables.length+1) c7)).setCell ⟨w1.heap.size,1,none⟩ (.int .i64 (c.fNext+1))).setCell ⟨w1.heap.size,0,none⟩ (.int .i64 (c.fVersion+1))).setRow (w.heap.size+1+1) ([.int .i64 (c.fVersion+1),.int .i64 (c.fNext+1),.slice a7 (c.fTables.length+1) c7,.slice aP c.fIndexes.length cP]:List Value).toArray):=(Keep.refl (·=w.heap.size+1+1) _).setRow (fun _=>rfl) _
 have kF:Keep Nix w ((((w7.setCell ⟨w1.heap.size,2,none⟩ (.slice a7 (c.fTables.length+1) c7)).setCell ⟨w1.heap.size,1,none⟩ (.int .i64 (c.fNext+1))).setCell ⟨w1.heap.size,0,none⟩ (.int .i64 (c.fVersion+1))).setRow (w.heap.size+1+1) ([.int .i64 (c.fVersion+1),.int .i64 (c.fNext+1),.slice a7 (c.fTables.length+1) c7,.slice aP c.fIndexes.length cP]:List Value).toArray):=(kk.then k8 (fun i hi e=>by omega)).then k9 (fun i hi e=>by omega)
 have hs67':w.heap.size≤w7.heap.size:=kk.size
 have e9:w7.heap.size≤((((w7.setCell ⟨w1.heap.size,2,none⟩ (.slice a7 (c.fTables.length+1) c7)).setCell ⟨w1.heap.size,1,none⟩ (.int .i64 (c.fNext+1))).setCell ⟨w1.heap.size,0,none⟩ (.int .i64 (c.fVersion+1))).setRow (w.heap.size+1+1) ([.int .i64 (c.fVersion+1),.int .i64 (c.fNext+1),.slice a7 (c.fTables.length+1) c7,.slice aP c.fIndexes.length cP]:List Value).toArray).heap.size:=Nat.le_trans k8.size k9.size
 have hown9:=jad (jad own7 k8 (fun b hb e=>(h7g b hb).2.2 e)) k9 (fun b hb e=>by have:=(h7g b hb).1;omega)
 have hownX9:=jad (jad ownX7 k8 (fun b hb e=>by have:=hXlt.out b hb;omega)) k9 (fun b hb e=>by have:=hXm b hb;omega)
 have elsR9:=(elsR.keep rGTable_lawful k8 (fun b hb e=>hb.2.2 e)).keep rGTable_lawful k9 (fun b hb e=>by have:=hb.1;omega)
 have elsI9:=(elsI.keep rGIndex_lawful k8 (fun b hb e=>hb.2.2 e)).keep rGIndex_lawful k9 (fun b hb e=>by have:=hb.1;omega)
 have hres:=jku (t:=t) hcv hcn hs hv h7 h6 e9 hs67' hown9 hownX9 elsR9 elsI9 (fun b hb=>⟨(h7g b hb).1,(h7g b hb).2.1⟩) (fun b hb=>by have:=hXm b hb;have:=hXlt.out b hb;have:=hbO3.out;constructor <;> omega)
 have HRES:=Lib.hid hres
 have HKF:=Lib.hid kF
 clear hres kF elsR9 elsI9 hown9 hownX9 elsR elsI rNew own7 ownX7 k8 k9 kk rowO7 rowO8 rowO9 rowO10
 go_wp2_with fail
 refine bodyPost_ret (jag (by rfl) _ _ _ _ _ _ _ (by rfl) rowF Tryz.underlying50 (by rfl) (by exact S_Catalog.info)) rfl ?_
 rw[HR.out]
 exact⟨_,rfl,HRES.out,jay HRES.out,HKF.out⟩
end
end
theorem jgN{P:Program}{w:World}{p:Nat→Prop}{a:Option Addr}{n cap:Nat}{l:List UInt8}(hn:l.length=n)(h:Lies w p a (l.map bv)):(Extern.Bytes.bytesOf (.slice a n cap)).run P w=.ok (strB l) w:=by
 subst hn
 cases l with
 | nil=>
  cases a <;> rfl
 | cons c l=>
  obtain⟨b,off,rfl,-,-,hc⟩:=h (by simp)
  have hl:=Lib.run_loadBytesX (P:=P) w ((c :: l).map fun x=>(x.toNat:Int)) ⟨b,off,none⟩ .empty (fun j x hj=>by
   rw[Addr.add_lit]
   refine hc j _ ?_
   rw[List.getElem?_map]at hj ⊢
   cases hg:(c :: l)[j]? with
   | none=>rw[hg]at hj;cases hj
   | some y=>rw[hg]at hj;simp at hj;subst hj;rfl)
  rw[List.length_map]at hl
  refine hl.trans ?_
  congr 1
  simp[strB]
  simp[Lib.bytesOf,Function.comp_def]
theorem jo3{P:Program}{w:World}{p q:Nat→Prop}{a b:Option Addr}{n m ca cb:Nat}{la lb:List UInt8}(hn:la.length=n)(hm:lb.length=m)(ha:Lies w p a (la.map bv))(hb:Lies w q b (lb.map bv)) :
  (Extern.BytealgCompare.compare #[.slice a n ca,.slice b m cb]).run P w=.ok (.int .i64 (Lib.compareBytes la lb)) w:=by
 change Sem.run P (do pure (goInt (Extern.BytealgCompare.cmp (←Extern.Bytes.bytesOf (.slice a n ca)) (←Extern.Bytes.bytesOf (.slice b m cb))))) w=_
 simp only[Sem.run_bind,jgN hn ha,jgN hm hb,Sem.run_pure,Result.andThen]
 rw[Lib.cmp_eq,jfu,jfu]
 rfl
theorem jjC{p q:Nat→Prop}(a b:Option Addr)(n ca m cb:Nat)(la lb:List UInt8)(w:World)(hn:la.length=n)(hm:lb.length=m)(ha:Lies w p a (la.map bv))(hb:Lies w q b (lb.map bv)) :
  Calls Tryz.prog 84 #[.slice a n ca,.slice b m cb] w fun e w'=>e=.returned (.int .i64 (Lib.compareBytes la lb))∧w=w':=by
 have hC:=@run_callFunc_extern Tryz.prog 138 _ Extern.BytealgCompare.compare Tryz.func138 (by kernel_rfl) (by kernel_rfl) (by kernel_rfl) (by kernel_rfl)
 have hR:=jo3 (P:=Tryz.prog) (w:=w) (ca:=ca) (cb:=cb) hn hm ha hb
 clear ha hb hn hm
 go_enter Tryz.func84,Tryz.ntmps84
 go_wp2
 go_ret
 exact⟨rfl,rfl⟩
/-! ### the order -/
/-! ### the order -/
abbrev ltB:List UInt8→List UInt8→Bool:=Op.bytesLess
theorem jil(a:List UInt8):ltB a []=false:=by cases a <;> rfl
theorem jfD(a b:UInt8)(x y:List UInt8):ltB (a :: x) (b :: y)=(decide (a<b) || (a == b && ltB x y)):=rfl
theorem jfp:∀ {a b c:List UInt8},ltB a b=true→ltB b c=true→ltB a c=true
 | _,[],_,h,_=>by rw[jil]at h;cases h
 | _,_ :: _,[],_,h=>by rw[jil]at h;cases h
 | [],_ :: _,_ :: _,_,_=>rfl
 | a :: x,b :: y,c :: z,h,k=>by
  rw[jfD]at h k ⊢
  simp only[Bool.or_eq_true,decide_eq_true_eq,Bool.and_eq_true,beq_iff_eq]at h k ⊢
  rcases h with h | ⟨rfl,h⟩
  ·rcases k with k | ⟨rfl,_⟩
   ·exact .inl (UInt8.lt_trans h k)
   ·exact .inl h
  ·rcases k with k | ⟨rfl,k⟩
   ·exact .inl k
   ·exact .inr ⟨rfl,jfp h k⟩
theorem jjD:∀a b:List UInt8,decide (Lib.compareBytes a b<0)=ltB a b
 | [],[]=>rfl
 | [],_ :: _=>rfl
 | _ :: _,[]=>rfl
 | a :: x,b :: y=>by
  rw[jfD,Lib.compareBytes]
  by_cases h:a<b
  ·simp[h]
  ·by_cases k:b<a
   ·have e:a≠b:=fun e=>by subst e;exact h k
    simp[h,k,e]
   ·obtain rfl:a=b:=UInt8.le_antisymm (UInt8.not_lt.1 k) (UInt8.not_lt.1 h)
    simp[h,jjD x y]
theorem jmu:∀a b:List UInt8,decide (0<Lib.compareBytes a b)=ltB b a
 | [],[]=>rfl
 | [],_ :: _=>rfl
 | _ :: _,[]=>rfl
 | a :: x,b :: y=>by
  rw[jfD,Lib.compareBytes]
  by_cases h:a<b
  ·have k:¬b<a:=fun k=>UInt8.lt_irrefl a (UInt8.lt_trans h k)
   have e:b≠a:=fun e=>by subst e;exact UInt8.lt_irrefl _ h
   simp[h,k,e]
  ·by_cases k:b<a
   ·simp[h,k]
   ·obtain rfl:a=b:=UInt8.le_antisymm (UInt8.not_lt.1 k) (UInt8.not_lt.1 h)
    simp[h,jmu x y]
theorem cmp_ge(a b:List UInt8):decide (0≤Lib.compareBytes a b)=!ltB a b:=by rw[←jjD];by_cases h:Lib.compareBytes a b<0 <;> simp[h] <;> omega
/-! ### the program's words -/
def jeZ{α:Type}(P:α→Bool)(l:List α):Int:=match l.findIdx? P with
 | some i=>(i:Int)
 | none=>-1
theorem jnc{α:Type}{P:α→Bool}{l:List α}(k:Nat)(h:k<l.length)(hn:∀j,j<k→∀x,l[j]?=some x→P x=false)(hp:P l[k]=true):jeZ P l=(k:Int):=by
 have:l.findIdx? P=some k:=by
  rw[List.findIdx?_eq_some_iff_getElem]
  exact⟨h,hp,fun j hj=>by simp[hn j hj _ (List.getElem?_eq_getElem (by omega))]⟩
 unfold jeZ;rw[this]
theorem jkB{α:Type}{P:α→Bool}{l:List α}(hn:∀j,j<l.length→∀x,l[j]?=some x→P x=false):jeZ P l=-1:=by
 have:l.findIdx? P=none:=by
  rw[List.findIdx?_eq_none_iff]
  intro x hx
  obtain⟨j,hj,rfl⟩:=List.mem_iff_getElem.1 hx
  exact hn j hj _ (List.getElem?_eq_getElem hj)
 unfold jeZ;rw[this]
def rNoneYet{α:Type}(P:α→Bool)(l:List α)(k:Nat):Prop:=∀j,j<k→∀x,l[j]?=some x→P x=false
theorem rNoneYet.succ{α:Type}{P:α→Bool}{l:List α}{k:Nat}(h:rNoneYet P l k)(hk:k<l.length)(hp:P l[k]=false):rNoneYet P l (k+1):=fun j hj x hx=>by
 by_cases e:j=k
 ·subst e;rw[List.getElem?_eq_getElem hk]at hx;cases hx;exact hp
 ·exact h j (by omega) x hx
abbrev isG(g:Int):GOwner→Bool:=fun o=>decide (o.fGroup=g)
def jhD(g:Int)(l:List GOwner):Option Nat:=l.findIdx? (isG g)
def jb2(g:Int)(l:List GOwner):Int:=jeZ (isG g) l
theorem jcL(g:Int)(l:List GOwner):(jhD g l=none∧jb2 g l=-1∧∀x∈l,x.fGroup≠g)∨∃(k:Nat) (h:k<l.length),jhD g l=some k∧jb2 g l=(k:Int)∧l[k].fGroup=g∧∀j (hj:j<k),(l[j]'(by omega)).fGroup≠g:=by
 unfold jb2 jeZ jhD
 cases hf:l.findIdx? (isG g)with
 | none=>
  exact .inl ⟨rfl,rfl,fun x hx=>by
   have:=List.findIdx?_eq_none_iff.1 hf x hx;simpa using this⟩
 | some k=>
  obtain⟨h,h1,h2⟩:=List.findIdx?_eq_some_iff_getElem.1 hf
  exact .inr ⟨k,h,rfl,rfl,by simpa using h1,fun j hj=>by have:=h2 j hj;simpa using this⟩
def ja8(l:List GOwner)(k:Nat):List UInt8:=match l[k]? with
 | some o=>o.fFrom
 | none=>[121]
theorem jcF{l:List GOwner}{k:Nat}(h:k<l.length):ja8 l k=l[k].fFrom:=by unfold ja8;rw[List.getElem?_eq_getElem h]
theorem ji4{l:List GOwner}{k:Nat}(h:l.length≤k):ja8 l k=[121]:=by unfold ja8;rw[List.getElem?_eq_none h]
def jjp(l:List GOwner)(k:Nat):GSpan:=⟨ja8 l k,ja8 l (k+1)⟩
def jdF(l:List GOwner)(g:Int):GSpan:=match jhD g l with
 | some k=>jjp l k
 | none=>⟨[],[]⟩
section
theorem jkD(w:World)(e sz base:Nat)(hb:base≤w.heap.size):(w.alloc (.cells #[] e)).ownsRow base e sz (.slice (some ⟨w.heap.size,0,none⟩) 0 0) 0 []:=by
 refine⟨by simp,.inr ⟨w.heap.size,0,#[],rfl,hb,heap_alloc_new _ _,Nat.le_refl _,Nat.zero_le _,by simp,by simp⟩⟩
theorem jlQ{P:Program}{t e n bytes:Nat}(S:SliceT P t e n bytes)(w:World):(Instr.buildSlice t 0 #[]).run P w=.ok (.slice (some ⟨w.heap.size,0,none⟩) 0 0) (w.alloc (.cells #[] e)):=by
 obtain⟨i,z,hi,hz,hsz,hby,hzs⟩:=S.info
 unfold Instr.buildSlice
 simp[run_underlying S.under,sizeOf,typeInfo,hi,newRow,newObj,Instr.fill]
 have e:∀f:Nat→Value,Array.map f (Array.range 0)=#[]:=fun f=>by apply Array.eq_empty_of_size_eq_zero;simp
 rw[e]
 rfl
theorem cl_c{p:Nat→Prop}(a:Option Addr)(n cap:Nat)(l:List UInt8)(w:World)(hn:l.length=n)(ha:Lies w p a (l.map bv))(hr:n≤140737488355328) :
  Calls Tryz.prog 80 #[.slice a n cap] w fun e w'=>∃a' cap',e=.returned (.slice a' n cap')∧w'.ownsRow w.heap.size 5 1 (.slice a' n cap') n (l.map bv)∧Keep Nix w w':=by
 subst hn
 cases a with
 | none=>
  obtain rfl:l=[]:=by
   by_cases h:l.map bv=[]
   ·simpa using h
   ·obtain⟨b,off,hb,-⟩:=ha h;cases hb
  have hnil:=fun(w':World) (n c:Nat)=>Lib.run_eql_slice_nil (P:=Tryz.prog) w' 30 5 none n c 0 0 Tryz.underlying30
  clear ha
  go_enter Tryz.func80,Tryz.ntmps80
  go_wp2_with fail
  go_ret
  exact⟨none,0,rfl,World.ownsRow_nil _ _ _ _,Keep.refl _ _⟩
 | some ad=>
  have hnil:=fun(w':World)=>Lib.run_eql_slice_nil (P:=Tryz.prog) w' 30 5 (some ad) l.length cap 0 0 Tryz.underlying30
  have hl0:=fun w'=>jlQ T_bytes w'
  have own0:=jkD w 5 1 w.heap.size (Nat.le_refl _)
  have lies2:=ha.keep ((Keep.refl Nix w).alloc (.cells #[] 5)) (fun _ _ h=>h)
  have hsz:w.heap.size≤(w.alloc (.cells #[] 5)).heap.size:=by simp
  clear ha
  go_enter Tryz.func80,Tryz.ntmps80
  go_wp2_with (at_builtin;refine jcy T_bytes rfl (.tmp 5) (.tmp 6) rfl w.heap.size rfl own0 (l.map bv) rfl (by simp) lies2 (jdW l) ?c1 ?c2 hsz ?_)
  case c1=>unfold maxLen;omega
  case c2=>omega
  intro a' cap' w2 own2 hg
  have kk:Keep Nix w w2:=((Keep.refl Nix w).alloc (.cells #[] 5)).grown hg (fun k hk hlt=>by simp[Value.ownBlock]at hk;omega)
  (try rw[Nat.zero_add,List.nil_append]at own2)
  clear own0 hg lies2
  go_wp2
  go_ret
  exact⟨a',cap',by simp,own2,kk⟩
theorem jot{w:World}{base base' e sz n:Nat}{v:Value}{xs:List Value}(h:w.ownsRow base e sz v n xs)(hb:base'≤base):w.ownsRow base' e sz v n xs:=
 ⟨h.1,h.2.imp id fun⟨g,cap,cur,e,h1,r⟩=>⟨g,cap,cur,e,Nat.le_trans hb h1,r⟩⟩
theorem jds{P:Program}{T n:Nat}{zs cs:List Value}(S:StructT P T n)(w:World)(hz:zs.length=n)(hc:cs.length=n)(ho:ones cs=true) :
  (jbm T (.pointer (some ⟨w.heap.size,0,none⟩)) (.agg cs.toArray)).run P (w.alloc (.cells zs.toArray T))=.ok .skip ((w.alloc (.cells zs.toArray T)).setRow w.heap.size cs.toArray)∧
   RowIs ((w.alloc (.cells zs.toArray T)).setRow w.heap.size cs.toArray) w.heap.size T cs∧Keep Nix w ((w.alloc (.cells zs.toArray T)).setRow w.heap.size cs.toArray):=by
 have r0:RowIs (w.alloc (.cells zs.toArray T)) w.heap.size T zs:=by have:=RowIs.alloc w zs.toArray T;simpa using this
 exact⟨jaf S r0 hz hc ho,r0.setRow cs,((Keep.refl Nix w).alloc _).setRow (fun h=>absurd h (Nat.lt_irrefl _)) _⟩
theorem Whole.run{P:Program}{w:World}{T T' n b:Nat}{cs:List Value}(S:StructT P T n)(hn:cs.length=n)(h:RowIs w b T' cs):(ja1 T (.pointer (some ⟨b,0,none⟩))).run P w=.ok (.value (.agg cs.toArray)) w:=Whole.row S hn h
def RetB(w:World)(l:List UInt8)(e:Ending)(w':World):Prop:=∃(a:Option Addr) (cap:Nat),e=.returned (.slice a l.length cap)∧(Lies w' (jai w w') a (l.map bv)∧l.length≤cap∧l.length≤far)∧Keep Nix w w'
theorem RetB.of_own{w w':World}{l:List UInt8}{a:Option Addr}{cap:Nat}(h:w'.ownsRow w.heap.size 5 1 (.slice a l.length cap) l.length (l.map bv))(hf:l.length≤far)(k:Keep Nix w w'):RetB w l (.returned (.slice a l.length cap)) w':=by
 refine⟨a,cap,rfl,⟨?_,(jbu h).2.1,hf⟩,k⟩
 intro hx
 obtain⟨b,off,h1,h2,h3,h4⟩:=Lies.of_owned h hx
 exact⟨b,off,h1,⟨h2.1,h3⟩,h3,h4⟩
theorem jhs{p:Nat→Prop}(a:Option Addr)(cap:Nat)(l:List UInt8)(w:World)(ha:Lies w p a (l.map bv)∧l.length≤cap∧l.length≤far):Calls Tryz.prog 80 #[.slice a l.length cap] w (RetB w l):=
 (cl_c a l.length cap l w rfl ha.1 (by have:=far_len;have:=ha.2.2;omega)).mono fun e w' ⟨a',cap',h,own,k⟩=>by rw[h];exact RetB.of_own own ha.2.2 k
section
attribute [local go_sem ↓] jmG
theorem jmB{p:Nat→Prop}(a:Option Addr)(n cap:Nat)(l:List GOwner)(fv:FuncId)(u:Value)(P:GOwner→Bool)(w:World)(hl:jap jbv w p [.slice a n cap] l)
  (hE:∀args w,(callFunc fv args).run Tryz.prog w=.ok (.enter fv args) w) (hF:(∀(w':World) (x:GOwner) (cs:List Value),Keep Nix w w'→x∈l→jbv w' p cs x→Calls Tryz.prog fv #[.agg cs.toArray,u] w' fun e w''=>e=.returned (.bool (P x))∧Keep Nix w' w'')) :
  Calls Tryz.prog 169 #[.slice a n cap,.func (.func fv) #[] #[u]] w fun e w'=>e=.returned (.int .i64 (jeZ P l))∧Keep Nix w w':=by
 obtain⟨rfl,-,hf⟩:=ja0 hl
 have hfar:l.length≤9223372036854775807:=by have:=far_len;unfold maxLen at this;omega
 have HF:=Lib.hid hF
 clear hf hF
 go_enter Tryz.func169,Tryz.ntmps169
 go_wp2_with fail
 go_loopw [8] (fun i wr=>∃k:Nat,k≤l.length∧i=.int .i64 k∧Hid (rNoneYet P l k)∧Keep Nix w wr) (fun i _=>l.length - (intOf i).toNat)
 case atStart=>exact⟨0,by omega,rfl,fun j hj=>by omega,Keep.refl _ _⟩
 case round=>
  obtain⟨k,hk,rfl,hg,kk⟩:=hrel
  by_cases hlt:k<l.length
  ·have hi0:(0:Int)≤(k:Int):=by omega
   have hi1:(k:Int)<(l.length:Int):=by omega
   have HM:Hid (l[k]∈l):=List.getElem_mem hlt
   have HA:=Lib.hid (jnc (P:=P) k hlt hg.out)
   have HS:=Lib.hid (hg.out.succ (P:=P) hlt)
   obtain⟨b,o,c,cs,e1,-,hb,r,hc⟩:=jaY rGOwner_lawful (by decide) ((jac rGOwner_lawful).nix hl kk) k hlt
   simp only[List.cons.injEq,Value.slice.injEq,and_true]at e1
   obtain⟨rfl,-,-⟩:=e1
   have ld:=Whole.at (P:=Tryz.prog) S_Owner (rGOwner_lawful.len r) hc
   unfold Whole at ld
   clear hl hc
   generalize l[k]=x at HM HA HS r
   have hcall:=HF.out wr x cs kk HM.out r
   clear r
   rcases hP:P x with _ | _
   ·rw[hP]at hcall
    have HP:=Lib.hid hP
    have HC:=Lib.hid hcall
    clear hP hcall
    go_wp2_with fail
    go_fit HC.out
    clear HC
    rintro e w2 ⟨rfl,k2⟩
    replace kk:=kk.trans k2
    clear k2
    go_wp2_with fail
    go_roundw
    case rel=>exact⟨k+1,by omega,by go_num,HS.out HP.out,kk⟩
    case measure=>simp[intOf];omega
   ·rw[hP]at hcall
    have HP:=Lib.hid hP
    have HC:=Lib.hid hcall
    clear hP hcall
    go_wp2_with fail
    go_fit HC.out
    clear HC
    rintro e w2 ⟨rfl,k2⟩
    replace kk:=kk.trans k2
    clear k2
    go_wp2_with fail
    go_ret
    exact⟨jb9 (HA.out HP.out).symm,kk⟩
  ·obtain rfl:k=l.length:=by omega
   have HN:=Lib.hid (jkB (P:=P) hg.out)
   go_wp2_with fail
   go_ret
   exact⟨jb9 HN.out.symm,kk⟩
end
theorem joy{p:Nat→Prop}(x:GOwner)(cs:List Value)(b:Nat)(y:Int)(w:World)(hx:jbv w p cs x)(hb:b<w.heap.size)(hc:w.cell? ⟨b,0,none⟩=some (.int .i64 y)) :
  Calls Tryz.prog 170 #[.agg cs.toArray,.pointer (some ⟨b,0,none⟩)] w fun e w'=>e=.returned (.bool (isG y x))∧Keep Nix w w':=by
 obtain⟨aF,cF,rfl,-⟩:=jca hx
 have kk:Keep Nix w (w.alloc (.cells #[.int .i64 x.fGroup,.slice aF x.fFrom.length cF] 97)):=(Keep.refl Nix w).alloc _
 have hc':(w.alloc (.cells #[.int .i64 x.fGroup,.slice aF x.fFrom.length cF] 97)).cell? ⟨b,0,none⟩=some (.int .i64 y):=(kk.cell (p:=⟨b,0,none⟩) hb id).trans hc
 clear hx hc
 go_enter Tryz.func170,Tryz.ntmps170
 go_wp2
 go_ret
 exact⟨jam (by rw[Bool.eq_iff_iff];simp),kk⟩
theorem jdo{p:Nat→Prop}(r:GRoutes)(csr:List Value)(g:Int)(w:World)(hr:jaz w p csr r) :
  Calls Tryz.prog 113 #[.agg csr.toArray,.int .i64 g] w fun e w'=>e=.returned (.int .i64 (jb2 g r.fSpans))∧Keep Nix w w':=by
 obtain⟨aS,cS,aC,cC,rfl,hE,hB,hS,hM,hC,-⟩:=jav hr
 have kk:Keep Nix w ((w.alloc (.cells #[.int .i64 r.fEpoch,.int .i64 r.fBase,.slice aS r.fSpans.length cS,.int .i64 r.fMoving,.slice aC r.fCut.length cC] 53)).alloc (.cells #[.int .i64 g] 3)):=((Keep.refl Nix w).alloc _).alloc _
 have row0:RowIs ((w.alloc (.cells #[.int .i64 r.fEpoch,.int .i64 r.fBase,.slice aS r.fSpans.length cS,.int .i64 r.fMoving,.slice aC r.fCut.length cC] 53)).alloc (.cells #[.int .i64 g] 3)) w.heap.size 53 [.int .i64 r.fEpoch,.int .i64 r.fBase,.slice aS r.fSpans.length cS,.int .i64 r.fMoving,.slice aC r.fCut.length cC]:=(RowIs.alloc w _ _).keep ((Keep.refl Nix _).alloc _) id
 have row1:RowIs ((w.alloc (.cells #[.int .i64 r.fEpoch,.int .i64 r.fBase,.slice aS r.fSpans.length cS,.int .i64 r.fMoving,.slice aC r.fCut.length cC] 53)).alloc (.cells #[.int .i64 g] 3)) (w.alloc (.cells #[.int .i64 r.fEpoch,.int .i64 r.fBase,.slice aS r.fSpans.length cS,.int .i64 r.fMoving,.slice aC r.fCut.length cC] 53)).heap.size 3 [.int .i64 g]:=RowIs.alloc _ _ _
 have hsz:(w.alloc (.cells #[.int .i64 r.fEpoch,.int .i64 r.fBase,.slice aS r.fSpans.length cS,.int .i64 r.fMoving,.slice aC r.fCut.length cC] 53)).heap.size=w.heap.size+1:=by simp
 rw[hsz]at row1
 have hS1:=(jac rGOwner_lawful).nix hS kk
 have hcall:=jmB aS r.fSpans.length cS r.fSpans 170 (.pointer (some ⟨w.heap.size+1,0,none⟩)) (isG g) ((w.alloc (.cells #[.int .i64 r.fEpoch,.int .i64 r.fBase,.slice aS r.fSpans.length cS,.int .i64 r.fMoving,.slice aC r.fCut.length cC] 53)).alloc (.cells #[.int .i64 g] 3)) hS1 (fun args w=>by rfl) (fun w' x cs k hx rx=>by
  have row:=row1.keep k id
  exact joy x cs _ g w' rx row.lt (row.cell 0))
 have HC:=Lib.hid hcall
 have x2:=row0.cell 2
 (try simp only[List.getElem?_cons_succ]at x2);(try simp only[List.getElem?_cons_zero]at x2)
 clear hcall hE hB hS hM hC hr hS1 row0 row1 hsz
 go_enter Tryz.func113,Tryz.ntmps113
 go_wp2_with fail
 go_fit HC.out
 rintro e w1 ⟨rfl,k1⟩
 go_wp2
 go_ret
 exact⟨rfl,kk.trans k1⟩
def RetS(w:World)(s:GSpan)(e:Ending)(w':World):Prop:=∃cs:List Value,e=.returned (.agg cs.toArray)∧jdH w' (jai w w') cs s∧Keep Nix w w'
end
def LB(w:World)(s:Nat→Prop)(a:Option Addr)(cap:Nat)(l:List UInt8):Prop:=Lies w s a (l.map bv)∧l.length≤cap∧l.length≤far
theorem LB.mono{w:World}{s s':Nat→Prop}{a:Option Addr}{cap:Nat}{l:List UInt8}(h:LB w s a cap l)(hs:∀i,s i→s' i):LB w s' a cap l:=
 ⟨fun hx=>by obtain⟨b,off,h1,h2,h3⟩:=h.1 hx;exact⟨b,off,h1,hs b h2,h3⟩,h.2⟩
theorem LB.keep{w w':World}{s:Nat→Prop}{a:Option Addr}{cap:Nat}{l:List UInt8}(h:LB w s a cap l)(k:Keep Nix w w'):LB w' s a cap l:=⟨h.1.keep k (fun _ _ h=>h),h.2⟩
theorem mkS{w:World}{p:Nat→Prop}{a b:Option Addr}{c d:Nat}{f t:List UInt8}(h1:LB w p a c f)(h2:LB w p b d t):jdH w p [.slice a f.length c,.slice b t.length d] ⟨f,t⟩:=jmX (x:=⟨f,t⟩) w p h1 h2
theorem LB.nil0(w:World)(p:Nat→Prop):LB w p none 0 []:=⟨fun h=>absurd rfl h,Nat.zero_le _,Nat.zero_le _⟩
theorem mkS0(w:World)(p:Nat→Prop):jdH w p [.slice none 0 0,.slice none 0 0] ⟨[],[]⟩:=mkS (LB.nil0 w p) (LB.nil0 w p)
theorem jlo{l:List UInt8}(h:l≠[]):(0:Int)<(l.length:Int):=by
 cases l with
 | nil=>
  exact absurd rfl h
 | cons _ _=>
  simp
theorem len0{l:List UInt8}(h:l=[]):((l.length:Int) == 0)=true:=by rw[h];rfl
theorem len1{l:List UInt8}(h:l≠[]):((l.length:Int) == 0)=false:=by
 cases l with
 | nil=>
  exact absurd rfl h
 | cons _ _=>
  simp only[List.length_cons,beq_eq_false_iff_ne];omega
theorem pos0{l:List UInt8}(h:l=[]):(l.length:Int)≤0:=by rw[h];exact Int.le_refl _
theorem pos1{l:List UInt8}(h:l≠[]):(0:Int)<(l.length:Int):=jlo h
theorem LB.row{w:World}{b:Nat}{c:UInt8}(h:RowIs w b 5 [.int .u8 (c.toNat:Int)])(p:Nat→Prop)(hp:p b):LB w p (some ⟨b,0,none⟩) 1 [c]:=
 ⟨h.lies p hp (fun j u hu=>by rw[Nat.zero_add];exact hu),Nat.le_refl _,by show 1≤far;decide⟩
theorem LB.to{w w':World}{s s' S:Nat→Prop}{a:Option Addr}{cap:Nat}{l:List UInt8}(h:LB w s a cap l)(k:Keep S w w')(h1:∀b,s b→¬S b)(h2:∀b,s b→s' b):LB w' s' a cap l:=⟨(h.1.keep k h1).mono h2,h.2⟩
section
section
attribute [local go_sem ↓] jbC
theorem joZ{p:Nat→Prop}(r:GRoutes)(csr:List Value)(g:Int)(w:World)(hr:jaz w p csr r) :
  Calls Tryz.prog 139 #[.agg csr.toArray,.int .i64 g] w (RetS w (jdF r.fSpans g)):=by
 have HR:=Lib.hid hr
 obtain⟨aS,cS,aC,cC,rfl,hE,hB,hS,hM,hC,-⟩:=jav hr
 have mS:r.fSpans.length≤140737488351232:=by have:=(ja0 hS).2.2;have:=far_len;omega
 have row0:RowIs ((w.alloc (.cells #[.int .i64 r.fEpoch,.int .i64 r.fBase,.slice aS r.fSpans.length cS,.int .i64 r.fMoving,.slice aC r.fCut.length cC] 53)).alloc (.cells #[.slice none 0 0,.slice none 0 0] 32)) w.heap.size 53 [.int .i64 r.fEpoch,.int .i64 r.fBase,.slice aS r.fSpans.length cS,.int .i64 r.fMoving,.slice aC r.fCut.length cC]:=(RowIs.alloc w _ _).keep ((Keep.refl Nix _).alloc _) id
 have rowR:=RowIs.alloc (w.alloc (.cells #[.int .i64 r.fEpoch,.int .i64 r.fBase,.slice aS r.fSpans.length cS,.int .i64 r.fMoving,.slice aC r.fCut.length cC] 53)) #[.slice none 0 0,.slice none 0 0] 32
 have kk:Keep Nix w ((w.alloc (.cells #[.int .i64 r.fEpoch,.int .i64 r.fBase,.slice aS r.fSpans.length cS,.int .i64 r.fMoving,.slice aC r.fCut.length cC] 53)).alloc (.cells #[.slice none 0 0,.slice none 0 0] 32)):=((Keep.refl Nix w).alloc _).alloc _
 have hsz:(w.alloc (.cells #[.int .i64 r.fEpoch,.int .i64 r.fBase,.slice aS r.fSpans.length cS,.int .i64 r.fMoving,.slice aC r.fCut.length cC] 53)).heap.size=w.heap.size+1:=by simp
 rw[hsz]at rowR
 have hinfo:(Tryz.prog.info? 32).map (·.size)=some 2:=by kernel_rfl
 have HS:=Lib.hid hS
 clear hr hE hB hM hC hsz hS
 go_enter Tryz.func139,Tryz.ntmps139
 go_upto_region 1 with fail
 generalize ((w.alloc (.cells #[.int .i64 r.fEpoch,.int .i64 r.fBase,.slice aS r.fSpans.length cS,.int .i64 r.fMoving,.slice aC r.fCut.length cC] 53)).alloc (.cells #[.slice none 0 0,.slice none 0 0] 32))=w1 at *
 generalize hbs:w.heap.size=bs at *
 have ldR:=Whole.run (P:=Tryz.prog) S_Routes rfl row0
 go_wp2_with fail
 go_fit (jdo r [.int .i64 r.fEpoch,.int .i64 r.fBase,.slice aS r.fSpans.length cS,.int .i64 r.fMoving,.slice aC r.fCut.length cC] g w1 (rGRoutes_lawful.nix HR.out kk))
 rintro e w2 ⟨rfl,k2⟩
 replace row0:=row0.keep k2 id
 replace rowR:=rowR.keep k2 id
 replace kk:=kk.trans k2
 clear ldR k2 HR
 clear w1
 rename World=>w1
 rcases jcL g r.fSpans with⟨ho,hi,-⟩ | ⟨k,hk,ho,hi,-⟩
 ·rw[hi]
  have q0:=rowR.cell 0
  (try simp only[List.getElem?_cons_zero]at q0)
  have q1:=rowR.cell 1
  (try simp only[List.getElem?_cons_succ]at q1);(try simp only[List.getElem?_cons_zero]at q1)
  have h0:=rowR.frozen 0
  have h1:=rowR.frozen 1
  have rowF:=(rowR.set 0 (.slice none 0 0)).set 1 (.slice none 0 0)
  have kS:Keep (·=bs+1) w1 ((w1.setCell ⟨bs+1,0,none⟩ (.slice none 0 0)).setCell ⟨bs+1,1,none⟩ (.slice none 0 0)):=((Keep.refl (·=bs+1) w1).setCell (fun _=>rfl) _).setCell (fun _=>rfl) _
  have k5:=kk.then kS (fun i hi e=>by omega)
  clear row0 rowR kS kk
  go_wp2_with fail
  refine bodyPost_ret (results_cell_row (by rfl) _ _ _ _ _ _ _ (by rfl) rowF Tryz.underlying32 (by rfl) hinfo) rfl ?_
  refine⟨_,rfl,?_,k5⟩
  unfold jdF
  rw[ho]
  exact mkS0 _ _
 ·rw[hi]
  have HO:Hid (jdF r.fSpans g=jjp r.fSpans k):=by show _=_;unfold jdF;rw[ho]
  clear ho hi
  have hS1:=(jac rGOwner_lawful).nix HS.out kk
  obtain⟨b1,o1,_,_,e1,-,hbx,xr,xc⟩:=jaY rGOwner_lawful (by decide) hS1 k hk
  simp only[List.cons.injEq,Value.slice.injEq,and_true]at e1
  obtain⟨rfl,-,-⟩:=e1
  have xf:=jcF hk
  obtain⟨aF,cF,rfl,-,hF,-⟩:=jca xr
  have x1:=xc 1 _ rfl
  rw[←xf]at x1 hF
  have y2:=row0.cell 2
  (try simp only[List.getElem?_cons_succ]at y2);(try simp only[List.getElem?_cons_zero]at y2)
  have hk0:(0:Int)≤(k:Int):=by omega
  have hk1:(k:Int)<(r.fSpans.length:Int):=by omega
  clear xr xc hS1 xf
  go_wp2_with fail
  go_fit (jhs aF cF (ja8 r.fSpans k) w1 hF)
  rintro e w2 ⟨a1,c1,rfl,L1,k2⟩
  have hs0:=rowR.lt
  have hs1:=kk.size
  have hs2:=k2.size
  have L1:LB w2 (jai w1 w2) a1 c1 (ja8 r.fSpans k):=L1
  have k3:Keep Nix w2 ((w2.alloc (.cells #[.int .u8 121] 5)).alloc (.cells #[.slice a1 (ja8 r.fSpans k).length c1,.slice (some ⟨w2.heap.size,0,none⟩) 1 1] 32)):=((Keep.refl Nix w2).alloc _).alloc _
  have rowB:RowIs ((w2.alloc (.cells #[.int .u8 121] 5)).alloc (.cells #[.slice a1 (ja8 r.fSpans k).length c1,.slice (some ⟨w2.heap.size,0,none⟩) 1 1] 32)) w2.heap.size 5 [.int .u8 121]:=(RowIs.alloc w2 _ _).keep ((Keep.refl Nix _).alloc _) id
  have rowT:=RowIs.alloc (w2.alloc (.cells #[.int .u8 121] 5)) #[.slice a1 (ja8 r.fSpans k).length c1,.slice (some ⟨w2.heap.size,0,none⟩) 1 1] 32
  have hsz:(w2.alloc (.cells #[.int .u8 121] 5)).heap.size=w2.heap.size+1:=by simp
  rw[hsz]at rowT
  replace row0:=(row0.keep k2 id).keep k3 id
  replace rowR:=(rowR.keep k2 id).keep k3 id
  replace kk:=(kk.trans k2).trans k3
  have hs3:((w2.alloc (.cells #[.int .u8 121] 5)).alloc (.cells #[.slice a1 (ja8 r.fSpans k).length c1,.slice (some ⟨w2.heap.size,0,none⟩) 1 1] 32)).heap.size=w2.heap.size+1+1:=by simp
  replace L1:LB ((w2.alloc (.cells #[.int .u8 121] 5)).alloc (.cells #[.slice a1 (ja8 r.fSpans k).length c1,.slice (some ⟨w2.heap.size,0,none⟩) 1 1] 32)) (fun b=>bs+1<b∧b<w2.heap.size) a1 c1 (ja8 r.fSpans k):=L1.to k3 (fun _ _ h=>h) (fun b h=>⟨by have:=h.1;omega,by have:=h.2;omega⟩)
  have LE:LB ((w2.alloc (.cells #[.int .u8 121] 5)).alloc (.cells #[.slice a1 (ja8 r.fSpans k).length c1,.slice (some ⟨w2.heap.size,0,none⟩) 1 1] 32)) (·=w2.heap.size) (some ⟨w2.heap.size,0,none⟩) 1 [121]:=LB.row (c:=121) rowB _ rfl
  clear x1 y2 k2 k3 hsz rowB
  have y2:=row0.cell 2
  (try simp only[List.getElem?_cons_succ]at y2);(try simp only[List.getElem?_cons_zero]at y2)
  go_upto_if 27 with fail
  generalize ((w2.alloc (.cells #[.int .u8 121] 5)).alloc (.cells #[.slice a1 (ja8 r.fSpans k).length c1,.slice (some ⟨w2.heap.size,0,none⟩) 1 1] 32))=w3 at *
  generalize hb2:w2.heap.size=b2 at *
  have t0:=rowT.cell 0
  (try simp only[List.getElem?_cons_zero]at t0)
  have t1:=rowT.cell 1
  (try simp only[List.getElem?_cons_succ]at t1);(try simp only[List.getElem?_cons_zero]at t1)
  have g1:=rowT.frozen 1
  have q0:=rowR.cell 0
  (try simp only[List.getElem?_cons_zero]at q0)
  have q1:=rowR.cell 1
  (try simp only[List.getElem?_cons_succ]at q1);(try simp only[List.getElem?_cons_zero]at q1)
  have h0:=rowR.frozen 0
  have h1:=rowR.frozen 1
  rcases Nat.lt_or_ge (k+1) r.fSpans.length with hlt | hge
  ·have hk2:(k:Int)+1<(r.fSpans.length:Int):=by omega
   have hS3:=(jac rGOwner_lawful).nix HS.out kk
   obtain⟨b3,o3,_,_,e1,-,hbz,zr,zc⟩:=jaY rGOwner_lawful (by decide) hS3 (k+1) hlt
   simp only[List.cons.injEq,Value.slice.injEq,Option.some.injEq,Addr.mk.injEq,and_true]at e1
   obtain⟨⟨rfl,rfl⟩,-⟩:=e1
   have zf:=jcF hlt
   obtain⟨aG,cG,rfl,-,hG,-⟩:=jca zr
   have x1:=zc 1 _ rfl
   rw[←zf]at x1 hG
   have hix:(((k:Int)+1).toNat)=k+1:=by omega
   clear zr zc hS3 zf t0 t1 g1 q0 q1 h0 h1
   go_wp2_with fail
   go_fit (jhs aG cG (ja8 r.fSpans (k+1)) w3 hG)
   rintro e w4 ⟨a2,c2,rfl,L2,k4⟩
   have L2:LB w4 (jai w3 w4) a2 c2 (ja8 r.fSpans (k+1)):=L2
   have hs4:=k4.size
   replace rowR:=rowR.keep k4 id
   replace rowT:=rowT.keep k4 id
   replace kk:=kk.trans k4
   have t0:=rowT.cell 0
   (try simp only[List.getElem?_cons_zero]at t0)
   have t1:=rowT.cell 1
   (try simp only[List.getElem?_cons_succ]at t1);(try simp only[List.getElem?_cons_zero]at t1)
   have g1:=rowT.frozen 1
   have q0:=rowR.cell 0
   (try simp only[List.getElem?_cons_zero]at q0)
   have q1:=rowR.cell 1
   (try simp only[List.getElem?_cons_succ]at q1);(try simp only[List.getElem?_cons_zero]at q1)
   have h0:=rowR.frozen 0
   have h1:=rowR.frozen 1
   have kA:Keep (·=b2+1) w4 (w4.setCell ⟨b2+1,1,none⟩ (.slice a2 (ja8 r.fSpans (k+1)).length c2)):=(Keep.refl (·=b2+1) w4).setCell (p:=⟨b2+1,1,none⟩) (fun _=>rfl) _
   have kB:Keep (·=bs+1) (w4.setCell ⟨b2+1,1,none⟩ (.slice a2 (ja8 r.fSpans (k+1)).length c2)) (((w4.setCell ⟨b2+1,1,none⟩ (.slice a2 (ja8 r.fSpans (k+1)).length c2)).setCell ⟨bs+1,0,none⟩ (.slice a1 (ja8 r.fSpans k).length c1)).setCell ⟨bs+1,1,none⟩ (.slice a2 (ja8 r.fSpans (k+1)).length c2)):=((Keep.refl (·=bs+1) _).setCell (p:=⟨bs+1,0,none⟩) (fun _=>rfl) _).setCell (p:=⟨bs+1,1,none⟩) (fun _=>rfl) _
   have rowF:RowIs (((w4.setCell ⟨b2+1,1,none⟩ (.slice a2 (ja8 r.fSpans (k+1)).length c2)).setCell ⟨bs+1,0,none⟩ (.slice a1 (ja8 r.fSpans k).length c1)).setCell ⟨bs+1,1,none⟩ (.slice a2 (ja8 r.fSpans (k+1)).length c2)) (bs+1) 32 [.slice a1 (ja8 r.fSpans k).length c1,.slice a2 (ja8 r.fSpans (k+1)).length c2]:=((rowR.keep kA (by omega)).set 0 _).set 1 _
   have k5:=(kk.then kA (fun i hi e=>by omega)).then kB (fun i hi e=>by omega)
   have hs5:=kA.size
   have hs6:=kB.size
   replace L1:=((L1.keep k4).to (s':=fun b=>bs+1<b∧b<b2) kA (fun b h e=>by omega) (fun b h=>h)).to (s':=jai w (((w4.setCell ⟨b2+1,1,none⟩ (.slice a2 (ja8 r.fSpans (k+1)).length c2)).setCell ⟨bs+1,0,none⟩ (.slice a1 (ja8 r.fSpans k).length c1)).setCell ⟨bs+1,1,none⟩ (.slice a2 (ja8 r.fSpans (k+1)).length c2))) kB (fun b h e=>by omega) (fun b h=>⟨by omega,by omega⟩)
   replace L2:=(L2.to (s':=jai w3 w4) kA (fun b h e=>by have:=h.1;omega) (fun b h=>h)).to (s':=jai w (((w4.setCell ⟨b2+1,1,none⟩ (.slice a2 (ja8 r.fSpans (k+1)).length c2)).setCell ⟨bs+1,0,none⟩ (.slice a1 (ja8 r.fSpans k).length c1)).setCell ⟨bs+1,1,none⟩ (.slice a2 (ja8 r.fSpans (k+1)).length c2))) kB (fun b h e=>by have:=h.1;omega) (fun b h=>⟨by have:=h.1;omega,by have:=h.2;omega⟩)
   clear rowR rowT kA kB kk row0 LE
   go_wp2_with fail
   refine bodyPost_ret (results_cell_row (by rfl) _ _ _ _ _ _ _ (by rfl) rowF Tryz.underlying32 (by rfl) hinfo) rfl ?_
   refine⟨_,rfl,?_,k5⟩
   (try rw[HO.out])
   exact mkS L1 L2
  ·have hk2:(r.fSpans.length:Int)≤(k:Int)+1:=by omega
   have hz:=ji4 hge
   have kB:Keep (·=bs+1) w3 ((w3.setCell ⟨bs+1,0,none⟩ (.slice a1 (ja8 r.fSpans k).length c1)).setCell ⟨bs+1,1,none⟩ (.slice (some ⟨b2,0,none⟩) 1 1)):=((Keep.refl (·=bs+1) _).setCell (p:=⟨bs+1,0,none⟩) (fun _=>rfl) _).setCell (p:=⟨bs+1,1,none⟩) (fun _=>rfl) _
   have rowF:RowIs ((w3.setCell ⟨bs+1,0,none⟩ (.slice a1 (ja8 r.fSpans k).length c1)).setCell ⟨bs+1,1,none⟩ (.slice (some ⟨b2,0,none⟩) 1 1)) (bs+1) 32 [.slice a1 (ja8 r.fSpans k).length c1,.slice (some ⟨b2,0,none⟩) 1 1]:=(rowR.set 0 _).set 1 _
   have k5:=kk.then kB (fun i hi e=>by omega)
   have hs6:=kB.size
   replace L1:=L1.to (s':=jai w ((w3.setCell ⟨bs+1,0,none⟩ (.slice a1 (ja8 r.fSpans k).length c1)).setCell ⟨bs+1,1,none⟩ (.slice (some ⟨b2,0,none⟩) 1 1))) kB (fun b h e=>by omega) (fun b h=>⟨by omega,by omega⟩)
   replace LE:=LE.to (s':=jai w ((w3.setCell ⟨bs+1,0,none⟩ (.slice a1 (ja8 r.fSpans k).length c1)).setCell ⟨bs+1,1,none⟩ (.slice (some ⟨b2,0,none⟩) 1 1))) kB (fun b h e=>by omega) (fun b h=>⟨by omega,by omega⟩)
   clear rowR rowT kB kk row0
   go_wp2_with fail
   refine bodyPost_ret (results_cell_row (by rfl) _ _ _ _ _ _ _ (by rfl) rowF Tryz.underlying32 (by rfl) hinfo) rfl ?_
   refine⟨_,rfl,?_,k5⟩
   (try rw[HO.out])
   unfold jjp
   rw[hz]
   exact mkS L1 LE
end
end
section
theorem jli{p q:Nat→Prop}(a b:Option Addr)(n ca m cb:Nat)(la lb:List UInt8)(w:World)(hn:la.length=n)(hm:lb.length=m)(ha:Lies w p a (la.map bv))(hb:Lies w q b (lb.map bv)) :
  Calls Tryz.prog 51 #[.slice a n ca,.slice b m cb] w fun e w'=>e=.returned (.bool (decide (la=lb)))∧w=w':=by
 have h1:=jdX (P:=Tryz.prog) Tryz.underlying30 Tryz.underlying5 Tryz.underlying9 (cap:=ca) hn ha
 have h2:=jdX (P:=Tryz.prog) Tryz.underlying30 Tryz.underlying5 Tryz.underlying9 (cap:=cb) hm hb
 clear ha hb hn hm
 go_enter Tryz.func51,Tryz.ntmps51
 go_wp2
 go_ret
 exact⟨jam (jes _ _),rfl⟩
section
attribute [local go_sem ↓] jbC
end
end
section
section
attribute [local go_sem ↓] jbC
end
end
end Go.Proofs.YtibaehlfpgipfaaGreat
