/- ROOT: change. Printed by mac.py. -/
import Derived.Test.YtibaehlfpgipfaaGreatQZG15
import Derived.Test.YtibaehlfpgipfaaGreatQZG13
import Derived.Deep.RegionLaw
import Derived.Lib.SliceRun
import Derived.Deep.MidRow
import Derived.Test.YtibaehlfpgipfaaGreatQZG14
namespace Go.Proofs.YtibaehlfpgipfaaGreat
open Go.RowKit
set_option maxRecDepth 100000
set_option maxHeartbeats 4000000
set_option linter.unusedSimpArgs false
section
theorem Keep.mono'{S S':Nat→Prop}{w w':World}(k:Keep S w w')(h:∀i,i<w.heap.size→S i→S' i):Keep S' w w':=(Keep.refl S' w).then k h
section
attribute [local go_sem ↓] jct jcp jbB jcd jgH
theorem jjB(O:Nat→Prop)(g n:Nat)(R:RootS)(ccs cst:List Value)(t:GTable)(p:Nat→Prop)(w:World)(H:IsRoot w O g n R)(hk:ccs[0]?=some (.int .i64 14))(hct:(ccs.drop 13).take 4=cst)(ht:jaG w p cst t)(hp:∀b,p b→b<w.heap.size)(hbig:R.cats.length≤90000)
  (hg:(ja9 (jah R) t).2=0→jb4 (ja9 (jah R) t).1∧(ja9 (jah R) t).1.fVersion=(jah R).fVersion+1) (hye0:jae (ja9 (jah R) t).2) :
  Calls Tryz.prog 25 #[.pointer (some ⟨g,0,none⟩),.agg ccs.toArray] w (RunPost w O g n (jbs R 0 (ja9 (jah R) t))):=by
 have hinfo:(Tryz.prog.info? 55).map (·.size)=some 15:=by kernel_rfl
 have i0:jae 0:=⟨by decide,by decide⟩
 have u0:jaw 0:=⟨by decide,by decide⟩
 have H0:=Lib.hid H.lt
 have hlast:=Lib.hid H.last
 have hlen:=H.ok.len.1
 have hpos:0<R.cats.length:=List.length_pos_iff.2 H.ok.ex
 have kB:=lf0 w ccs
 have row0:=lf1 w ccs
 have rowZ:=lf2 w ccs
 have HZ:=Lib.hid rowZ
 have HR0:=Lib.hid row0
 have HK:=Lib.hid hk
 have hsz:=lf3 w ccs
 have HC:=Lib.hid (jdu O g n R (((w.alloc (.cells ccs.toArray 43))).alloc (.cells #[.int .i64 0,.int .u64 0,.int .i64 0,.bool false,.slice none 0 0,.slice none 0 0,.int .i64 0,.int .i64 0,.slice none 0 0,.slice none 0 0,.int .i64 0,.int .i64 0,.slice none 0 0,.int .i64 0,.slice none 0 0] 55)) (H.nix kB))
 have H2:=Lib.hid (H.nix kB)
 have hmem:jah R∈R.cats:=by
  unfold jah
  rw[List.getLast?_eq_getElem?,List.getElem?_eq_getElem (by omega)]
  exact List.getElem_mem _
 have hsml:=Lib.hid (H.ok.small _ hmem).1
 clear rowZ row0 hk hmem
 go_enter Tryz.func25,Tryz.ntmps25
 go_wp2_with fail
 go_fit HC.out
 rintro e w3 ⟨cn,rfl,rn,k3⟩
 clear HC
 have hs3:=k3.size
 have hcl0:=rGCatalog_lawful.len rn
 have hc1:=jay rn
 obtain⟨hst0,row5,kV⟩:=jds (P:=Tryz.prog) (zs:=[.int .i64 0,.int .i64 0,.slice none 0 0,.slice none 0 0]) S_Catalog w3 rfl hcl0 hc1
 have row0:=(HR0.out.keep k3 id).keep kV id
 have hb5':w.heap.size+2≤w3.heap.size∧w3.heap.size<(((w3.alloc (.cells [.int .i64 0,.int .i64 0,.slice none 0 0,.slice none 0 0].toArray 50)).setRow w3.heap.size cn.toArray).heap.size):=⟨by have:=hsz.out;omega,row5.lt⟩
 have x0:=(row0.cell 0).trans HK.out
 have ld5:=Whole.run (P:=Tryz.prog) S_Catalog hcl0 row5
 have hlt:=rGTable_lawful.len ht
 have ldT:(ja1 39 (.pointer (some ⟨w.heap.size,13,none⟩))).run Tryz.prog ((w3.alloc (.cells [.int .i64 0,.int .i64 0,.slice none 0 0,.slice none 0 0].toArray 50)).setRow w3.heap.size cn.toArray)=.ok (.value (.agg cst.toArray)) ((w3.alloc (.cells [.int .i64 0,.int .i64 0,.slice none 0 0,.slice none 0 0].toArray 50)).setRow w3.heap.size cn.toArray):=Whole.at S_Table hlt (fun j u hu=>by
  rw[row0.cell]
  rw[←hct,List.getElem?_take]at hu
  split at hu
  ·rw[List.getElem?_drop]at hu
   exact hu
  ·cases hu)
 have k4:=(kB.trans k3).trans kV
 have HG:=Lib.hid (jkF (p:=fun b=>b<((w3.alloc (.cells [.int .i64 0,.int .i64 0,.slice none 0 0,.slice none 0 0].toArray 50)).setRow w3.heap.size cn.toArray).heap.size) (jah R) cn t cst _ (rGCatalog_lawful.mono (rGCatalog_lawful.nix rn kV) (fun b hb=>by have:=hb.2;have:=kV.size;omega)) (rGTable_lawful.mono (rGTable_lawful.nix ht k4) (fun b hb=>by have:=hp b hb;have:=k4.size;omega)) hsml.out (by have:=hlast.out;omega) (fun b hb=>hb))
 obtain⟨y,hY⟩:∃y,Hid (ja9 (jah R) t=y):=⟨_,rfl⟩
 rw[hY.out]at HG hg hye0
 have hgood:=Lib.hid hg
 have hye:=Lib.hid hye0
 have HZ:=Lib.hid ((HZ.out.keep k3 id).keep kV id)
 have H4:=Lib.hid ((H2.out.nix k3).nix kV)
 have K4:=Lib.hid k4
 have HROW5:=Lib.hid row5
 have hlen5:=Lib.hid hcl0
 have hb5:=Lib.hid hb5'
 clear row5 row0 rn k3 kV k4 kB H2 hcl0 hc1 hs3 ht hct hlt hp HR0 HK hb5' hg hye0
 go_wp2_with fail
 clear ld5 ldT hst0 x0
 go_fit HG.out
 rintro e w5 ⟨cy,rfl,hcy,hcy1,k5⟩
 clear HG
 generalize (w3.alloc (.cells [.int .i64 0,.int .i64 0,.slice none 0 0,.slice none 0 0].toArray 50)).setRow w3.heap.size cn.toArray=w4 at *
 generalize w3.heap.size=b5 at *
 have hcyl:=rGCatalog_lawful.len hcy
 have row5:=HROW5.out.keep k5 id
 have hst5:=jaf (P:=Tryz.prog) (cs:=cy) S_Catalog row5 hlen5.out hcyl hcy1
 have kT:Keep (·=b5) w5 (w5.setRow b5 cy.toArray):=(Keep.refl (·=b5) w5).setRow (fun _=>rfl) _
 have R5:=Lib.hid (row5.setRow cy)
 have KT:=Lib.hid kT
 have hs5:=k5.size
 have RZ:=Lib.hid ((HZ.out.keep k5 id).keep kT (fun e=>by have:=hb5.out;omega))
 have HY:=Lib.hid (rGCatalog_lawful.keep hcy kT (fun b hb e=>by have:=hb.1;have:=hb5.out;omega))
 have H6:=Lib.hid ((H4.out.nix k5).keep kT (fun b hb e=>by have:=H0.out b hb;have:=hb5.out;omega))
 have K6:=Lib.hid (((K4.out.trans k5).nix (S:=(·=b5))).trans kT)
 have S6:=Lib.hid (show w4.heap.size≤w5.heap.size from hs5)
 have S7:=Lib.hid kT.size
 have HCY:=Lib.hid hcyl
 have HC1:=Lib.hid hcy1
 have HNI:=Lib.hid (show ∀b,jai w4 w5 b→w4.heap.size≤b∧b<w5.heap.size from fun b hb=>⟨hb.1,hb.2⟩)
 clear hcy hcyl hcy1 row5 kT hs5 HROW5 k5
 by_cases hz:y.2=0
 focus
  have hR:Hid (jbs R 0 y=(repG 0 0 y.1.fVersion,addC R y.1)):=if_pos hz
  obtain⟨hsm,hyv⟩:=hgood.out hz
  have hyv2:jae y.1.fVersion:=⟨by have:=hlast.out;omega,by have:=hlast.out;omega⟩
  have HYV:=Lib.hid hyv
  clear hyv
  go_upto_region 14 with fail
  clear hst5
  generalize w5.setRow b5 cy.toArray=w6 at *
  obtain⟨lt,og,ok,bM,aC,cC,aO,cO,aS,cS,aU,cU,cssC,D,B⟩:=H6.out
  have hoC:=Lib.hid B.oC
  have hbg5:Hid (b5≠g):=by show _≠_;have:=H0.out g og;have:=hb5.out;omega
  have HSS:Hid (∀w',Keep (fun b=>b≠b5) w6 w'→(ja1 50 (.pointer (some ⟨b5,0,none⟩))).run Tryz.prog w'=.ok (.value (.agg cy.toArray)) w'):=fun w' k=>Whole.run (P:=Tryz.prog) S_Catalog HCY.out (R5.out.keep k (fun h=>h rfl))
  have kd:Keep Nix w6 w6.drew:=(Keep.refl Nix _).drew
  refine wp_region_held_drew (S:=(fun w'=>(ja1 50 (.pointer (some ⟨b5,0,none⟩))).run Tryz.prog w'=.ok (.value (.agg cy.toArray)) w')) (by kernel_rfl) (HSS.out _ kd.nix) (fun jaa=>?_)
  have HSS:=Lib.hid (fun w' (k:Keep (fun b=>b≠b5) w6.drew w')=>HSS.out w' (kd.nix.trans k))
  have R5:=Lib.hid (R5.out.keep kd id)
  have RZ:=Lib.hid (RZ.out.keep kd id)
  have HY:=Lib.hid (rGCatalog_lawful.nix HY.out kd)
  have K6:=Lib.hid (K6.out.trans kd.nix)
  have S7:=Lib.hid (Nat.le_trans S7.out kd.size)
  have HB:=Lib.hid (B.keep kd og (fun _ _ h=>h))
  clear kd B H6 lt
  generalize w6.drew=w7 at *
  have rowG:=HB.out.row
  have hvb5:Hid (∀b,OwnB (.slice aC R.cats.length cC) b→b≠b5):=fun b hb e=>by have:=H0.out b (hoC.out b hb).1;have:=hb5.out;omega
  have hgl:=H0.out g og
  refine tk 0 rfl jaa ?_
  refine tk 1 rfl jaa ?_
  refine tk 2 rfl jaa ?_
  refine tk 3 rfl jaa ?_
  refine tk 5 rfl jaa ?_
  refine wpAnyH_ready (rs:=[4,6]) (by kernel_rfl) (by simp) ?_
  refine AllReadyH.cons rfl (fun K hK=>?_) (AllReadyH.cons rfl (fun K hK=>?_) AllReadyH.nil)
  focus
   have x1:=rowG.cell 1
   (try simp only[List.getElem?_cons_succ]at x1);(try simp only[List.getElem?_cons_zero]at x1)
   go_simp
   clear x1
   refine hK.out _ _ (jaa) (fun jaa=>?_)
   clear hK K
   try simp only[Act.put,zz1,zz2,zz3,zz4,zz5,zz6]
   refine wpAnyH_ready (rs:=[6]) (by kernel_rfl) (by simp) ?_
   refine AllReadyH.cons rfl (fun K hK=>?_) AllReadyH.nil
   have hls:=jb3 (P:=Tryz.prog) jbL (by decide) cy HCY.out w7
   try simp only[zz1,zz2,zz3]
   go_simp
   clear hls
   have kA:Keep Nix w7 (w7.alloc (.cells cy.toArray 50)):=(Keep.refl Nix _).alloc _
   replace rowG:=rowG.keep kA id
   refine hK.out _ _ ((HSS.out _ kA.nix)) (fun jaa=>?_)
   refine ?h1a
  rotate_left
  focus
   have hls:=jb3 (P:=Tryz.prog) jbL (by decide) cy HCY.out w7
   try simp only[zz1,zz2,zz3]
   go_simp
   clear hls
   have kA:Keep Nix w7 (w7.alloc (.cells cy.toArray 50)):=(Keep.refl Nix _).alloc _
   replace rowG:=rowG.keep kA id
   refine hK.out _ _ ((HSS.out _ kA.nix)) (fun jaa=>?_)
   clear hK K
   try simp only[Act.put,zz1,zz2,zz3,zz4,zz5,zz6]
   refine wpAnyH_ready (rs:=[4]) (by kernel_rfl) (by simp) ?_
   refine AllReadyH.cons rfl (fun K hK=>?_) AllReadyH.nil
   have x1:=rowG.cell 1
   (try simp only[List.getElem?_cons_succ]at x1);(try simp only[List.getElem?_cons_zero]at x1)
   go_simp
   clear x1
   refine hK.out _ _ (jaa) (fun jaa=>?_)
   refine ?h1b
  rotate_left
 rotate_left 2
 ·have hR:Hid (jbs R 0 y=(repG y.2 0 0,R)):=if_neg hz
  have hz2:(y.2 == 0)=false:=by simp[hz]
  have hst:=jaf (P:=Tryz.prog) (cs:=repV y.2 0 0) S_Reply RZ.out rfl rfl rfl
  unfold repV at hst
  have kS:Keep (·=w.heap.size+1) (w5.setRow b5 cy.toArray) ((w5.setRow b5 cy.toArray).setRow (w.heap.size+1) (repV y.2 0 0).toArray):=(Keep.refl (·=w.heap.size+1) (w5.setRow b5 cy.toArray)).setRow (fun _=>rfl) _
  have HZR:=Lib.hid (RZ.out.setRow (repV y.2 0 0))
  have KS:=Lib.hid kS
  clear kS
  go_wp2_with fail
  refine bodyPost_ret (results_cell_row (by rfl) _ _ _ _ _ _ _ (by rfl) HZR.out Tryz.underlying55 (by rfl) hinfo) rfl ?_
  rw[hY.out,hR.out]
  exact⟨repV y.2 0 0,O,fun _=>False,rfl,jch _ _ hye.out u0 i0,fun b h=>h.elim,(H6.out.keep KS.out (fun b hb e=>by have:=H0.out b hb;omega)).more (Nat.le_succ n),fun b h=>.inl h,fun b h=>h,(K6.out.mono' (fun i hi e=>by have:=hb5.out;omega)).then KS.out (fun i hi e=>by omega)⟩
 case h1a | h1b=>
  clear hK K
  try simp only[Act.put,zz1,zz2,zz3,zz4,zz5,zz6]
  refine wpAnyH_ready (rs:=[7]) (by kernel_rfl) (by simp) ?_
  refine AllReadyH.cons rfl (fun K hK=>?_) AllReadyH.nil
  refine jdk (w:=w7) (cs:=cy) jbL (by rfl) (.tmp 65) (.tmp 67) (by rfl) 0 (by rfl) (by rfl) HB.out.rowC HCY.out HC1.out (by unfold maxLen;omega) (by omega) (by omega) ?_
  intro aN cN w8 own8 k8 jax
  replace rowG:=HB.out.row.keep k8 (fun h=>(hoC.out g h).2.1 rfl)
  have HO8:=Lib.hid own8
  have HF8:=Lib.hid jax
  have K8:=Lib.hid k8
  refine hK.out _ _ ((HSS.out _ (k8.mono hvb5.out))) (fun jaa=>?_)
  clear hK K
  try simp only[Act.put,zz1,zz2,zz3,zz4,zz5,zz6]
  clear own8 jax k8
  refine tk 8 rfl jaa ?_
  refine tk 9 rfl jaa ?_
  refine wpAnyH_ready (rs:=[10]) (by kernel_rfl) (by simp) ?_
  refine AllReadyH.cons rfl (fun K hK=>?_) AllReadyH.nil
  have x1:=rowG.cell 1
  (try simp only[List.getElem?_cons_succ]at x1);(try simp only[List.getElem?_cons_zero]at x1)
  have f1:=rowG.frozen 1
  go_simp
  clear x1 f1
  have kG:Keep (·=g) w8 (w8.setCell ⟨g,1,none⟩ (.slice aN (R.cats.length+1) cN)):=(Keep.refl (·=g) w8).setCell (p:=⟨g,1,none⟩) (fun _=>rfl) _
  have row9:=rowG.set 1 (.slice aN (R.cats.length+1) cN)
  (try simp only[List.set_cons_succ]at row9);(try simp only[List.set_cons_zero]at row9)
  have KG:=Lib.hid kG
  have ROW9:=Lib.hid row9
  refine hK.out _ _ ((HSS.out _ ((K8.out.mono hvb5.out).trans (kG.mono (fun b hb e=>hbg5.out (e.symm.trans hb)))))) (fun jaa=>?_)
  clear hK K
  try simp only[Act.put,zz1,zz2,zz3,zz4,zz5,zz6]
  clear rowG row9 kG
  refine wpAnyH_done (by kernel_rfl) ?_ _
  clear jaa
  generalize w8.setCell ⟨g,1,none⟩ (.slice aN (R.cats.length+1) cN)=w9 at *
  have hvlt:Hid (∀b,OwnB (.slice aN (R.cats.length+1) cN) b→b≠g∧b≠b5∧b≠w.heap.size+1∧(OwnB (.slice aC R.cats.length cC) b∨w7.heap.size≤b)):=fun b hb=>by
   have h1:=hb5.out
   have h2:=S6.out
   have h3:=S7.out
   rcases HF8.out b hb with h | h
   ·have h5:=hoC.out b h
    have h6:=H0.out b h5.1
    exact⟨h5.2.1,by omega,by omega,.inl h⟩
   ·exact⟨by omega,by omega,by omega,.inr h⟩
  have hoClt:Hid (∀b,OwnB (.slice aC R.cats.length cC) b→b<w.heap.size):=fun b hb=>H0.out b (hoC.out b hb).1
  have R59:=(R5.out.keep K8.out (fun h=>by have:=hoClt.out _ h;have:=hb5.out;omega)).keep KG.out hbg5.out
  have RZ9:=(RZ.out.keep K8.out (fun h=>by have:=hoClt.out _ h;omega)).keep KG.out (fun e=>by omega)
  have x5:w9.cell? ⟨b5,0,none⟩=some (.int .i64 y.1.fVersion):=by
   obtain⟨_,_,_,_,hcq,-⟩:=jau HY.out
   have:=R59.cell 0
   rw[hcq]at this
   exact this
  have hst:=jaf (P:=Tryz.prog) (cs:=repV 0 0 y.1.fVersion) S_Reply RZ9 rfl rfl rfl
  unfold repV at hst
  have kS:Keep (·=w.heap.size+1) w9 (w9.setRow (w.heap.size+1) (repV 0 0 y.1.fVersion).toArray):=(Keep.refl (·=w.heap.size+1) w9).setRow (fun _=>rfl) _
  have HZR:=Lib.hid (RZ9.setRow (repV 0 0 y.1.fVersion))
  have KS:=Lib.hid kS
  clear kS RZ9 R59
  go_wp2_with fail
  refine bodyPost_ret (results_cell_row (by rfl) _ _ _ _ _ _ _ (by rfl) HZR.out Tryz.underlying55 (by rfl) hinfo) rfl ?_
  have h1:=hb5.out
  have h2:=S6.out
  have h3:=S7.out
  have h8:=K8.out.size
  have h9:=KG.out.size
  have h10:=KS.out.size
  have own9:=jad (jad HO8.out KG.out (fun b hb=>(hvlt.out b hb).1)) KS.out (fun b hb=>(hvlt.out b hb).2.2.1)
  have hcyF:=rGCatalog_lawful.keep (rGCatalog_lawful.keep (rGCatalog_lawful.keep HY.out K8.out (fun b hb h=>by have:=hoClt.out _ h;have:=(HNI.out b hb).1;omega)) KG.out (fun b hb e=>by have:=(HNI.out b hb).1;omega)) KS.out (fun b hb e=>by have:=(HNI.out b hb).1;omega)
  have kAll:Keep (fun b=>b=g∨OwnB (.slice aC R.cats.length cC) b∨¬O b) w7 (w9.setRow (w.heap.size+1) (repV 0 0 y.1.fVersion).toArray):=((K8.out.mono (fun b hb=>.inr (.inl hb))).trans (KG.out.mono (fun b hb=>.inl hb))).trans (KS.out.mono (fun b hb=>.inr (.inr (fun ho=>by have:=H0.out b ho;omega))))
  have B2:=RootAt.turnC (O':=fun b=>O b∨(w4.heap.size≤b∧b<(w9.setRow (w.heap.size+1) (repV 0 0 y.1.fVersion).toArray).heap.size)) (Pn:=jai w4 w5) HB.out og (fun b h=>.inl h) kAll (ROW9.out.keep KS.out (fun e=>by omega)) own9 (fun b hb=>by
   rcases(hvlt.out b hb).2.2.2 with h | h
   ·exact .inl h
   ·have:=(own9.lt b hb).2
    exact .inr ⟨fun ho=>by have:=H0.out b ho;omega,.inr ⟨by omega,by omega⟩⟩) hcyF (fun b hb=>by
   have h:=HNI.out b hb
   refine⟨fun ho=>by have:=H0.out b ho;omega,.inr ⟨h.1,by omega⟩,fun hx=>?_⟩
   rcases(hvlt.out b hx).2.2.2 with h5 | h5
   ·have:=hoClt.out b h5;omega
   ·omega)
  rw[hY.out,hR.out]
  refine⟨repV 0 0 y.1.fVersion,fun b=>O b∨(w4.heap.size≤b∧b<(w9.setRow (w.heap.size+1) (repV 0 0 y.1.fVersion).toArray).heap.size),fun _=>False,rfl,jch _ _ i0 u0 hyv2,fun b h=>h.elim,(show IsRoot _ _ g n (addC R y.1) from⟨fun b hb=>?_,.inl og,okC ok hbig hsm HYV.out hlast.out,bM,aN,cN,aO,cO,aS,cS,aU,cU,_,D,B2⟩).more (Nat.le_succ n),fun b h=>?_,fun b h=>.inl h,?_⟩
  ·rcases hb with hb | hb
   ·have:=H0.out b hb;omega
   ·omega
  ·rcases h with h | h
   ·exact .inl h
   ·exact .inr (by omega)
  ·exact(((K6.out.mono' (fun i hi e=>by omega)).then K8.out (fun i hi h=>(hoC.out i h).1)).then KG.out (fun i hi e=>by rw[e];exact og)).then KS.out (fun i hi e=>by omega)
end
end
section
theorem lf4(w:World)(ccs:List Value):Hid (w.heap.size+1<((((w.alloc (.cells ccs.toArray 43))).alloc (.cells #[.int .i64 0,.int .u64 0,.int .i64 0,.bool false,.slice none 0 0,.slice none 0 0,.int .i64 0,.int .i64 0,.slice none 0 0,.slice none 0 0,.int .i64 0,.int .i64 0,.slice none 0 0,.int .i64 0,.slice none 0 0] 55))).heap.size):=by show _<_;simp
section
attribute [local go_sem ↓] jct jgG
theorem jeG(O:Nat→Prop)(g n:Nat)(R:RootS)(ccs:List Value)(k:Int)(Y:GReply×RootS)(w:World)(H:IsRoot w O g n R)(hk:ccs[0]?=some (.int .i64 k))(hk4:k=14∨k=15∨k=16∨k=17)(hcl:ccs.length=25)
  (hch:∀w',Keep Nix w w'→Calls Tryz.prog 25 #[.pointer (some ⟨g,0,none⟩),.agg ccs.toArray] w' (RunPost w' O g n Y)) :
  Calls Tryz.prog 9 #[.pointer (some ⟨g,0,none⟩),.agg ccs.toArray] w (RunPost w O g n Y):=by
 have hinfo:(Tryz.prog.info? 55).map (·.size)=some 15:=by kernel_rfl
 have H0:=Lib.hid H.lt
 have kB:=lf0 w ccs
 have row0:=lf1 w ccs
 have rowZ:=lf2 w ccs
 have HZ:=Lib.hid rowZ
 have hlt3:=lf4 w ccs
 have K3:=Lib.hid kB
 have HC:=Lib.hid (hch (((w.alloc (.cells ccs.toArray 43))).alloc (.cells #[.int .i64 0,.int .u64 0,.int .i64 0,.bool false,.slice none 0 0,.slice none 0 0,.int .i64 0,.int .i64 0,.slice none 0 0,.slice none 0 0,.int .i64 0,.int .i64 0,.slice none 0 0,.int .i64 0,.slice none 0 0] 55)) kB)
 clear hch H
 rcases hk4 with rfl | rfl | rfl | rfl
 refine ?h1a
 rotate_left
 refine ?h1b
 rotate_left
 refine ?h1c
 rotate_left
 refine ?h1d
 rotate_left
 case h1a | h1b | h1c | h1d=>
  have x0:=(row0.cell 0).trans hk
  have ld0:=Whole.run (P:=Tryz.prog) jfZ hcl row0
  clear row0 hk rowZ kB
  go_enter Tryz.func9,Tryz.ntmps9
  go_wp2_with fail
  clear x0 ld0
  go_fit HC.out
  rintro e w4 ⟨cs,O',R',rfl,hr,hR,H4,h5,h6,k4⟩
  have rowZ4:=HZ.out.keep k4 (fun h=>by have:=H0.out _ h;omega)
  have hst:=jaf (P:=Tryz.prog) (cs:=cs) S_Reply rowZ4 rfl (rGReply_lawful.len hr) (jcU hr)
  have HZR:=Lib.hid (rowZ4.setRow cs)
  have HR:=Lib.hid hr
  have HRR:=Lib.hid hR
  have H4':=Lib.hid H4
  have H5:=Lib.hid h5
  have H6:=Lib.hid h6
  have K4:=Lib.hid k4
  clear hr hR H4 h5 h6 k4 rowZ4 HC
  go_wp2_with fail
  refine bodyPost_ret (results_cell_row (by rfl) _ _ _ _ _ _ _ (by rfl) HZR.out Tryz.underlying55 (by rfl) (hinfo.trans (by rw[List.size_toArray,rGReply_lawful.len HR.out]))) rfl ?_
  exact RunPost.stored K3.out H0.out (by omega) hlt3.out HR.out HRR.out H4'.out H5.out H6.out K4.out
theorem jo5(O:Nat→Prop)(g n:Nat)(R:RootS)(ccs:List Value)(k:Int)(Y:GReply×RootS)(w:World)(H:IsRoot w O g n R)(hk:ccs[0]?=some (.int .i64 k))(hk4:k=18∨k=19)(hcl:ccs.length=25)
  (hch:∀w',Keep Nix w w'→Calls Tryz.prog 26 #[.pointer (some ⟨g,0,none⟩),.agg ccs.toArray] w' (RunPost w' O g n Y)) :
  Calls Tryz.prog 9 #[.pointer (some ⟨g,0,none⟩),.agg ccs.toArray] w (RunPost w O g n Y):=by
 have hinfo:(Tryz.prog.info? 55).map (·.size)=some 15:=by kernel_rfl
 have H0:=Lib.hid H.lt
 have kB:=lf0 w ccs
 have row0:=lf1 w ccs
 have rowZ:=lf2 w ccs
 have HZ:=Lib.hid rowZ
 have hlt3:=lf4 w ccs
 have K3:=Lib.hid kB
 have HC:=Lib.hid (hch (((w.alloc (.cells ccs.toArray 43))).alloc (.cells #[.int .i64 0,.int .u64 0,.int .i64 0,.bool false,.slice none 0 0,.slice none 0 0,.int .i64 0,.int .i64 0,.slice none 0 0,.slice none 0 0,.int .i64 0,.int .i64 0,.slice none 0 0,.int .i64 0,.slice none 0 0] 55)) kB)
 clear hch H
 rcases hk4 with rfl | rfl
 refine ?h1a
 rotate_left
 refine ?h1b
 rotate_left
 case h1a | h1b=>
  have x0:=(row0.cell 0).trans hk
  have ld0:=Whole.run (P:=Tryz.prog) jfZ hcl row0
  clear row0 hk rowZ kB
  go_enter Tryz.func9,Tryz.ntmps9
  go_wp2_with fail
  clear x0 ld0
  go_fit HC.out
  rintro e w4 ⟨cs,O',R',rfl,hr,hR,H4,h5,h6,k4⟩
  have rowZ4:=HZ.out.keep k4 (fun h=>by have:=H0.out _ h;omega)
  have hst:=jaf (P:=Tryz.prog) (cs:=cs) S_Reply rowZ4 rfl (rGReply_lawful.len hr) (jcU hr)
  have HZR:=Lib.hid (rowZ4.setRow cs)
  have HR:=Lib.hid hr
  have HRR:=Lib.hid hR
  have H4':=Lib.hid H4
  have H5:=Lib.hid h5
  have H6:=Lib.hid h6
  have K4:=Lib.hid k4
  clear hr hR H4 h5 h6 k4 rowZ4 HC
  go_wp2_with fail
  refine bodyPost_ret (results_cell_row (by rfl) _ _ _ _ _ _ _ (by rfl) HZR.out Tryz.underlying55 (by rfl) (hinfo.trans (by rw[List.size_toArray,rGReply_lawful.len HR.out]))) rfl ?_
  exact RunPost.stored K3.out H0.out (by omega) hlt3.out HR.out HRR.out H4'.out H5.out H6.out K4.out
theorem jp9(O:Nat→Prop)(g n:Nat)(R:RootS)(ccs:List Value)(txn:Int)(w:World)(H:IsRoot w O g n R)(hk:ccs[0]?=some (.int .i64 13))(hk2:ccs[2]?=some (.int .u64 txn))(hn:n<1000000)(ht:jaw txn)(ho:R.order.length≤90000) :
  Calls Tryz.prog 9 #[.pointer (some ⟨g,0,none⟩),.agg ccs.toArray] w (RunPost w O g n (repG (jaB R txn false).1 0 (jaB R txn false).2.1,(jaB R txn false).2.2)):=by
 have hinfo:(Tryz.prog.info? 55).map (·.size)=some 15:=by kernel_rfl
 have H0:=Lib.hid H.lt
 have kB:=lf0 w ccs
 have row0:=lf1 w ccs
 have rowZ:=lf2 w ccs
 have HZ:=Lib.hid rowZ
 have hlt3:=lf4 w ccs
 have K3:=Lib.hid kB
 have HC:=Lib.hid (jeO O g n R txn false (((w.alloc (.cells ccs.toArray 43))).alloc (.cells #[.int .i64 0,.int .u64 0,.int .i64 0,.bool false,.slice none 0 0,.slice none 0 0,.int .i64 0,.int .i64 0,.slice none 0 0,.slice none 0 0,.int .i64 0,.int .i64 0,.slice none 0 0,.int .i64 0,.slice none 0 0] 55)) (H.nix kB) hn ht ho)
 have x0:=(row0.cell 0).trans hk
 have x2:=(row0.cell 2).trans hk2
 generalize (repG (jaB R txn false).1 0 (jaB R txn false).2.1,(jaB R txn false).2.2)=Y at *
 clear row0 hk rowZ kB
 go_enter Tryz.func9,Tryz.ntmps9
 go_wp2_with fail
 clear x0 x2
 go_fit HC.out
 rintro e w4 ⟨cs,O',R',rfl,hr,hR,H4,h5,h6,k4⟩
 have rowZ4:=HZ.out.keep k4 (fun h=>by have:=H0.out _ h;omega)
 have hst:=jaf (P:=Tryz.prog) (cs:=cs) S_Reply rowZ4 rfl (rGReply_lawful.len hr) (jcU hr)
 have HZR:=Lib.hid (rowZ4.setRow cs)
 have HR:=Lib.hid hr
 have HRR:=Lib.hid hR
 have H4':=Lib.hid H4
 have H5:=Lib.hid h5
 have H6:=Lib.hid h6
 have K4:=Lib.hid k4
 clear hr hR H4 h5 h6 k4 rowZ4 HC
 go_wp2_with fail
 refine bodyPost_ret (results_cell_row (by rfl) _ _ _ _ _ _ _ (by rfl) HZR.out Tryz.underlying55 (by rfl) (hinfo.trans (by rw[List.size_toArray,rGReply_lawful.len HR.out]))) rfl ?_
 exact RunPost.stored K3.out H0.out (by omega) hlt3.out HR.out HRR.out H4'.out H5.out H6.out K4.out
theorem jo6(O:Nat→Prop)(g n:Nat)(R:RootS)(ccs:List Value)(k:Int)(w:World)(H:IsRoot w O g n R)(hk:ccs[0]?=some (.int .i64 k))(hk4:k<11∨20<k) :
  Calls Tryz.prog 9 #[.pointer (some ⟨g,0,none⟩),.agg ccs.toArray] w (RunPost w O g n (repG 1 0 0,R)):=by
 have hinfo:(Tryz.prog.info? 55).map (·.size)=some 15:=by kernel_rfl
 have H0:=Lib.hid H.lt
 have kB:=lf0 w ccs
 have row0:=lf1 w ccs
 have rowZ:=lf2 w ccs
 have HZ:=Lib.hid rowZ
 have hlt3:=lf4 w ccs
 have K3:=Lib.hid kB
 have HX:=Lib.hid (H.nix kB)
 have x0:=(row0.cell 0).trans hk
 have q1:(k == 11)=false:=by simp;omega
 have q2:(k == 12)=false:=by simp;omega
 have q3:(k == 13)=false:=by simp;omega
 have q4:(k == 14)=false:=by simp;omega
 have q5:(k == 15)=false:=by simp;omega
 have q6:(k == 16)=false:=by simp;omega
 have q7:(k == 17)=false:=by simp;omega
 have q8:(k == 18)=false:=by simp;omega
 have q9:(k == 19)=false:=by simp;omega
 have qa:(k == 20)=false:=by simp;omega
 have hst:=jaf (P:=Tryz.prog) (cs:=repV 1 0 0) S_Reply rowZ rfl rfl rfl
 unfold repV at hst
 have kS:Keep (·=w.heap.size+1) (((w.alloc (.cells ccs.toArray 43))).alloc (.cells #[.int .i64 0,.int .u64 0,.int .i64 0,.bool false,.slice none 0 0,.slice none 0 0,.int .i64 0,.int .i64 0,.slice none 0 0,.slice none 0 0,.int .i64 0,.int .i64 0,.slice none 0 0,.int .i64 0,.slice none 0 0] 55)) (((((w.alloc (.cells ccs.toArray 43))).alloc (.cells #[.int .i64 0,.int .u64 0,.int .i64 0,.bool false,.slice none 0 0,.slice none 0 0,.int .i64 0,.int .i64 0,.slice none 0 0,.slice none 0 0,.int .i64 0,.int .i64 0,.slice none 0 0,.int .i64 0,.slice none 0 0] 55))).setRow (w.heap.size+1) (repV 1 0 0).toArray):=(Keep.refl (·=w.heap.size+1) _).setRow (fun _=>rfl) _
 have HZR:=Lib.hid (rowZ.setRow (repV 1 0 0))
 have HKS:=Lib.hid kS
 clear row0 hk rowZ kB kS hk4
 go_enter Tryz.func9,Tryz.ntmps9
 go_wp2_with fail
 refine bodyPost_ret (results_cell_row (by rfl) _ _ _ _ _ _ _ (by rfl) HZR.out Tryz.underlying55 (by rfl) hinfo) rfl ?_
 have i0:jae 0:=⟨by decide,by decide⟩
 exact⟨repV 1 0 0,O,fun _=>False,rfl,jch _ _ ⟨by decide,by decide⟩ ⟨by decide,by decide⟩ i0,fun b h=>h.elim,(HX.out.keep HKS.out (fun b hb e=>by have:=H0.out b hb;omega)).more (Nat.le_succ n),fun b h=>.inl h,fun b h=>h,(K3.out.nix (S:=O)).then HKS.out (fun i hi e=>by omega)⟩
end
end
theorem RowIs.setCells{b:Nat}{e:TypeId}:∀(vs:List Value) {w:World} {o:Nat} {cs:List Value},RowIs w b e cs→o+vs.length≤cs.length→RowIs (w.setCells b o vs) b e (cs.take o ++ vs ++ cs.drop (o+vs.length))
 | [],w,o,cs,h,_=>by
  have e:cs.take o ++ [] ++ cs.drop (o+([]:List Value).length)=cs:=by simp
  rw[e];exact h
 | v :: r,w,o,cs,h,hl=>by
  simp only[List.length_cons]at hl
  have:=RowIs.setCells r (h.set o v) (o:=o+1) (by rw[List.length_set];omega)
  have e1:(cs.set o v).take (o+1)=cs.take o ++ [v]:=by
   rw[List.take_succ_eq_append_getElem (by rw[List.length_set];omega),List.getElem_set_self,List.take_set_of_le (Nat.le_refl _)]
  have e2:(cs.set o v).drop (o+1+r.length)=cs.drop (o+(v :: r).length):=by
   rw[List.drop_set_of_lt (by omega),List.length_cons];congr 1;omega
  rw[e1,e2]at this
  have e3:cs.take o ++ [v] ++ r ++ cs.drop (o+(v :: r).length)=cs.take o ++ v :: r ++ cs.drop (o+(v :: r).length):=by simp
  rw[e3]at this
  exact this
theorem Keep.setCells(b:Nat):∀(vs:List Value) (w:World) (o:Nat),Keep (·=b) w (w.setCells b o vs)
 | [],w,_=>Keep.refl _ w
 | v :: r,w,o=>((Keep.refl (·=b) w).setCell (p:=⟨b,o,none⟩) (fun _=>rfl) v).trans (Keep.setCells b r _ (o+1))
theorem jjf{P:Program}(w:World)(t e ty:TypeId)(z:Value)(ht:P.underlying t=some (.slice e))(hv:∀w,(zeroValue e).run P w=.ok z w)(b o c:Nat)
  (hc:∀j,j<z.cells.size→(w.cell? ⟨b,o+j,none⟩).isSome=true) (hf:∀j,j<z.cells.size→w.frozen? ⟨b,o+j,none⟩=false) (h1:∀v∈z.cells.toList,v.oneCell'=true) :
  (Builtin.clear_ #[t] ty #[.slice (some ⟨b,o,none⟩) 1 c]).run P w=.ok (.tuple #[]) (w.setCells b o z.cells.toList):=by
 have hzc:(Builtin.zeroCells z.cells 1).toList=z.cells.toList:=by
  apply List.ext_getElem
  ·simp[Builtin.zeroCells]
  ·intro i h1 h2
   simp at h2
   simp[Builtin.zeroCells,Nat.mod_eq_of_lt h2,h2]
 have hst:=run_storeCells_cells (P:=P) b o z.cells.toList 0 w (by simpa using hc) (by simpa using hf) h1
 simp only[Nat.add_zero]at hst
 simp[Builtin.clear_,run_underlying ht,hv,hzc,hst]
def jmm(w:World)(g cap n i:Nat)(cs:List Value)(e:Ending)(w':World):Prop:=e=.returned (.slice (some ⟨g,0,none⟩) (n - 1) cap)∧∃ds,RowIs w' g 41 ds∧ds.length=cs.length∧ds.take ((n - 1)*7)=cs.take (i*7) ++ (cs.drop ((i+1)*7)).take ((n - 1 - i)*7)∧Keep (·=g) w w'
theorem jjr(w:World)(g cap n i j:Nat)(hij:j=i+1)(cs:List Value)(row:RowIs w g 41 cs)(hcs:cs.length=cap*7)(hi:i<n)(hn:n≤cap)(_hm:cap≤9223372036854775807)(h1:∀u∈cs.take (n*7),u.oneCell'=true) :
  Calls Tryz.prog 112 #[.slice (some ⟨g,0,none⟩) n cap,.int .i64 i,.int .i64 j] w (jmm w g cap n i cs):=by
 have hjn:j≤n:=by omega
 obtain⟨i0,z0,hi',hz0,hs',hby,hzs⟩:=T_lIndex.info
 have T':Tryz.prog.underlying 48=some (.slice 41):=T_lIndex.under
 have row1:RowIs w.drew g 41 cs:=row
 obtain⟨news,hnews⟩:∃news,news=(cs.drop ((i+1)*7)).take ((n - 1 - i)*7):=⟨_,rfl⟩
 have hlen:news.length=(n - 1 - i)*7:=by rw[hnews,List.length_take,List.length_drop,hcs];omega
 have hsrc':∀t u,news[t]?=some u→w.drew.cell? ⟨g,(i+1)*7+t,none⟩=some u:=fun t u hu=>by
  rw[row1.cell]
  rw[hnews]at hu
  have ht:=(List.getElem?_eq_some_iff.1 hu).1
  rw[List.length_take]at ht
  rw[List.getElem?_take_of_lt (by omega),List.getElem?_drop]at hu
  exact hu
 obtain⟨A,hA,hsrc⟩:∃A:Addr,(if cap=j then(some ⟨g,0,none⟩:Option Addr) else some ⟨g,j*7,none⟩)=some A∧Hid (∀t u,news[t]?=some u→w.drew.cell? (A.add t)=some u):=by
  by_cases h:cap=j
  ·refine⟨⟨g,0,none⟩,by simp[h],fun t u hu=>?_⟩
   have h0:news.length=0:=by rw[hlen];omega
   rw[List.length_eq_zero_iff.1 h0]at hu
   simp at hu
  ·refine⟨⟨g,j*7,none⟩,by simp[h],fun t u hu=>?_⟩
   rw[Addr.add_lit,hij]
   exact hsrc' t u hu
 have s2:Hid (∀u∈news,u.oneCell'=true):=fun u hu=>h1 u (by
  have e:news=(cs.take (n*7)).drop ((i+1)*7):=by rw[hnews,List.drop_take];congr 1;omega
  rw[e]at hu
  exact List.mem_of_mem_drop hu)
 have s3:Hid (∀t,t<news.length→(w.drew.cell? ⟨g,0+i*7+t,none⟩).isSome=true∧w.drew.frozen? ⟨g,0+i*7+t,none⟩=false):=fun t ht=>by
  rw[row1.cell,row1.frozen,Nat.zero_add]
  refine⟨?_,rfl⟩
  rw[List.getElem?_eq_getElem (by omega)];rfl
 have hlen':Hid (news.length=(n - 1 - i)*7):=hlen
 obtain⟨W1,hW1⟩:∃W1,W1=w.drew.setCells g (0+i*7) news:=⟨_,rfl⟩
 have row2:RowIs W1 g 41 (cs.take (i*7) ++ news ++ cs.drop (i*7+news.length)):=by rw[hW1,Nat.zero_add];exact RowIs.setCells news row1 (by omega)
 have k1:Keep (·=g) w W1:=by rw[hW1];exact(Keep.refl (·=g) w).drew.trans (Keep.setCells g news _ _)
 obtain⟨ds,hds⟩:∃ds,ds=cs.take (i*7) ++ news ++ cs.drop (i*7+news.length):=⟨_,rfl⟩
 rw[←hds]at row2
 have hdl:ds.length=cs.length:=by rw[hds,List.length_append,List.length_append,List.length_take,List.length_drop];omega
 have hzv:∀w,(zeroValue 41).run Tryz.prog w=.ok (.agg #[.int .i64 0,.int .i64 0,.string {data:=#[]},.slice none 0 0,.bool false,.int .i64 0,.bool false]) w:=fun w=>by kernel_rfl
 have hj1:i+(n - j)=n - 1:=by omega
 have hcl:∀ty,(Builtin.clear_ #[48] ty #[.slice (some ⟨g,(i+(n - j))*7,none⟩) (n - (i+(n - j))) (cap - (i+(n - j)))]).run Tryz.prog W1=.ok (.tuple #[]) (W1.setCells g ((i+(n - j))*7) [.int .i64 0,.int .i64 0,.string {data:=#[]},.slice none 0 0,.bool false,.int .i64 0,.bool false]):=fun ty=>by
  rw[hj1,show n - (n - 1)=1 by omega]
  exact jjf W1 _ _ ty (.agg #[.int .i64 0,.int .i64 0,.string {data:=#[]},.slice none 0 0,.bool false,.int .i64 0,.bool false]) T' hzv g ((n - 1)*7) _ (fun j hj=>by
   have hj:j<7:=hj
   rw[row2.cell,List.getElem?_eq_getElem (by rw[hdl];omega)];rfl) (fun j hj=>row2.frozen _) (fun v hv=>List.all_eq_true.1 (show([.int .i64 0,.int .i64 0,.string {data:=#[]},.slice none 0 0,.bool false,.int .i64 0,.bool false]:List Value).all Value.oneCell'=true from rfl) v hv)
 have k2:=k1.trans (Keep.setCells g [.int .i64 0,.int .i64 0,.string {data:=#[]},.slice none 0 0,.bool false,.int .i64 0,.bool false] W1 ((n - 1)*7))
 have hW:Hid (W1=w.drew.setCells g (0+i*7) news):=hW1
 have hic:i≤cap:=by omega
 have hjc:j≤cap:=by omega
 have hlt:i<j:=by omega
 have hin:i+(n - 1 - i)=n - 1:=by omega
 have HIN:=Lib.hid hin
 have HDS:=Lib.hid hds
 have HNW:=Lib.hid hnews
 have HCS:=Lib.hid hcs
 have HDL:=Lib.hid hdl
 have HR2:=Lib.hid row2
 have HK2:=Lib.hid k2
 have HIJ:=Lib.hid hij
 clear hj1 hij row1 hsrc' hnews hlen hW1 row2 hds hzv hin h1 k1 hcs hdl k2 row hz0 hby hzs
 go_enter Tryz.func112,Tryz.ntmps112
 go_wp2_with fail
 go_region_law (refine step_append_room rfl (.tmp 22) (.tmp 25) 48 rfl 41 i0 7 T' hi' hs' g 0 i cap (by simp[Act.eval,Act.put]) A (n - j) (cap - j) news (by simp[Act.eval,Act.put]) (by rw[hlen'.out,HIJ.out];omega) hsrc.out s2.out (by omega) s3.out ?_;rw[←hW.out])
 go_wp2_with fail
 go_ret
 have hj1:i+(n - j)=n - 1:=by have:=HIJ.out;omega
 have row3:=RowIs.setCells [.int .i64 0,.int .i64 0,.string {data:=#[]},.slice none 0 0,.bool false,.int .i64 0,.bool false] HR2.out (o:=(n - 1)*7) (by rw[HDL.out,HCS.out];show(n - 1)*7+7≤_;omega)
 have k2:=HK2.out
 rw[hj1]
 unfold jmm
 refine⟨rfl,_,row3,?_,?_,k2⟩
 ·have:=HDL.out
  have:=HCS.out
  rw[List.length_append,List.length_append,List.length_take,List.length_drop]
  simp only[List.length_cons,List.length_nil]
  omega
 ·have h2:(n - 1)*7≤ds.length:=by rw[HDL.out,HCS.out];omega
  have h3:=HCS.out
  have h4:=hlen'.out
  have h5:=HIJ.out
  have hl:(cs.take (i*7) ++ news).length=(n - 1)*7:=by rw[List.length_append,List.length_take,h4,h3];omega
  have hl2:((cs.take (i*7) ++ news) ++ cs.drop (i*7+news.length)).take ((n - 1)*7)=cs.take (i*7) ++ news:=List.take_left' hl
  rw[←HDS.out]at hl2
  rw[List.append_assoc,List.take_append_of_le_length (by rw[List.length_take];omega),List.take_take,Nat.min_self,hl2,HNW.out]
theorem jhk{P:Program}{T n:Nat}(S:StructT P T n){w:World}{b o:Nat}{cs:List Value}(hn:cs.length=n)(ht:w.there b o n)(h1:ones cs=true):(jbm T (.pointer (some ⟨b,o,none⟩)) (.agg cs.toArray)).run P w=.ok .skip (w.setCells b o cs):=by
 have:=run_storeAt_mid (P:=P) w b o T cs.toArray (by simpa [hn] using ht) (by simpa [hn] using S.info) (by simpa [ones] using h1)
 unfold jbm
 simp[this]
theorem RootAt.turnR{w wf:World}{O O' Pn:Nat→Prop}{g n:Nat}{R:RootS}{bM cC cO cS cU cS' cU':Nat}{aC aO aS aU aS' aU':Option Addr}{cssC:List (List Value)}{D:DataW Value}{r:GRoutes}
  (B:RootAt w O g n R bM aC cC aO cO aS cS aU cU cssC D) (og:O g) (hO:∀b,O b→O' b) (k:Keep (fun b=>b=g∨¬O b) w wf)
  (row:RowIs wf g 79 [.int .i64 R.spare,.slice aC R.cats.length cC,.int .i64 r.fEpoch,.int .i64 r.fBase,.slice aS' r.fSpans.length cS',.int .i64 r.fMoving,.slice aU' r.fCut.length cU',.int .u64 R.begun,.map (some bM),.slice aO R.order.length cO])
  (hr:jaz wf Pn [.int .i64 r.fEpoch,.int .i64 r.fBase,.slice aS' r.fSpans.length cS',.int .i64 r.fMoving,.slice aU' r.fCut.length cU'] r) (hPn:∀b,Pn b→¬O b∧O' b) :
  RootAt wf O' g n ⟨R.spare,R.cats,r,R.begun,R.dec,R.order⟩ bM aC cC aO cO aS' cS' aU' cU' cssC D:=by
 have hk:∀b,O b→b≠g→¬(b=g∨¬O b):=fun b hb hg h=>h.elim hg (fun h=>h hb)
 have hdeep2:∀b,Deep O g bM (.slice aC R.cats.length cC) (.slice aO R.order.length cO) b→Deep O' g bM (.slice aC R.cats.length cC) (.slice aO R.order.length cO) b:=fun b hb=>⟨hO b hb.1,hb.2⟩
 exact⟨row,hO _ B.oM,B.ne,fun b hb=>⟨hO b (B.oC b hb).1,(B.oC b hb).2⟩,fun b hb=>⟨hO b (B.oO b hb).1,(B.oO b hb).2⟩,B.co,jad B.rowC k (fun b hb=>hk b (B.oC b hb).1 (B.oC b hb).2.1),(B.els.keep rGCatalog_lawful k (fun b hb=>hk b hb.1 hb.2.1)).mono rGCatalog_lawful hdeep2,
  rGRoutes_lawful.mono hr (fun b hb=>⟨(hPn b hb).2,fun e=>(hPn b hb).1 (e ▸ og),fun e=>(hPn b hb).1 (e ▸ B.oM),fun h=>(hPn b hb).1 (B.oC b h).1,fun h=>(hPn b hb).1 (B.oO b h).1⟩),jad B.rowO k (fun b hb=>hk b (B.oO b hb).1 (B.oO b hb).2.1),B.dec.keep k (hk bM B.oM B.ne)⟩
structure RtOk(r:GRoutes):Prop where
 base:1≤r.fBase∧r.fBase≤4
 nodup:(r.fSpans.map (·.fGroup)).Nodup
 rng:∀o∈r.fSpans,r.fBase<o.fGroup∧o.fGroup≤r.fBase+4
 mov:r.fMoving≠0→∃k:Nat,jb2 r.fMoving r.fSpans=(k:Int)∧k<r.fSpans.length
theorem jf9:∀(n:Nat) (b:Int) (l:List Int),l.Nodup→(∀x∈l,b<x∧x≤b+(n:Int))→l.length≤n
 | 0,b,l,_,h=>by
  cases l with
  | nil=>simp
  | cons x l=>have:=h x (by simp);omega
 | n+1,b,l,hl,h=>by
  by_cases hm:b+((n:Int)+1)∈l
  ·have h1:=jf9 n b (l.erase (b+((n:Int)+1))) (hl.erase _) (fun x hx=>by
    have h2:=(List.Nodup.mem_erase_iff hl).1 hx
    have h3:=h x h2.2
    exact⟨h3.1,by have:=h2.1;have:=h3.2;push_cast at this;omega⟩)
   have h4:=List.length_erase_of_mem hm
   omega
  ·exact Nat.le_succ_of_le (jf9 n b l hl (fun x hx=>by
    have h3:=h x hx
    have:x≠b+((n:Int)+1):=fun e=>hm (e ▸ hx)
    exact⟨h3.1,by have:=h3.2;push_cast at this;omega⟩))
theorem RtOk.len{r:GRoutes}(h:RtOk r):r.fSpans.length≤4:=by
 have:=jf9 4 r.fBase (r.fSpans.map (·.fGroup)) h.nodup (fun x hx=>by
  obtain⟨o,ho,rfl⟩:=List.mem_map.1 hx
  exact h.rng o ho)
 simpa using this
section
def jdN(b:Int)(l:List GOwner):Nat→Nat→Int
 | 0,_=>0
 | m+1,k=>if jb2 (b+1+(k:Int)) l<0 then b+1+(k:Int) else jdN b l m (k+1)
def jdI(r:GRoutes)(s:Int):Int:=jdN r.fBase r.fSpans (min s 4).toNat 0
section
attribute [local go_sem ↓] jbC
theorem Next_c{p:Nat→Prop}(r:GRoutes)(csr:List Value)(s:Int)(w:World)(hr:jaz w p csr r)(hb:1≤r.fBase∧r.fBase≤4) :
  Calls Tryz.prog 67 #[.agg csr.toArray,.int .i64 s] w fun e w'=>e=.returned (.int .i64 (jdI r s))∧Keep Nix w w':=by
 have HR:=Lib.hid hr
 obtain⟨aS,cS,aC,cC,rfl,-⟩:=jav hr
 obtain⟨Y,HY⟩:∃y,Hid (jdI r s=y):=⟨_,rfl⟩
 rw[HY.out]
 obtain⟨n,hn⟩:∃n:Nat,(min s 4).toNat=n:=⟨_,rfl⟩
 have HYN:Hid (Y=jdN r.fBase r.fSpans n 0):=by show _=_;rw[←HY.out,jdI,hn]
 have hn4:n≤4:=by omega
 obtain⟨hb1,hb4⟩:=hb
 have kk:Keep Nix w (w.alloc (.cells #[.int .i64 r.fEpoch,.int .i64 r.fBase,.slice aS r.fSpans.length cS,.int .i64 r.fMoving,.slice aC r.fCut.length cC] 53)):=(Keep.refl Nix w).alloc _
 have row0:RowIs (w.alloc (.cells #[.int .i64 r.fEpoch,.int .i64 r.fBase,.slice aS r.fSpans.length cS,.int .i64 r.fMoving,.slice aC r.fCut.length cC] 53)) w.heap.size 53 [.int .i64 r.fEpoch,.int .i64 r.fBase,.slice aS r.fSpans.length cS,.int .i64 r.fMoving,.slice aC r.fCut.length cC]:=RowIs.alloc w _ _
 clear hr HY
 rcases Int.lt_or_le 4 s with h4 | h4
 ·have HM:Hid (∀k:Nat,k<n↔(k:Int)+1≤4):=fun k=>by omega
  clear hn
  go_enter Tryz.func67,Tryz.ntmps67
  go_wp2_with fail
  generalize hbs:w.heap.size=bs at *
  go_loopw [5] (fun i wr=>∃k:Nat,k≤n∧i=.int .i64 ((k:Int)+1)∧Hid (Y=jdN r.fBase r.fSpans (n - k) k)∧RowIs wr bs 53 [.int .i64 r.fEpoch,.int .i64 r.fBase,.slice aS r.fSpans.length cS,.int .i64 r.fMoving,.slice aC r.fCut.length cC]∧Keep Nix w wr) (fun i _=>10 - (intOf i).toNat)
  case atStart=>exact⟨0,by omega,rfl,HYN.out,row0,kk⟩
  case round=>
   clear row0 kk
   obtain⟨k,hk,rfl,HG,row0,kk⟩:=hrel
   have y1:=row0.cell 1
   (try simp only[List.getElem?_cons_succ]at y1);(try simp only[List.getElem?_cons_zero]at y1)
   have ldR:=Whole.run (P:=Tryz.prog) S_Routes rfl row0
   by_cases hlt:k<n
   ·have hi:=(HM.out k).1 hlt
    have HS:Hid (Y=if jb2 (r.fBase+1+(k:Int)) r.fSpans<0 then r.fBase+1+(k:Int) else jdN r.fBase r.fSpans (n - (k+1)) (k+1)):=by
     show _=_
     rw[HG.out,show n - k=(n - (k+1))+1 by omega];rfl
    have he:r.fBase+((k:Int)+1)=r.fBase+1+(k:Int):=by omega
    have HE:=Lib.hid he
    have hw:IntKind.i64.wrap (r.fBase+((k:Int)+1))=r.fBase+((k:Int)+1):=by unfold IntKind.wrap;simp[IntKind.bits,IntKind.signed];omega
    have hw2:IntKind.i64.wrap ((k:Int)+1+1)=(k:Int)+1+1:=by unfold IntKind.wrap;simp[IntKind.bits,IntKind.signed];omega
    clear he
    have hcall:=jdo r [.int .i64 r.fEpoch,.int .i64 r.fBase,.slice aS r.fSpans.length cS,.int .i64 r.fMoving,.slice aC r.fCut.length cC] (r.fBase+((k:Int)+1)) wr (rGRoutes_lawful.nix HR.out kk)
    rw[HE.out]at hcall
    obtain⟨pl,hpl⟩:∃y,jb2 (r.fBase+1+(k:Int)) r.fSpans=y:=⟨_,rfl⟩
    rw[hpl]at hcall HS
    clear hpl
    rw[←HE.out]at hcall
    go_wp2_with fail
    go_fit hcall
    rintro e w2 ⟨rfl,k2⟩
    replace row0:=row0.keep k2 id
    replace kk:=kk.trans k2
    clear hcall k2 ldR y1
    have y1:=row0.cell 1
    (try simp only[List.getElem?_cons_succ]at y1);(try simp only[List.getElem?_cons_zero]at y1)
    rcases Int.lt_or_le pl 0 with hp | hp
    ·have HQ:Hid (Y=r.fBase+((k:Int)+1)):=by show _=_;rw[HS.out,if_pos hp,HE.out]
     go_wp2_with fail
     go_ret
     exact⟨jb9 HQ.out.symm,kk⟩
    ·have HQ:Hid (Y=jdN r.fBase r.fSpans (n - (k+1)) (k+1)):=by show _=_;rw[HS.out,if_neg (by omega)]
     go_wp2_with fail
     go_roundw
     case rel=>exact⟨k+1,by omega,by go_num,HQ.out,row0,kk⟩
     case measure=>simp[intOf];omega
   ·have hi:¬((k:Int)+1≤4):=fun h=>hlt ((HM.out k).2 h)
    have hi2:4<(k:Int)+1:=by omega
    have HQ:Hid (Y=0):=by show _=_;rw[HG.out,show n - k=0 by omega];rfl
    clear hi
    go_wp2_with fail
    go_ret
    exact⟨jb9 HQ.out.symm,kk⟩
 ·have HM:Hid (∀k:Nat,k<n↔(k:Int)+1≤s):=fun k=>by omega
  clear hn
  go_enter Tryz.func67,Tryz.ntmps67
  go_wp2_with fail
  generalize hbs:w.heap.size=bs at *
  go_loopw [5] (fun i wr=>∃k:Nat,k≤n∧i=.int .i64 ((k:Int)+1)∧Hid (Y=jdN r.fBase r.fSpans (n - k) k)∧RowIs wr bs 53 [.int .i64 r.fEpoch,.int .i64 r.fBase,.slice aS r.fSpans.length cS,.int .i64 r.fMoving,.slice aC r.fCut.length cC]∧Keep Nix w wr) (fun i _=>10 - (intOf i).toNat)
  case atStart=>exact⟨0,by omega,rfl,HYN.out,row0,kk⟩
  case round=>
   clear row0 kk
   obtain⟨k,hk,rfl,HG,row0,kk⟩:=hrel
   have y1:=row0.cell 1
   (try simp only[List.getElem?_cons_succ]at y1);(try simp only[List.getElem?_cons_zero]at y1)
   have ldR:=Whole.run (P:=Tryz.prog) S_Routes rfl row0
   by_cases hlt:k<n
   ·have hi:=(HM.out k).1 hlt
    have HS:Hid (Y=if jb2 (r.fBase+1+(k:Int)) r.fSpans<0 then r.fBase+1+(k:Int) else jdN r.fBase r.fSpans (n - (k+1)) (k+1)):=by
     show _=_
     rw[HG.out,show n - k=(n - (k+1))+1 by omega];rfl
    have he:r.fBase+((k:Int)+1)=r.fBase+1+(k:Int):=by omega
    have HE:=Lib.hid he
    have hw:IntKind.i64.wrap (r.fBase+((k:Int)+1))=r.fBase+((k:Int)+1):=by unfold IntKind.wrap;simp[IntKind.bits,IntKind.signed];omega
    have hw2:IntKind.i64.wrap ((k:Int)+1+1)=(k:Int)+1+1:=by unfold IntKind.wrap;simp[IntKind.bits,IntKind.signed];omega
    clear he
    have hcall:=jdo r [.int .i64 r.fEpoch,.int .i64 r.fBase,.slice aS r.fSpans.length cS,.int .i64 r.fMoving,.slice aC r.fCut.length cC] (r.fBase+((k:Int)+1)) wr (rGRoutes_lawful.nix HR.out kk)
    rw[HE.out]at hcall
    obtain⟨pl,hpl⟩:∃y,jb2 (r.fBase+1+(k:Int)) r.fSpans=y:=⟨_,rfl⟩
    rw[hpl]at hcall HS
    clear hpl
    rw[←HE.out]at hcall
    go_wp2_with fail
    go_fit hcall
    rintro e w2 ⟨rfl,k2⟩
    replace row0:=row0.keep k2 id
    replace kk:=kk.trans k2
    clear hcall k2 ldR y1
    have y1:=row0.cell 1
    (try simp only[List.getElem?_cons_succ]at y1);(try simp only[List.getElem?_cons_zero]at y1)
    rcases Int.lt_or_le pl 0 with hp | hp
    ·have HQ:Hid (Y=r.fBase+((k:Int)+1)):=by show _=_;rw[HS.out,if_pos hp,HE.out]
     go_wp2_with fail
     go_ret
     exact⟨jb9 HQ.out.symm,kk⟩
    ·have HQ:Hid (Y=jdN r.fBase r.fSpans (n - (k+1)) (k+1)):=by show _=_;rw[HS.out,if_neg (by omega)]
     go_wp2_with fail
     go_roundw
     case rel=>exact⟨k+1,by omega,by go_num,HQ.out,row0,kk⟩
     case measure=>simp[intOf];omega
   ·have hi:¬((k:Int)+1≤s):=fun h=>hlt ((HM.out k).2 h)
    have hi2:s<(k:Int)+1:=by omega
    have HQ:Hid (Y=0):=by show _=_;rw[HG.out,show n - k=0 by omega];rfl
    clear hi
    go_wp2_with fail
    go_ret
    exact⟨jb9 HQ.out.symm,kk⟩
end
end
end Go.Proofs.YtibaehlfpgipfaaGreat
