/- ROOT: change: an index is added, dropped, stepped. Printed by mac.py. -/
import Derived.Test.YtibaehlfpgipfaaGreatQZG16
import Derived.Test.YtibaehlfpgipfaaGreatQZSchX
import Derived.Test.YtibaehlfpgipfaaGreatQZG19
import Derived.Test.YtibaehlfpgipfaaGreatQZBase
namespace Go.Proofs.YtibaehlfpgipfaaGreat
open Go.RowKit
set_option maxRecDepth 100000
set_option maxHeartbeats 4000000
set_option linter.unusedSimpArgs false
section
section
attribute [local go_sem ↓] jct jcp jbB jc0 jgH
theorem jkw(O:Nat→Prop)(g n:Nat)(R:RootS)(ccs:List Value)(nm:List UInt8)(w:World)(H:IsRoot w O g n R)(hk:ccs[0]?=some (.int .i64 16))(hk24:ccs[24]?=some (.string (strB nm)))(hbig:R.cats.length≤90000)
  (hg:(jbU (jah R) nm).2=0→jb4 (jbU (jah R) nm).1∧(jbU (jah R) nm).1.fVersion=(jah R).fVersion+1) (hye0:jae (jbU (jah R) nm).2) :
  Calls Tryz.prog 25 #[.pointer (some ⟨g,0,none⟩),.agg ccs.toArray] w (RunPost w O g n (jbs R 0 (jbU (jah R) nm))):=by
 have hinfo:(Tryz.prog.info? 55).map (·.size)=some 15:=by kernel_rfl
 have i0:jae 0:=⟨by decide,by decide⟩
 have u0:jaw 0:=⟨by decide,by decide⟩
 have H0:=Lib.hid H.lt
 have hlast:=Lib.hid H.last
 have hlen:=H.ok.len.1
 have hpos:0<R.cats.length:=List.length_pos_iff.2 H.ok.ex
 have kB:=lf0 w ccs
 have row0:=lf1 w ccs
 have rowZ:=lf2 w ccs
 have HZ:=Lib.hid rowZ
 have HR0:=Lib.hid row0
 have HK:=Lib.hid hk
 have hsz:=lf3 w ccs
 have HC:=Lib.hid (jdu O g n R (((w.alloc (.cells ccs.toArray 43))).alloc (.cells #[.int .i64 0,.int .u64 0,.int .i64 0,.bool false,.slice none 0 0,.slice none 0 0,.int .i64 0,.int .i64 0,.slice none 0 0,.slice none 0 0,.int .i64 0,.int .i64 0,.slice none 0 0,.int .i64 0,.slice none 0 0] 55)) (H.nix kB))
 have H2:=Lib.hid (H.nix kB)
 have hmem:jah R∈R.cats:=by
  unfold jah
  rw[List.getLast?_eq_getElem?,List.getElem?_eq_getElem (by omega)]
  exact List.getElem_mem _
 have hsml:=Lib.hid (H.ok.small _ hmem).1
 clear rowZ row0 hk hmem
 go_enter Tryz.func25,Tryz.ntmps25
 go_wp2_with fail
 go_fit HC.out
 rintro e w3 ⟨cn,rfl,rn,k3⟩
 clear HC
 have hs3:=k3.size
 have hcl0:=rGCatalog_lawful.len rn
 have hc1:=jay rn
 obtain⟨hst0,row5,kV⟩:=jds (P:=Tryz.prog) (zs:=[.int .i64 0,.int .i64 0,.slice none 0 0,.slice none 0 0]) S_Catalog w3 rfl hcl0 hc1
 have row0:=(HR0.out.keep k3 id).keep kV id
 have hb5':w.heap.size+2≤w3.heap.size∧w3.heap.size<(((w3.alloc (.cells [.int .i64 0,.int .i64 0,.slice none 0 0,.slice none 0 0].toArray 50)).setRow w3.heap.size cn.toArray).heap.size):=⟨by have:=hsz.out;omega,row5.lt⟩
 have x0:=(row0.cell 0).trans HK.out
 have ld5:=Whole.run (P:=Tryz.prog) S_Catalog hcl0 row5
 have x24:=(row0.cell 24).trans hk24
 have k4:=(kB.trans k3).trans kV
 have HG:=Lib.hid (jpA (p:=fun b=>b<((w3.alloc (.cells [.int .i64 0,.int .i64 0,.slice none 0 0,.slice none 0 0].toArray 50)).setRow w3.heap.size cn.toArray).heap.size) (jah R) cn nm _ (rGCatalog_lawful.mono (rGCatalog_lawful.nix rn kV) (fun b hb=>by have:=hb.2;have:=kV.size;omega)) hsml.out (by have:=hlast.out;omega))
 obtain⟨y,hY⟩:∃y,Hid (jbU (jah R) nm=y):=⟨_,rfl⟩
 rw[hY.out]at HG hg hye0
 have hgood:=Lib.hid hg
 have hye:=Lib.hid hye0
 have HZ:=Lib.hid ((HZ.out.keep k3 id).keep kV id)
 have H4:=Lib.hid ((H2.out.nix k3).nix kV)
 have K4:=Lib.hid k4
 have HROW5:=Lib.hid row5
 have hlen5:=Lib.hid hcl0
 have hb5:=Lib.hid hb5'
 clear row5 row0 rn k3 kV k4 kB H2 hcl0 hc1 hs3 hk24 HR0 HK hb5' hg hye0
 go_wp2_with fail
 clear ld5 hst0 x0 x24
 go_fit HG.out
 rintro e w5 ⟨cy,rfl,hcy,hcy1,k5⟩
 clear HG
 generalize (w3.alloc (.cells [.int .i64 0,.int .i64 0,.slice none 0 0,.slice none 0 0].toArray 50)).setRow w3.heap.size cn.toArray=w4 at *
 generalize w3.heap.size=b5 at *
 have hcyl:=rGCatalog_lawful.len hcy
 have row5:=HROW5.out.keep k5 id
 have hst5:=jaf (P:=Tryz.prog) (cs:=cy) S_Catalog row5 hlen5.out hcyl hcy1
 have kT:Keep (·=b5) w5 (w5.setRow b5 cy.toArray):=(Keep.refl (·=b5) w5).setRow (fun _=>rfl) _
 have R5:=Lib.hid (row5.setRow cy)
 have KT:=Lib.hid kT
 have hs5:=k5.size
 have RZ:=Lib.hid ((HZ.out.keep k5 id).keep kT (fun e=>by have:=hb5.out;omega))
 have HY:=Lib.hid (rGCatalog_lawful.keep hcy kT (fun b hb e=>by have:=hb.1;have:=hb5.out;omega))
 have H6:=Lib.hid ((H4.out.nix k5).keep kT (fun b hb e=>by have:=H0.out b hb;have:=hb5.out;omega))
 have K6:=Lib.hid (((K4.out.trans k5).nix (S:=(·=b5))).trans kT)
 have S6:=Lib.hid (show w4.heap.size≤w5.heap.size from hs5)
 have S7:=Lib.hid kT.size
 have HCY:=Lib.hid hcyl
 have HC1:=Lib.hid hcy1
 have HNI:=Lib.hid (show ∀b,jai w4 w5 b→w4.heap.size≤b∧b<w5.heap.size from fun b hb=>⟨hb.1,hb.2⟩)
 clear hcy hcyl hcy1 row5 kT hs5 HROW5 k5
 by_cases hz:y.2=0
 focus
  have hR:Hid (jbs R 0 y=(repG 0 0 y.1.fVersion,addC R y.1)):=if_pos hz
  obtain⟨hsm,hyv⟩:=hgood.out hz
  have hyv2:jae y.1.fVersion:=⟨by have:=hlast.out;omega,by have:=hlast.out;omega⟩
  have HYV:=Lib.hid hyv
  clear hyv
  go_upto_region 14 with fail
  clear hst5
  generalize w5.setRow b5 cy.toArray=w6 at *
  obtain⟨lt,og,ok,bM,aC,cC,aO,cO,aS,cS,aU,cU,cssC,D,B⟩:=H6.out
  have hoC:=Lib.hid B.oC
  have hbg5:Hid (b5≠g):=by show _≠_;have:=H0.out g og;have:=hb5.out;omega
  have HSS:Hid (∀w',Keep (fun b=>b≠b5) w6 w'→(ja1 50 (.pointer (some ⟨b5,0,none⟩))).run Tryz.prog w'=.ok (.value (.agg cy.toArray)) w'):=fun w' k=>Whole.run (P:=Tryz.prog) S_Catalog HCY.out (R5.out.keep k (fun h=>h rfl))
  have kd:Keep Nix w6 w6.drew:=(Keep.refl Nix _).drew
  refine wp_region_held_drew (S:=(fun w'=>(ja1 50 (.pointer (some ⟨b5,0,none⟩))).run Tryz.prog w'=.ok (.value (.agg cy.toArray)) w')) (by kernel_rfl) (HSS.out _ kd.nix) (fun jaa=>?_)
  have HSS:=Lib.hid (fun w' (k:Keep (fun b=>b≠b5) w6.drew w')=>HSS.out w' (kd.nix.trans k))
  have R5:=Lib.hid (R5.out.keep kd id)
  have RZ:=Lib.hid (RZ.out.keep kd id)
  have HY:=Lib.hid (rGCatalog_lawful.nix HY.out kd)
  have K6:=Lib.hid (K6.out.trans kd.nix)
  have S7:=Lib.hid (Nat.le_trans S7.out kd.size)
  have HB:=Lib.hid (B.keep kd og (fun _ _ h=>h))
  clear kd B H6 lt
  generalize w6.drew=w7 at *
  have rowG:=HB.out.row
  have hvb5:Hid (∀b,OwnB (.slice aC R.cats.length cC) b→b≠b5):=fun b hb e=>by have:=H0.out b (hoC.out b hb).1;have:=hb5.out;omega
  have hgl:=H0.out g og
  refine tk 0 rfl jaa ?_
  refine tk 1 rfl jaa ?_
  refine tk 2 rfl jaa ?_
  refine tk 3 rfl jaa ?_
  refine tk 5 rfl jaa ?_
  refine wpAnyH_ready (rs:=[4,6]) (by kernel_rfl) (by simp) ?_
  refine AllReadyH.cons rfl (fun K hK=>?_) (AllReadyH.cons rfl (fun K hK=>?_) AllReadyH.nil)
  focus
   have x1:=rowG.cell 1
   (try simp only[List.getElem?_cons_succ]at x1);(try simp only[List.getElem?_cons_zero]at x1)
   go_simp
   clear x1
   refine hK.out _ _ (jaa) (fun jaa=>?_)
   clear hK K
   try simp only[Act.put,zz1,zz2,zz3,zz4,zz5,zz6]
   refine wpAnyH_ready (rs:=[6]) (by kernel_rfl) (by simp) ?_
   refine AllReadyH.cons rfl (fun K hK=>?_) AllReadyH.nil
   have hls:=jb3 (P:=Tryz.prog) jbL (by decide) cy HCY.out w7
   try simp only[zz1,zz2,zz3]
   go_simp
   clear hls
   have kA:Keep Nix w7 (w7.alloc (.cells cy.toArray 50)):=(Keep.refl Nix _).alloc _
   replace rowG:=rowG.keep kA id
   refine hK.out _ _ ((HSS.out _ kA.nix)) (fun jaa=>?_)
   refine ?h1a
  rotate_left
  focus
   have hls:=jb3 (P:=Tryz.prog) jbL (by decide) cy HCY.out w7
   try simp only[zz1,zz2,zz3]
   go_simp
   clear hls
   have kA:Keep Nix w7 (w7.alloc (.cells cy.toArray 50)):=(Keep.refl Nix _).alloc _
   replace rowG:=rowG.keep kA id
   refine hK.out _ _ ((HSS.out _ kA.nix)) (fun jaa=>?_)
   clear hK K
   try simp only[Act.put,zz1,zz2,zz3,zz4,zz5,zz6]
   refine wpAnyH_ready (rs:=[4]) (by kernel_rfl) (by simp) ?_
   refine AllReadyH.cons rfl (fun K hK=>?_) AllReadyH.nil
   have x1:=rowG.cell 1
   (try simp only[List.getElem?_cons_succ]at x1);(try simp only[List.getElem?_cons_zero]at x1)
   go_simp
   clear x1
   refine hK.out _ _ (jaa) (fun jaa=>?_)
   refine ?h1b
  rotate_left
 rotate_left 2
 ·have hR:Hid (jbs R 0 y=(repG y.2 0 0,R)):=if_neg hz
  have hz2:(y.2 == 0)=false:=by simp[hz]
  have hst:=jaf (P:=Tryz.prog) (cs:=repV y.2 0 0) S_Reply RZ.out rfl rfl rfl
  unfold repV at hst
  have kS:Keep (·=w.heap.size+1) (w5.setRow b5 cy.toArray) ((w5.setRow b5 cy.toArray).setRow (w.heap.size+1) (repV y.2 0 0).toArray):=(Keep.refl (·=w.heap.size+1) (w5.setRow b5 cy.toArray)).setRow (fun _=>rfl) _
  have HZR:=Lib.hid (RZ.out.setRow (repV y.2 0 0))
  have KS:=Lib.hid kS
  clear kS
  go_wp2_with fail
  refine bodyPost_ret (results_cell_row (by rfl) _ _ _ _ _ _ _ (by rfl) HZR.out Tryz.underlying55 (by rfl) hinfo) rfl ?_
  rw[hY.out,hR.out]
  exact⟨repV y.2 0 0,O,fun _=>False,rfl,jch _ _ hye.out u0 i0,fun b h=>h.elim,(H6.out.keep KS.out (fun b hb e=>by have:=H0.out b hb;omega)).more (Nat.le_succ n),fun b h=>.inl h,fun b h=>h,(K6.out.mono' (fun i hi e=>by have:=hb5.out;omega)).then KS.out (fun i hi e=>by omega)⟩
 case h1a | h1b=>
  clear hK K
  try simp only[Act.put,zz1,zz2,zz3,zz4,zz5,zz6]
  refine wpAnyH_ready (rs:=[7]) (by kernel_rfl) (by simp) ?_
  refine AllReadyH.cons rfl (fun K hK=>?_) AllReadyH.nil
  refine jdk (w:=w7) (cs:=cy) jbL (by rfl) (.tmp 65) (.tmp 67) (by rfl) 0 (by rfl) (by rfl) HB.out.rowC HCY.out HC1.out (by unfold maxLen;omega) (by omega) (by omega) ?_
  intro aN cN w8 own8 k8 jax
  replace rowG:=HB.out.row.keep k8 (fun h=>(hoC.out g h).2.1 rfl)
  have HO8:=Lib.hid own8
  have HF8:=Lib.hid jax
  have K8:=Lib.hid k8
  refine hK.out _ _ ((HSS.out _ (k8.mono hvb5.out))) (fun jaa=>?_)
  clear hK K
  try simp only[Act.put,zz1,zz2,zz3,zz4,zz5,zz6]
  clear own8 jax k8
  refine tk 8 rfl jaa ?_
  refine tk 9 rfl jaa ?_
  refine wpAnyH_ready (rs:=[10]) (by kernel_rfl) (by simp) ?_
  refine AllReadyH.cons rfl (fun K hK=>?_) AllReadyH.nil
  have x1:=rowG.cell 1
  (try simp only[List.getElem?_cons_succ]at x1);(try simp only[List.getElem?_cons_zero]at x1)
  have f1:=rowG.frozen 1
  go_simp
  clear x1 f1
  have kG:Keep (·=g) w8 (w8.setCell ⟨g,1,none⟩ (.slice aN (R.cats.length+1) cN)):=(Keep.refl (·=g) w8).setCell (p:=⟨g,1,none⟩) (fun _=>rfl) _
  have row9:=rowG.set 1 (.slice aN (R.cats.length+1) cN)
  (try simp only[List.set_cons_succ]at row9);(try simp only[List.set_cons_zero]at row9)
  have KG:=Lib.hid kG
  have ROW9:=Lib.hid row9
  refine hK.out _ _ ((HSS.out _ ((K8.out.mono hvb5.out).trans (kG.mono (fun b hb e=>hbg5.out (e.symm.trans hb)))))) (fun jaa=>?_)
  clear hK K
  try simp only[Act.put,zz1,zz2,zz3,zz4,zz5,zz6]
  clear rowG row9 kG
  refine wpAnyH_done (by kernel_rfl) ?_ _
  clear jaa
  generalize w8.setCell ⟨g,1,none⟩ (.slice aN (R.cats.length+1) cN)=w9 at *
  have hvlt:Hid (∀b,OwnB (.slice aN (R.cats.length+1) cN) b→b≠g∧b≠b5∧b≠w.heap.size+1∧(OwnB (.slice aC R.cats.length cC) b∨w7.heap.size≤b)):=fun b hb=>by
   have h1:=hb5.out
   have h2:=S6.out
   have h3:=S7.out
   rcases HF8.out b hb with h | h
   ·have h5:=hoC.out b h
    have h6:=H0.out b h5.1
    exact⟨h5.2.1,by omega,by omega,.inl h⟩
   ·exact⟨by omega,by omega,by omega,.inr h⟩
  have hoClt:Hid (∀b,OwnB (.slice aC R.cats.length cC) b→b<w.heap.size):=fun b hb=>H0.out b (hoC.out b hb).1
  have R59:=(R5.out.keep K8.out (fun h=>by have:=hoClt.out _ h;have:=hb5.out;omega)).keep KG.out hbg5.out
  have RZ9:=(RZ.out.keep K8.out (fun h=>by have:=hoClt.out _ h;omega)).keep KG.out (fun e=>by omega)
  have x5:w9.cell? ⟨b5,0,none⟩=some (.int .i64 y.1.fVersion):=by
   obtain⟨_,_,_,_,hcq,-⟩:=jau HY.out
   have:=R59.cell 0
   rw[hcq]at this
   exact this
  have hst:=jaf (P:=Tryz.prog) (cs:=repV 0 0 y.1.fVersion) S_Reply RZ9 rfl rfl rfl
  unfold repV at hst
  have kS:Keep (·=w.heap.size+1) w9 (w9.setRow (w.heap.size+1) (repV 0 0 y.1.fVersion).toArray):=(Keep.refl (·=w.heap.size+1) w9).setRow (fun _=>rfl) _
  have HZR:=Lib.hid (RZ9.setRow (repV 0 0 y.1.fVersion))
  have KS:=Lib.hid kS
  clear kS RZ9 R59
  go_wp2_with fail
  refine bodyPost_ret (results_cell_row (by rfl) _ _ _ _ _ _ _ (by rfl) HZR.out Tryz.underlying55 (by rfl) hinfo) rfl ?_
  have h1:=hb5.out
  have h2:=S6.out
  have h3:=S7.out
  have h8:=K8.out.size
  have h9:=KG.out.size
  have h10:=KS.out.size
  have own9:=jad (jad HO8.out KG.out (fun b hb=>(hvlt.out b hb).1)) KS.out (fun b hb=>(hvlt.out b hb).2.2.1)
  have hcyF:=rGCatalog_lawful.keep (rGCatalog_lawful.keep (rGCatalog_lawful.keep HY.out K8.out (fun b hb h=>by have:=hoClt.out _ h;have:=(HNI.out b hb).1;omega)) KG.out (fun b hb e=>by have:=(HNI.out b hb).1;omega)) KS.out (fun b hb e=>by have:=(HNI.out b hb).1;omega)
  have kAll:Keep (fun b=>b=g∨OwnB (.slice aC R.cats.length cC) b∨¬O b) w7 (w9.setRow (w.heap.size+1) (repV 0 0 y.1.fVersion).toArray):=((K8.out.mono (fun b hb=>.inr (.inl hb))).trans (KG.out.mono (fun b hb=>.inl hb))).trans (KS.out.mono (fun b hb=>.inr (.inr (fun ho=>by have:=H0.out b ho;omega))))
  have B2:=RootAt.turnC (O':=fun b=>O b∨(w4.heap.size≤b∧b<(w9.setRow (w.heap.size+1) (repV 0 0 y.1.fVersion).toArray).heap.size)) (Pn:=jai w4 w5) HB.out og (fun b h=>.inl h) kAll (ROW9.out.keep KS.out (fun e=>by omega)) own9 (fun b hb=>by
   rcases(hvlt.out b hb).2.2.2 with h | h
   ·exact .inl h
   ·have:=(own9.lt b hb).2
    exact .inr ⟨fun ho=>by have:=H0.out b ho;omega,.inr ⟨by omega,by omega⟩⟩) hcyF (fun b hb=>by
   have h:=HNI.out b hb
   refine⟨fun ho=>by have:=H0.out b ho;omega,.inr ⟨h.1,by omega⟩,fun hx=>?_⟩
   rcases(hvlt.out b hx).2.2.2 with h5 | h5
   ·have:=hoClt.out b h5;omega
   ·omega)
  rw[hY.out,hR.out]
  refine⟨repV 0 0 y.1.fVersion,fun b=>O b∨(w4.heap.size≤b∧b<(w9.setRow (w.heap.size+1) (repV 0 0 y.1.fVersion).toArray).heap.size),fun _=>False,rfl,jch _ _ i0 u0 hyv2,fun b h=>h.elim,(show IsRoot _ _ g n (addC R y.1) from⟨fun b hb=>?_,.inl og,okC ok hbig hsm HYV.out hlast.out,bM,aN,cN,aO,cO,aS,cS,aU,cU,_,D,B2⟩).more (Nat.le_succ n),fun b h=>?_,fun b h=>.inl h,?_⟩
  ·rcases hb with hb | hb
   ·have:=H0.out b hb;omega
   ·omega
  ·rcases h with h | h
   ·exact .inl h
   ·exact .inr (by omega)
  ·exact(((K6.out.mono' (fun i hi e=>by omega)).then K8.out (fun i hi h=>(hoC.out i h).1)).then KG.out (fun i hi e=>by rw[e];exact og)).then KS.out (fun i hi e=>by omega)
theorem jkx(O:Nat→Prop)(g n:Nat)(R:RootS)(ccs:List Value)(d fr tt:Int)(bad:Bool)(w:World)(H:IsRoot w O g n R)(hk:ccs[0]?=some (.int .i64 17))(hk3:ccs[3]?=some (.int .i64 d))(hk4:ccs[4]?=some (.int .i64 fr))(hk5:ccs[5]?=some (.int .i64 tt))(hk6:ccs[6]?=some (.bool bad))(htt:jae tt)(hbig:R.cats.length≤90000)
  (hg:(jaS (jah R) d fr tt bad).2=0→jb4 (jaS (jah R) d fr tt bad).1∧(jaS (jah R) d fr tt bad).1.fVersion=(jah R).fVersion+1) (hye0:jae (jaS (jah R) d fr tt bad).2) :
  Calls Tryz.prog 25 #[.pointer (some ⟨g,0,none⟩),.agg ccs.toArray] w (RunPost w O g n (jbs R 0 (jaS (jah R) d fr tt bad))):=by
 have hinfo:(Tryz.prog.info? 55).map (·.size)=some 15:=by kernel_rfl
 have i0:jae 0:=⟨by decide,by decide⟩
 have u0:jaw 0:=⟨by decide,by decide⟩
 have H0:=Lib.hid H.lt
 have hlast:=Lib.hid H.last
 have hlen:=H.ok.len.1
 have hpos:0<R.cats.length:=List.length_pos_iff.2 H.ok.ex
 have kB:=lf0 w ccs
 have row0:=lf1 w ccs
 have rowZ:=lf2 w ccs
 have HZ:=Lib.hid rowZ
 have HR0:=Lib.hid row0
 have HK:=Lib.hid hk
 have hsz:=lf3 w ccs
 have HC:=Lib.hid (jdu O g n R (((w.alloc (.cells ccs.toArray 43))).alloc (.cells #[.int .i64 0,.int .u64 0,.int .i64 0,.bool false,.slice none 0 0,.slice none 0 0,.int .i64 0,.int .i64 0,.slice none 0 0,.slice none 0 0,.int .i64 0,.int .i64 0,.slice none 0 0,.int .i64 0,.slice none 0 0] 55)) (H.nix kB))
 have H2:=Lib.hid (H.nix kB)
 have hmem:jah R∈R.cats:=by
  unfold jah
  rw[List.getLast?_eq_getElem?,List.getElem?_eq_getElem (by omega)]
  exact List.getElem_mem _
 have hsml:=Lib.hid (H.ok.small _ hmem).1
 clear rowZ row0 hk hmem
 go_enter Tryz.func25,Tryz.ntmps25
 go_wp2_with fail
 go_fit HC.out
 rintro e w3 ⟨cn,rfl,rn,k3⟩
 clear HC
 have hs3:=k3.size
 have hcl0:=rGCatalog_lawful.len rn
 have hc1:=jay rn
 obtain⟨hst0,row5,kV⟩:=jds (P:=Tryz.prog) (zs:=[.int .i64 0,.int .i64 0,.slice none 0 0,.slice none 0 0]) S_Catalog w3 rfl hcl0 hc1
 have row0:=(HR0.out.keep k3 id).keep kV id
 have hb5':w.heap.size+2≤w3.heap.size∧w3.heap.size<(((w3.alloc (.cells [.int .i64 0,.int .i64 0,.slice none 0 0,.slice none 0 0].toArray 50)).setRow w3.heap.size cn.toArray).heap.size):=⟨by have:=hsz.out;omega,row5.lt⟩
 have x0:=(row0.cell 0).trans HK.out
 have ld5:=Whole.run (P:=Tryz.prog) S_Catalog hcl0 row5
 have x3:=(row0.cell 3).trans hk3
 have x4:=(row0.cell 4).trans hk4
 have x5:=(row0.cell 5).trans hk5
 have x6:=(row0.cell 6).trans hk6
 have k4:=(kB.trans k3).trans kV
 have HG:=Lib.hid (jpC (p:=fun b=>b<((w3.alloc (.cells [.int .i64 0,.int .i64 0,.slice none 0 0,.slice none 0 0].toArray 50)).setRow w3.heap.size cn.toArray).heap.size) (jah R) cn d fr tt bad _ (rGCatalog_lawful.mono (rGCatalog_lawful.nix rn kV) (fun b hb=>by have:=hb.2;have:=kV.size;omega)) hsml.out (by have:=hlast.out;omega) htt)
 obtain⟨y,hY⟩:∃y,Hid (jaS (jah R) d fr tt bad=y):=⟨_,rfl⟩
 rw[hY.out]at HG hg hye0
 have hgood:=Lib.hid hg
 have hye:=Lib.hid hye0
 have HZ:=Lib.hid ((HZ.out.keep k3 id).keep kV id)
 have H4:=Lib.hid ((H2.out.nix k3).nix kV)
 have K4:=Lib.hid k4
 have HROW5:=Lib.hid row5
 have hlen5:=Lib.hid hcl0
 have hb5:=Lib.hid hb5'
 clear row5 row0 rn k3 kV k4 kB H2 hcl0 hc1 hs3 hk3 hk4 hk5 hk6 HR0 HK hb5' hg hye0
 go_wp2_with fail
 clear ld5 hst0 x0 x3 x4 x5 x6
 go_fit HG.out
 rintro e w5 ⟨cy,rfl,hcy,hcy1,k5⟩
 clear HG
 generalize (w3.alloc (.cells [.int .i64 0,.int .i64 0,.slice none 0 0,.slice none 0 0].toArray 50)).setRow w3.heap.size cn.toArray=w4 at *
 generalize w3.heap.size=b5 at *
 have hcyl:=rGCatalog_lawful.len hcy
 have row5:=HROW5.out.keep k5 id
 have hst5:=jaf (P:=Tryz.prog) (cs:=cy) S_Catalog row5 hlen5.out hcyl hcy1
 have kT:Keep (·=b5) w5 (w5.setRow b5 cy.toArray):=(Keep.refl (·=b5) w5).setRow (fun _=>rfl) _
 have R5:=Lib.hid (row5.setRow cy)
 have KT:=Lib.hid kT
 have hs5:=k5.size
 have RZ:=Lib.hid ((HZ.out.keep k5 id).keep kT (fun e=>by have:=hb5.out;omega))
 have HY:=Lib.hid (rGCatalog_lawful.keep hcy kT (fun b hb e=>by have:=hb.1;have:=hb5.out;omega))
 have H6:=Lib.hid ((H4.out.nix k5).keep kT (fun b hb e=>by have:=H0.out b hb;have:=hb5.out;omega))
 have K6:=Lib.hid (((K4.out.trans k5).nix (S:=(·=b5))).trans kT)
 have S6:=Lib.hid (show w4.heap.size≤w5.heap.size from hs5)
 have S7:=Lib.hid kT.size
 have HCY:=Lib.hid hcyl
 have HC1:=Lib.hid hcy1
 have HNI:=Lib.hid (show ∀b,jai w4 w5 b→w4.heap.size≤b∧b<w5.heap.size from fun b hb=>⟨hb.1,hb.2⟩)
 clear hcy hcyl hcy1 row5 kT hs5 HROW5 k5
 by_cases hz:y.2=0
 focus
  have hR:Hid (jbs R 0 y=(repG 0 0 y.1.fVersion,addC R y.1)):=if_pos hz
  obtain⟨hsm,hyv⟩:=hgood.out hz
  have hyv2:jae y.1.fVersion:=⟨by have:=hlast.out;omega,by have:=hlast.out;omega⟩
  have HYV:=Lib.hid hyv
  clear hyv
  go_upto_region 14 with fail
  clear hst5
  generalize w5.setRow b5 cy.toArray=w6 at *
  obtain⟨lt,og,ok,bM,aC,cC,aO,cO,aS,cS,aU,cU,cssC,D,B⟩:=H6.out
  have hoC:=Lib.hid B.oC
  have hbg5:Hid (b5≠g):=by show _≠_;have:=H0.out g og;have:=hb5.out;omega
  have HSS:Hid (∀w',Keep (fun b=>b≠b5) w6 w'→(ja1 50 (.pointer (some ⟨b5,0,none⟩))).run Tryz.prog w'=.ok (.value (.agg cy.toArray)) w'):=fun w' k=>Whole.run (P:=Tryz.prog) S_Catalog HCY.out (R5.out.keep k (fun h=>h rfl))
  have kd:Keep Nix w6 w6.drew:=(Keep.refl Nix _).drew
  refine wp_region_held_drew (S:=(fun w'=>(ja1 50 (.pointer (some ⟨b5,0,none⟩))).run Tryz.prog w'=.ok (.value (.agg cy.toArray)) w')) (by kernel_rfl) (HSS.out _ kd.nix) (fun jaa=>?_)
  have HSS:=Lib.hid (fun w' (k:Keep (fun b=>b≠b5) w6.drew w')=>HSS.out w' (kd.nix.trans k))
  have R5:=Lib.hid (R5.out.keep kd id)
  have RZ:=Lib.hid (RZ.out.keep kd id)
  have HY:=Lib.hid (rGCatalog_lawful.nix HY.out kd)
  have K6:=Lib.hid (K6.out.trans kd.nix)
  have S7:=Lib.hid (Nat.le_trans S7.out kd.size)
  have HB:=Lib.hid (B.keep kd og (fun _ _ h=>h))
  clear kd B H6 lt
  generalize w6.drew=w7 at *
  have rowG:=HB.out.row
  have hvb5:Hid (∀b,OwnB (.slice aC R.cats.length cC) b→b≠b5):=fun b hb e=>by have:=H0.out b (hoC.out b hb).1;have:=hb5.out;omega
  have hgl:=H0.out g og
  refine tk 0 rfl jaa ?_
  refine tk 1 rfl jaa ?_
  refine tk 2 rfl jaa ?_
  refine tk 3 rfl jaa ?_
  refine tk 5 rfl jaa ?_
  refine wpAnyH_ready (rs:=[4,6]) (by kernel_rfl) (by simp) ?_
  refine AllReadyH.cons rfl (fun K hK=>?_) (AllReadyH.cons rfl (fun K hK=>?_) AllReadyH.nil)
  focus
   have x1:=rowG.cell 1
   (try simp only[List.getElem?_cons_succ]at x1);(try simp only[List.getElem?_cons_zero]at x1)
   go_simp
   clear x1
   refine hK.out _ _ (jaa) (fun jaa=>?_)
   clear hK K
   try simp only[Act.put,zz1,zz2,zz3,zz4,zz5,zz6]
   refine wpAnyH_ready (rs:=[6]) (by kernel_rfl) (by simp) ?_
   refine AllReadyH.cons rfl (fun K hK=>?_) AllReadyH.nil
   have hls:=jb3 (P:=Tryz.prog) jbL (by decide) cy HCY.out w7
   try simp only[zz1,zz2,zz3]
   go_simp
   clear hls
   have kA:Keep Nix w7 (w7.alloc (.cells cy.toArray 50)):=(Keep.refl Nix _).alloc _
   replace rowG:=rowG.keep kA id
   refine hK.out _ _ ((HSS.out _ kA.nix)) (fun jaa=>?_)
   refine ?h1a
  rotate_left
  focus
   have hls:=jb3 (P:=Tryz.prog) jbL (by decide) cy HCY.out w7
   try simp only[zz1,zz2,zz3]
   go_simp
   clear hls
   have kA:Keep Nix w7 (w7.alloc (.cells cy.toArray 50)):=(Keep.refl Nix _).alloc _
   replace rowG:=rowG.keep kA id
   refine hK.out _ _ ((HSS.out _ kA.nix)) (fun jaa=>?_)
   clear hK K
   try simp only[Act.put,zz1,zz2,zz3,zz4,zz5,zz6]
   refine wpAnyH_ready (rs:=[4]) (by kernel_rfl) (by simp) ?_
   refine AllReadyH.cons rfl (fun K hK=>?_) AllReadyH.nil
   have x1:=rowG.cell 1
   (try simp only[List.getElem?_cons_succ]at x1);(try simp only[List.getElem?_cons_zero]at x1)
   go_simp
   clear x1
   refine hK.out _ _ (jaa) (fun jaa=>?_)
   refine ?h1b
  rotate_left
 rotate_left 2
 ·have hR:Hid (jbs R 0 y=(repG y.2 0 0,R)):=if_neg hz
  have hz2:(y.2 == 0)=false:=by simp[hz]
  have hst:=jaf (P:=Tryz.prog) (cs:=repV y.2 0 0) S_Reply RZ.out rfl rfl rfl
  unfold repV at hst
  have kS:Keep (·=w.heap.size+1) (w5.setRow b5 cy.toArray) ((w5.setRow b5 cy.toArray).setRow (w.heap.size+1) (repV y.2 0 0).toArray):=(Keep.refl (·=w.heap.size+1) (w5.setRow b5 cy.toArray)).setRow (fun _=>rfl) _
  have HZR:=Lib.hid (RZ.out.setRow (repV y.2 0 0))
  have KS:=Lib.hid kS
  clear kS
  go_wp2_with fail
  refine bodyPost_ret (results_cell_row (by rfl) _ _ _ _ _ _ _ (by rfl) HZR.out Tryz.underlying55 (by rfl) hinfo) rfl ?_
  rw[hY.out,hR.out]
  exact⟨repV y.2 0 0,O,fun _=>False,rfl,jch _ _ hye.out u0 i0,fun b h=>h.elim,(H6.out.keep KS.out (fun b hb e=>by have:=H0.out b hb;omega)).more (Nat.le_succ n),fun b h=>.inl h,fun b h=>h,(K6.out.mono' (fun i hi e=>by have:=hb5.out;omega)).then KS.out (fun i hi e=>by omega)⟩
 case h1a | h1b=>
  clear hK K
  try simp only[Act.put,zz1,zz2,zz3,zz4,zz5,zz6]
  refine wpAnyH_ready (rs:=[7]) (by kernel_rfl) (by simp) ?_
  refine AllReadyH.cons rfl (fun K hK=>?_) AllReadyH.nil
  refine jdk (w:=w7) (cs:=cy) jbL (by rfl) (.tmp 65) (.tmp 67) (by rfl) 0 (by rfl) (by rfl) HB.out.rowC HCY.out HC1.out (by unfold maxLen;omega) (by omega) (by omega) ?_
  intro aN cN w8 own8 k8 jax
  replace rowG:=HB.out.row.keep k8 (fun h=>(hoC.out g h).2.1 rfl)
  have HO8:=Lib.hid own8
  have HF8:=Lib.hid jax
  have K8:=Lib.hid k8
  refine hK.out _ _ ((HSS.out _ (k8.mono hvb5.out))) (fun jaa=>?_)
  clear hK K
  try simp only[Act.put,zz1,zz2,zz3,zz4,zz5,zz6]
  clear own8 jax k8
  refine tk 8 rfl jaa ?_
  refine tk 9 rfl jaa ?_
  refine wpAnyH_ready (rs:=[10]) (by kernel_rfl) (by simp) ?_
  refine AllReadyH.cons rfl (fun K hK=>?_) AllReadyH.nil
  have x1:=rowG.cell 1
  (try simp only[List.getElem?_cons_succ]at x1);(try simp only[List.getElem?_cons_zero]at x1)
  have f1:=rowG.frozen 1
  go_simp
  clear x1 f1
  have kG:Keep (·=g) w8 (w8.setCell ⟨g,1,none⟩ (.slice aN (R.cats.length+1) cN)):=(Keep.refl (·=g) w8).setCell (p:=⟨g,1,none⟩) (fun _=>rfl) _
  have row9:=rowG.set 1 (.slice aN (R.cats.length+1) cN)
  (try simp only[List.set_cons_succ]at row9);(try simp only[List.set_cons_zero]at row9)
  have KG:=Lib.hid kG
  have ROW9:=Lib.hid row9
  refine hK.out _ _ ((HSS.out _ ((K8.out.mono hvb5.out).trans (kG.mono (fun b hb e=>hbg5.out (e.symm.trans hb)))))) (fun jaa=>?_)
  clear hK K
  try simp only[Act.put,zz1,zz2,zz3,zz4,zz5,zz6]
  clear rowG row9 kG
  refine wpAnyH_done (by kernel_rfl) ?_ _
  clear jaa
  generalize w8.setCell ⟨g,1,none⟩ (.slice aN (R.cats.length+1) cN)=w9 at *
  have hvlt:Hid (∀b,OwnB (.slice aN (R.cats.length+1) cN) b→b≠g∧b≠b5∧b≠w.heap.size+1∧(OwnB (.slice aC R.cats.length cC) b∨w7.heap.size≤b)):=fun b hb=>by
   have h1:=hb5.out
   have h2:=S6.out
   have h3:=S7.out
   rcases HF8.out b hb with h | h
   ·have h5:=hoC.out b h
    have h6:=H0.out b h5.1
    exact⟨h5.2.1,by omega,by omega,.inl h⟩
   ·exact⟨by omega,by omega,by omega,.inr h⟩
  have hoClt:Hid (∀b,OwnB (.slice aC R.cats.length cC) b→b<w.heap.size):=fun b hb=>H0.out b (hoC.out b hb).1
  have R59:=(R5.out.keep K8.out (fun h=>by have:=hoClt.out _ h;have:=hb5.out;omega)).keep KG.out hbg5.out
  have RZ9:=(RZ.out.keep K8.out (fun h=>by have:=hoClt.out _ h;omega)).keep KG.out (fun e=>by omega)
  have x5:w9.cell? ⟨b5,0,none⟩=some (.int .i64 y.1.fVersion):=by
   obtain⟨_,_,_,_,hcq,-⟩:=jau HY.out
   have:=R59.cell 0
   rw[hcq]at this
   exact this
  have hst:=jaf (P:=Tryz.prog) (cs:=repV 0 0 y.1.fVersion) S_Reply RZ9 rfl rfl rfl
  unfold repV at hst
  have kS:Keep (·=w.heap.size+1) w9 (w9.setRow (w.heap.size+1) (repV 0 0 y.1.fVersion).toArray):=(Keep.refl (·=w.heap.size+1) w9).setRow (fun _=>rfl) _
  have HZR:=Lib.hid (RZ9.setRow (repV 0 0 y.1.fVersion))
  have KS:=Lib.hid kS
  clear kS RZ9 R59
  go_wp2_with fail
  refine bodyPost_ret (results_cell_row (by rfl) _ _ _ _ _ _ _ (by rfl) HZR.out Tryz.underlying55 (by rfl) hinfo) rfl ?_
  have h1:=hb5.out
  have h2:=S6.out
  have h3:=S7.out
  have h8:=K8.out.size
  have h9:=KG.out.size
  have h10:=KS.out.size
  have own9:=jad (jad HO8.out KG.out (fun b hb=>(hvlt.out b hb).1)) KS.out (fun b hb=>(hvlt.out b hb).2.2.1)
  have hcyF:=rGCatalog_lawful.keep (rGCatalog_lawful.keep (rGCatalog_lawful.keep HY.out K8.out (fun b hb h=>by have:=hoClt.out _ h;have:=(HNI.out b hb).1;omega)) KG.out (fun b hb e=>by have:=(HNI.out b hb).1;omega)) KS.out (fun b hb e=>by have:=(HNI.out b hb).1;omega)
  have kAll:Keep (fun b=>b=g∨OwnB (.slice aC R.cats.length cC) b∨¬O b) w7 (w9.setRow (w.heap.size+1) (repV 0 0 y.1.fVersion).toArray):=((K8.out.mono (fun b hb=>.inr (.inl hb))).trans (KG.out.mono (fun b hb=>.inl hb))).trans (KS.out.mono (fun b hb=>.inr (.inr (fun ho=>by have:=H0.out b ho;omega))))
  have B2:=RootAt.turnC (O':=fun b=>O b∨(w4.heap.size≤b∧b<(w9.setRow (w.heap.size+1) (repV 0 0 y.1.fVersion).toArray).heap.size)) (Pn:=jai w4 w5) HB.out og (fun b h=>.inl h) kAll (ROW9.out.keep KS.out (fun e=>by omega)) own9 (fun b hb=>by
   rcases(hvlt.out b hb).2.2.2 with h | h
   ·exact .inl h
   ·have:=(own9.lt b hb).2
    exact .inr ⟨fun ho=>by have:=H0.out b ho;omega,.inr ⟨by omega,by omega⟩⟩) hcyF (fun b hb=>by
   have h:=HNI.out b hb
   refine⟨fun ho=>by have:=H0.out b ho;omega,.inr ⟨h.1,by omega⟩,fun hx=>?_⟩
   rcases(hvlt.out b hx).2.2.2 with h5 | h5
   ·have:=hoClt.out b h5;omega
   ·omega)
  rw[hY.out,hR.out]
  refine⟨repV 0 0 y.1.fVersion,fun b=>O b∨(w4.heap.size≤b∧b<(w9.setRow (w.heap.size+1) (repV 0 0 y.1.fVersion).toArray).heap.size),fun _=>False,rfl,jch _ _ i0 u0 hyv2,fun b h=>h.elim,(show IsRoot _ _ g n (addC R y.1) from⟨fun b hb=>?_,.inl og,okC ok hbig hsm HYV.out hlast.out,bM,aN,cN,aO,cO,aS,cS,aU,cU,_,D,B2⟩).more (Nat.le_succ n),fun b h=>?_,fun b h=>.inl h,?_⟩
  ·rcases hb with hb | hb
   ·have:=H0.out b hb;omega
   ·omega
  ·rcases h with h | h
   ·exact .inl h
   ·exact .inr (by omega)
  ·exact(((K6.out.mono' (fun i hi e=>by omega)).then K8.out (fun i hi h=>(hoC.out i h).1)).then KG.out (fun i hi e=>by rw[e];exact og)).then KS.out (fun i hi e=>by omega)
theorem jjA(O:Nat→Prop)(g n:Nat)(R:RootS)(ccs csx:List Value)(x:GIndex)(nm:List UInt8)(IDV:Int)(hID:IntKind.u64.wrap (jah R).fNext=IDV)(p:Nat→Prop)(w:World)(H:IsRoot w O g n R)(hk:ccs[0]?=some (.int .i64 15))(hk24:ccs[24]?=some (.string (strB nm)))(hcx:(ccs.drop 17).take 7=csx)(hx:jaZ w p csx x)(hp:∀b,p b→b<w.heap.size)(hxs:x.fColumns.length*8≤140737488355328)(hbig:R.cats.length≤90000)
  (hg:(jaH (jah R) x nm).2=0→jb4 (jaH (jah R) x nm).1∧(jaH (jah R) x nm).1.fVersion=(jah R).fVersion+1) (hye0:jae (jaH (jah R) x nm).2) :
  Calls Tryz.prog 25 #[.pointer (some ⟨g,0,none⟩),.agg ccs.toArray] w (RunPost w O g n (jbs R IDV (jaH (jah R) x nm))):=by
 have hinfo:(Tryz.prog.info? 55).map (·.size)=some 15:=by kernel_rfl
 have i0:jae 0:=⟨by decide,by decide⟩
 have u0:jaw 0:=⟨by decide,by decide⟩
 have H0:=Lib.hid H.lt
 have hlast:=Lib.hid H.last
 have hlen:=H.ok.len.1
 have hpos:0<R.cats.length:=List.length_pos_iff.2 H.ok.ex
 have kB:=lf0 w ccs
 have row0:=lf1 w ccs
 have rowZ:=lf2 w ccs
 have HZ:=Lib.hid rowZ
 have HR0:=Lib.hid row0
 have HK:=Lib.hid hk
 have hsz:=lf3 w ccs
 have HC:=Lib.hid (jdu O g n R (((w.alloc (.cells ccs.toArray 43))).alloc (.cells #[.int .i64 0,.int .u64 0,.int .i64 0,.bool false,.slice none 0 0,.slice none 0 0,.int .i64 0,.int .i64 0,.slice none 0 0,.slice none 0 0,.int .i64 0,.int .i64 0,.slice none 0 0,.int .i64 0,.slice none 0 0] 55)) (H.nix kB))
 have H2:=Lib.hid (H.nix kB)
 have hmem:jah R∈R.cats:=by
  unfold jah
  rw[List.getLast?_eq_getElem?,List.getElem?_eq_getElem (by omega)]
  exact List.getElem_mem _
 have hsml:=Lib.hid (H.ok.small _ hmem).1
 clear rowZ row0 hk hmem
 go_enter Tryz.func25,Tryz.ntmps25
 go_wp2_with fail
 go_fit HC.out
 rintro e w3 ⟨cn,rfl,rn,k3⟩
 clear HC
 have hs3:=k3.size
 have hcl0:=rGCatalog_lawful.len rn
 have hc1:=jay rn
 obtain⟨hst0,row5,kV⟩:=jds (P:=Tryz.prog) (zs:=[.int .i64 0,.int .i64 0,.slice none 0 0,.slice none 0 0]) S_Catalog w3 rfl hcl0 hc1
 have row0:=(HR0.out.keep k3 id).keep kV id
 have hb5':w.heap.size+2≤w3.heap.size∧w3.heap.size<(((w3.alloc (.cells [.int .i64 0,.int .i64 0,.slice none 0 0,.slice none 0 0].toArray 50)).setRow w3.heap.size cn.toArray).heap.size):=⟨by have:=hsz.out;omega,row5.lt⟩
 have x0:=(row0.cell 0).trans HK.out
 have ld5:=Whole.run (P:=Tryz.prog) S_Catalog hcl0 row5
 have x24:=(row0.cell 24).trans hk24
 have hlx:=rGIndex_lawful.len hx
 have z1:((w3.alloc (.cells [.int .i64 0,.int .i64 0,.slice none 0 0,.slice none 0 0].toArray 50)).setRow w3.heap.size cn.toArray).cell? ⟨w3.heap.size,1,none⟩=some (.int .i64 (jah R).fNext):=by
  obtain⟨_,_,_,_,hcq,-⟩:=jau rn
  have:=row5.cell 1
  rw[hcq]at this ⊢
  exact this
 have ldI:(ja1 41 (.pointer (some ⟨w.heap.size,17,none⟩))).run Tryz.prog ((w3.alloc (.cells [.int .i64 0,.int .i64 0,.slice none 0 0,.slice none 0 0].toArray 50)).setRow w3.heap.size cn.toArray)=.ok (.value (.agg csx.toArray)) ((w3.alloc (.cells [.int .i64 0,.int .i64 0,.slice none 0 0,.slice none 0 0].toArray 50)).setRow w3.heap.size cn.toArray):=Whole.at S_Index hlx (fun j u hu=>by
  rw[row0.cell]
  rw[←hcx,List.getElem?_take]at hu
  split at hu
  ·rw[List.getElem?_drop]at hu
   exact hu
  ·cases hu)
 have k4:=(kB.trans k3).trans kV
 have HG:=Lib.hid (jkE (p:=fun b=>b<((w3.alloc (.cells [.int .i64 0,.int .i64 0,.slice none 0 0,.slice none 0 0].toArray 50)).setRow w3.heap.size cn.toArray).heap.size) (jah R) cn x csx nm _ (rGCatalog_lawful.mono (rGCatalog_lawful.nix rn kV) (fun b hb=>by have:=hb.2;have:=kV.size;omega)) (rGIndex_lawful.mono (rGIndex_lawful.nix hx k4) (fun b hb=>by have:=hp b hb;have:=k4.size;omega)) hsml.out hxs (by have:=hlast.out;omega) (fun b hb=>hb))
 have hnu:jaw (IntKind.u64.wrap (jah R).fNext):=by unfold jaw IntKind.wrap;simp[IntKind.bits,IntKind.signed];omega
 obtain⟨y,hY⟩:∃y,Hid (jaH (jah R) x nm=y):=⟨_,rfl⟩
 rw[hY.out]at HG hg hye0
 rw[hID]at hnu
 have hgood:=Lib.hid hg
 have hye:=Lib.hid hye0
 have HZ:=Lib.hid ((HZ.out.keep k3 id).keep kV id)
 have H4:=Lib.hid ((H2.out.nix k3).nix kV)
 have K4:=Lib.hid k4
 have HROW5:=Lib.hid row5
 have hlen5:=Lib.hid hcl0
 have hb5:=Lib.hid hb5'
 clear row5 row0 rn k3 kV k4 kB H2 hcl0 hc1 hs3 hk24 hcx hx hlx hp HR0 HK hb5' hg hye0
 go_wp2_with fail
 clear ld5 ldI hst0 x0 x24 z1 hID
 go_fit HG.out
 rintro e w5 ⟨cy,rfl,hcy,hcy1,k5⟩
 clear HG
 generalize (w3.alloc (.cells [.int .i64 0,.int .i64 0,.slice none 0 0,.slice none 0 0].toArray 50)).setRow w3.heap.size cn.toArray=w4 at *
 generalize w3.heap.size=b5 at *
 have hcyl:=rGCatalog_lawful.len hcy
 have row5:=HROW5.out.keep k5 id
 have hst5:=jaf (P:=Tryz.prog) (cs:=cy) S_Catalog row5 hlen5.out hcyl hcy1
 have kT:Keep (·=b5) w5 (w5.setRow b5 cy.toArray):=(Keep.refl (·=b5) w5).setRow (fun _=>rfl) _
 have R5:=Lib.hid (row5.setRow cy)
 have KT:=Lib.hid kT
 have hs5:=k5.size
 have RZ:=Lib.hid ((HZ.out.keep k5 id).keep kT (fun e=>by have:=hb5.out;omega))
 have HY:=Lib.hid (rGCatalog_lawful.keep hcy kT (fun b hb e=>by have:=hb.1;have:=hb5.out;omega))
 have H6:=Lib.hid ((H4.out.nix k5).keep kT (fun b hb e=>by have:=H0.out b hb;have:=hb5.out;omega))
 have K6:=Lib.hid (((K4.out.trans k5).nix (S:=(·=b5))).trans kT)
 have S6:=Lib.hid (show w4.heap.size≤w5.heap.size from hs5)
 have S7:=Lib.hid kT.size
 have HCY:=Lib.hid hcyl
 have HC1:=Lib.hid hcy1
 have HNI:=Lib.hid (show ∀b,jai w4 w5 b→w4.heap.size≤b∧b<w5.heap.size from fun b hb=>⟨hb.1,hb.2⟩)
 clear hcy hcyl hcy1 row5 kT hs5 HROW5 k5
 by_cases hz:y.2=0
 focus
  have hR:Hid (jbs R IDV y=(repG 0 IDV y.1.fVersion,addC R y.1)):=if_pos hz
  obtain⟨hsm,hyv⟩:=hgood.out hz
  have hyv2:jae y.1.fVersion:=⟨by have:=hlast.out;omega,by have:=hlast.out;omega⟩
  have HYV:=Lib.hid hyv
  clear hyv
  go_upto_region 14 with fail
  clear hst5
  generalize w5.setRow b5 cy.toArray=w6 at *
  obtain⟨lt,og,ok,bM,aC,cC,aO,cO,aS,cS,aU,cU,cssC,D,B⟩:=H6.out
  have hoC:=Lib.hid B.oC
  have hbg5:Hid (b5≠g):=by show _≠_;have:=H0.out g og;have:=hb5.out;omega
  have HSS:Hid (∀w',Keep (fun b=>b≠b5) w6 w'→(ja1 50 (.pointer (some ⟨b5,0,none⟩))).run Tryz.prog w'=.ok (.value (.agg cy.toArray)) w'):=fun w' k=>Whole.run (P:=Tryz.prog) S_Catalog HCY.out (R5.out.keep k (fun h=>h rfl))
  have kd:Keep Nix w6 w6.drew:=(Keep.refl Nix _).drew
  refine wp_region_held_drew (S:=(fun w'=>(ja1 50 (.pointer (some ⟨b5,0,none⟩))).run Tryz.prog w'=.ok (.value (.agg cy.toArray)) w')) (by kernel_rfl) (HSS.out _ kd.nix) (fun jaa=>?_)
  have HSS:=Lib.hid (fun w' (k:Keep (fun b=>b≠b5) w6.drew w')=>HSS.out w' (kd.nix.trans k))
  have R5:=Lib.hid (R5.out.keep kd id)
  have RZ:=Lib.hid (RZ.out.keep kd id)
  have HY:=Lib.hid (rGCatalog_lawful.nix HY.out kd)
  have K6:=Lib.hid (K6.out.trans kd.nix)
  have S7:=Lib.hid (Nat.le_trans S7.out kd.size)
  have HB:=Lib.hid (B.keep kd og (fun _ _ h=>h))
  clear kd B H6 lt
  generalize w6.drew=w7 at *
  have rowG:=HB.out.row
  have hvb5:Hid (∀b,OwnB (.slice aC R.cats.length cC) b→b≠b5):=fun b hb e=>by have:=H0.out b (hoC.out b hb).1;have:=hb5.out;omega
  have hgl:=H0.out g og
  refine tk 0 rfl jaa ?_
  refine tk 1 rfl jaa ?_
  refine tk 2 rfl jaa ?_
  refine tk 3 rfl jaa ?_
  refine tk 5 rfl jaa ?_
  refine wpAnyH_ready (rs:=[4,6]) (by kernel_rfl) (by simp) ?_
  refine AllReadyH.cons rfl (fun K hK=>?_) (AllReadyH.cons rfl (fun K hK=>?_) AllReadyH.nil)
  focus
   have x1:=rowG.cell 1
   (try simp only[List.getElem?_cons_succ]at x1);(try simp only[List.getElem?_cons_zero]at x1)
   go_simp
   clear x1
   refine hK.out _ _ (jaa) (fun jaa=>?_)
   clear hK K
   try simp only[Act.put,zz1,zz2,zz3,zz4,zz5,zz6]
   refine wpAnyH_ready (rs:=[6]) (by kernel_rfl) (by simp) ?_
   refine AllReadyH.cons rfl (fun K hK=>?_) AllReadyH.nil
   have hls:=jb3 (P:=Tryz.prog) jbL (by decide) cy HCY.out w7
   try simp only[zz1,zz2,zz3]
   go_simp
   clear hls
   have kA:Keep Nix w7 (w7.alloc (.cells cy.toArray 50)):=(Keep.refl Nix _).alloc _
   replace rowG:=rowG.keep kA id
   refine hK.out _ _ ((HSS.out _ kA.nix)) (fun jaa=>?_)
   refine ?h1a
  rotate_left
  focus
   have hls:=jb3 (P:=Tryz.prog) jbL (by decide) cy HCY.out w7
   try simp only[zz1,zz2,zz3]
   go_simp
   clear hls
   have kA:Keep Nix w7 (w7.alloc (.cells cy.toArray 50)):=(Keep.refl Nix _).alloc _
   replace rowG:=rowG.keep kA id
   refine hK.out _ _ ((HSS.out _ kA.nix)) (fun jaa=>?_)
   clear hK K
   try simp only[Act.put,zz1,zz2,zz3,zz4,zz5,zz6]
   refine wpAnyH_ready (rs:=[4]) (by kernel_rfl) (by simp) ?_
   refine AllReadyH.cons rfl (fun K hK=>?_) AllReadyH.nil
   have x1:=rowG.cell 1
   (try simp only[List.getElem?_cons_succ]at x1);(try simp only[List.getElem?_cons_zero]at x1)
   go_simp
   clear x1
   refine hK.out _ _ (jaa) (fun jaa=>?_)
   refine ?h1b
  rotate_left
 rotate_left 2
 ·have hR:Hid (jbs R IDV y=(repG y.2 0 0,R)):=if_neg hz
  have hz2:(y.2 == 0)=false:=by simp[hz]
  have hst:=jaf (P:=Tryz.prog) (cs:=repV y.2 0 0) S_Reply RZ.out rfl rfl rfl
  unfold repV at hst
  have kS:Keep (·=w.heap.size+1) (w5.setRow b5 cy.toArray) ((w5.setRow b5 cy.toArray).setRow (w.heap.size+1) (repV y.2 0 0).toArray):=(Keep.refl (·=w.heap.size+1) (w5.setRow b5 cy.toArray)).setRow (fun _=>rfl) _
  have HZR:=Lib.hid (RZ.out.setRow (repV y.2 0 0))
  have KS:=Lib.hid kS
  clear kS
  go_wp2_with fail
  refine bodyPost_ret (results_cell_row (by rfl) _ _ _ _ _ _ _ (by rfl) HZR.out Tryz.underlying55 (by rfl) hinfo) rfl ?_
  rw[hY.out,hR.out]
  exact⟨repV y.2 0 0,O,fun _=>False,rfl,jch _ _ hye.out u0 i0,fun b h=>h.elim,(H6.out.keep KS.out (fun b hb e=>by have:=H0.out b hb;omega)).more (Nat.le_succ n),fun b h=>.inl h,fun b h=>h,(K6.out.mono' (fun i hi e=>by have:=hb5.out;omega)).then KS.out (fun i hi e=>by omega)⟩
 case h1a | h1b=>
  clear hK K
  try simp only[Act.put,zz1,zz2,zz3,zz4,zz5,zz6]
  refine wpAnyH_ready (rs:=[7]) (by kernel_rfl) (by simp) ?_
  refine AllReadyH.cons rfl (fun K hK=>?_) AllReadyH.nil
  refine jdk (w:=w7) (cs:=cy) jbL (by rfl) (.tmp 65) (.tmp 67) (by rfl) 0 (by rfl) (by rfl) HB.out.rowC HCY.out HC1.out (by unfold maxLen;omega) (by omega) (by omega) ?_
  intro aN cN w8 own8 k8 jax
  replace rowG:=HB.out.row.keep k8 (fun h=>(hoC.out g h).2.1 rfl)
  have HO8:=Lib.hid own8
  have HF8:=Lib.hid jax
  have K8:=Lib.hid k8
  refine hK.out _ _ ((HSS.out _ (k8.mono hvb5.out))) (fun jaa=>?_)
  clear hK K
  try simp only[Act.put,zz1,zz2,zz3,zz4,zz5,zz6]
  clear own8 jax k8
  refine tk 8 rfl jaa ?_
  refine tk 9 rfl jaa ?_
  refine wpAnyH_ready (rs:=[10]) (by kernel_rfl) (by simp) ?_
  refine AllReadyH.cons rfl (fun K hK=>?_) AllReadyH.nil
  have x1:=rowG.cell 1
  (try simp only[List.getElem?_cons_succ]at x1);(try simp only[List.getElem?_cons_zero]at x1)
  have f1:=rowG.frozen 1
  go_simp
  clear x1 f1
  have kG:Keep (·=g) w8 (w8.setCell ⟨g,1,none⟩ (.slice aN (R.cats.length+1) cN)):=(Keep.refl (·=g) w8).setCell (p:=⟨g,1,none⟩) (fun _=>rfl) _
  have row9:=rowG.set 1 (.slice aN (R.cats.length+1) cN)
  (try simp only[List.set_cons_succ]at row9);(try simp only[List.set_cons_zero]at row9)
  have KG:=Lib.hid kG
  have ROW9:=Lib.hid row9
  refine hK.out _ _ ((HSS.out _ ((K8.out.mono hvb5.out).trans (kG.mono (fun b hb e=>hbg5.out (e.symm.trans hb)))))) (fun jaa=>?_)
  clear hK K
  try simp only[Act.put,zz1,zz2,zz3,zz4,zz5,zz6]
  clear rowG row9 kG
  refine wpAnyH_done (by kernel_rfl) ?_ _
  clear jaa
  generalize w8.setCell ⟨g,1,none⟩ (.slice aN (R.cats.length+1) cN)=w9 at *
  have hvlt:Hid (∀b,OwnB (.slice aN (R.cats.length+1) cN) b→b≠g∧b≠b5∧b≠w.heap.size+1∧(OwnB (.slice aC R.cats.length cC) b∨w7.heap.size≤b)):=fun b hb=>by
   have h1:=hb5.out
   have h2:=S6.out
   have h3:=S7.out
   rcases HF8.out b hb with h | h
   ·have h5:=hoC.out b h
    have h6:=H0.out b h5.1
    exact⟨h5.2.1,by omega,by omega,.inl h⟩
   ·exact⟨by omega,by omega,by omega,.inr h⟩
  have hoClt:Hid (∀b,OwnB (.slice aC R.cats.length cC) b→b<w.heap.size):=fun b hb=>H0.out b (hoC.out b hb).1
  have R59:=(R5.out.keep K8.out (fun h=>by have:=hoClt.out _ h;have:=hb5.out;omega)).keep KG.out hbg5.out
  have RZ9:=(RZ.out.keep K8.out (fun h=>by have:=hoClt.out _ h;omega)).keep KG.out (fun e=>by omega)
  have x5:w9.cell? ⟨b5,0,none⟩=some (.int .i64 y.1.fVersion):=by
   obtain⟨_,_,_,_,hcq,-⟩:=jau HY.out
   have:=R59.cell 0
   rw[hcq]at this
   exact this
  have hst:=jaf (P:=Tryz.prog) (cs:=repV 0 IDV y.1.fVersion) S_Reply RZ9 rfl rfl rfl
  unfold repV at hst
  have kS:Keep (·=w.heap.size+1) w9 (w9.setRow (w.heap.size+1) (repV 0 IDV y.1.fVersion).toArray):=(Keep.refl (·=w.heap.size+1) w9).setRow (fun _=>rfl) _
  have HZR:=Lib.hid (RZ9.setRow (repV 0 IDV y.1.fVersion))
  have KS:=Lib.hid kS
  clear kS RZ9 R59
  go_wp2_with fail
  refine bodyPost_ret (results_cell_row (by rfl) _ _ _ _ _ _ _ (by rfl) HZR.out Tryz.underlying55 (by rfl) hinfo) rfl ?_
  have h1:=hb5.out
  have h2:=S6.out
  have h3:=S7.out
  have h8:=K8.out.size
  have h9:=KG.out.size
  have h10:=KS.out.size
  have own9:=jad (jad HO8.out KG.out (fun b hb=>(hvlt.out b hb).1)) KS.out (fun b hb=>(hvlt.out b hb).2.2.1)
  have hcyF:=rGCatalog_lawful.keep (rGCatalog_lawful.keep (rGCatalog_lawful.keep HY.out K8.out (fun b hb h=>by have:=hoClt.out _ h;have:=(HNI.out b hb).1;omega)) KG.out (fun b hb e=>by have:=(HNI.out b hb).1;omega)) KS.out (fun b hb e=>by have:=(HNI.out b hb).1;omega)
  have kAll:Keep (fun b=>b=g∨OwnB (.slice aC R.cats.length cC) b∨¬O b) w7 (w9.setRow (w.heap.size+1) (repV 0 IDV y.1.fVersion).toArray):=((K8.out.mono (fun b hb=>.inr (.inl hb))).trans (KG.out.mono (fun b hb=>.inl hb))).trans (KS.out.mono (fun b hb=>.inr (.inr (fun ho=>by have:=H0.out b ho;omega))))
  have B2:=RootAt.turnC (O':=fun b=>O b∨(w4.heap.size≤b∧b<(w9.setRow (w.heap.size+1) (repV 0 IDV y.1.fVersion).toArray).heap.size)) (Pn:=jai w4 w5) HB.out og (fun b h=>.inl h) kAll (ROW9.out.keep KS.out (fun e=>by omega)) own9 (fun b hb=>by
   rcases(hvlt.out b hb).2.2.2 with h | h
   ·exact .inl h
   ·have:=(own9.lt b hb).2
    exact .inr ⟨fun ho=>by have:=H0.out b ho;omega,.inr ⟨by omega,by omega⟩⟩) hcyF (fun b hb=>by
   have h:=HNI.out b hb
   refine⟨fun ho=>by have:=H0.out b ho;omega,.inr ⟨h.1,by omega⟩,fun hx=>?_⟩
   rcases(hvlt.out b hx).2.2.2 with h5 | h5
   ·have:=hoClt.out b h5;omega
   ·omega)
  rw[hY.out,hR.out]
  refine⟨repV 0 IDV y.1.fVersion,fun b=>O b∨(w4.heap.size≤b∧b<(w9.setRow (w.heap.size+1) (repV 0 IDV y.1.fVersion).toArray).heap.size),fun _=>False,rfl,jch _ _ i0 hnu hyv2,fun b h=>h.elim,(show IsRoot _ _ g n (addC R y.1) from⟨fun b hb=>?_,.inl og,okC ok hbig hsm HYV.out hlast.out,bM,aN,cN,aO,cO,aS,cS,aU,cU,_,D,B2⟩).more (Nat.le_succ n),fun b h=>?_,fun b h=>.inl h,?_⟩
  ·rcases hb with hb | hb
   ·have:=H0.out b hb;omega
   ·omega
  ·rcases h with h | h
   ·exact .inl h
   ·exact .inr (by omega)
  ·exact(((K6.out.mono' (fun i hi e=>by omega)).then K8.out (fun i hi h=>(hoC.out i h).1)).then KG.out (fun i hi e=>by rw[e];exact og)).then KS.out (fun i hi e=>by omega)
end
end
def jeq(c:GCommand):Bool:=decide (c.fTable.fColumns.length<30) && (decide (c.fTable.fKey.length<30) && (decide (c.fIndex.fColumns.length<30) && decide (c.fPairs.length+c.fSeens.length+c.fWrites.length<30)))
theorem jlZ{p:Nat→Prop}(c:GCommand)(ccs:List Value)(w:World)(hc:jdb w p ccs c) :
  Calls Tryz.prog 8 #[.agg ccs.toArray] w fun e w'=>e=.returned (.bool (jeq c))∧Keep Nix w w':=by
 obtain⟨aKey,cKey,aSF,cSF,aST,cST,aP,cP,aSe,cSe,aWr,cWr,aTC,cTC,aTK,cTK,aIC,cIC,rfl,-,-,-,-,-,-,-,-,hP,hS,hW,hT,hI,-⟩:=jen hc
 have b1:c.fPairs.length≤far:=(by obtain⟨_,_,_,_,_,_,_,h,_⟩:=hP;exact h)
 have b2:c.fSeens.length≤far:=(by obtain⟨_,_,_,_,_,_,_,h,_⟩:=hS;exact h)
 have b3:c.fWrites.length≤far:=(by obtain⟨_,_,_,_,_,_,_,h,_⟩:=hW;exact h)
 unfold far at b1 b2 b3
 have kk:Keep Nix w (w.alloc (.cells #[.int .i64 c.fKind,.int .i64 c.fEpoch,.int .u64 c.fTxn,.int .i64 c.fN,.int .i64 c.fFrom,.int .i64 c.fTo,.bool c.fFlag,.slice aKey c.fKey.length cKey,.slice aSF c.fSpan.fFrom.length cSF,.slice aST c.fSpan.fTo.length cST,.slice aP c.fPairs.length cP,.slice aSe c.fSeens.length cSe,.slice aWr c.fWrites.length cWr,.int .i64 c.fTable.fID,.string (strB c.fTable.fName),.slice aTC c.fTable.fColumns.length cTC,.slice aTK c.fTable.fKey.length cTK,.int .i64 c.fIndex.fID,.int .i64 c.fIndex.fTable,.string (strB c.fIndex.fName),.slice aIC c.fIndex.fColumns.length cIC,.bool c.fIndex.fUnique,.int .i64 c.fIndex.fState,.bool c.fIndex.fBad,.string (strB c.fName)] 43)):=(Keep.refl Nix w).alloc _
 have hB:Hid (∀b1 b2 b3 b4:Bool,decide ((c.fTable.fColumns.length:Int)<30)=b1→decide ((c.fTable.fKey.length:Int)<30)=b2→decide ((c.fIndex.fColumns.length:Int)<30)=b3→decide ((c.fPairs.length:Int)+c.fSeens.length+c.fWrites.length<30)=b4→jeq c=(b1 && (b2 && (b3 && b4)))):=fun b1 b2 b3 b4 h1 h2 h3 h4=>by
  unfold jeq
  rw[←h1,←h2,←h3,←h4]
  rw[show(decide (c.fTable.fColumns.length<30))=decide ((c.fTable.fColumns.length:Int)<30) from by simp;omega,show(decide (c.fTable.fKey.length<30))=decide ((c.fTable.fKey.length:Int)<30) from by simp;omega,show(decide (c.fIndex.fColumns.length<30))=decide ((c.fIndex.fColumns.length:Int)<30) from by simp;omega,show decide (c.fPairs.length+c.fSeens.length+c.fWrites.length<30)=decide ((c.fPairs.length:Int)+c.fSeens.length+c.fWrites.length<30) from by simp;omega]
 have KK:=Lib.hid kk
 have hw1:IntKind.i64.wrap ((c.fPairs.length:Int)+c.fSeens.length)=(c.fPairs.length:Int)+c.fSeens.length:=by rw[IntKind.wrap_i64];omega
 have hw2:IntKind.i64.wrap ((c.fPairs.length:Int)+c.fSeens.length+c.fWrites.length)=(c.fPairs.length:Int)+c.fSeens.length+c.fWrites.length:=by rw[IntKind.wrap_i64];omega
 have HH:=hB.out
 by_cases h1:(c.fTable.fColumns.length:Int)<30
 ·by_cases h2:(c.fTable.fKey.length:Int)<30
  ·by_cases h3:(c.fIndex.fColumns.length:Int)<30
   ·by_cases h4:(c.fPairs.length:Int)+c.fSeens.length+c.fWrites.length<30
    ·have e:=Lib.hid (HH true true true true (decide_eq_true h1) (decide_eq_true h2) (decide_eq_true h3) (decide_eq_true h4))
     clear HH hB b1 b2 b3 kk hc hP hS hW hT hI
     go_enter Tryz.func8,Tryz.ntmps8
     go_wp2_with fail
     go_ret
     exact⟨jam (by rw[e.out];rfl),KK.out⟩
    ·have e:=Lib.hid (HH true true true false (decide_eq_true h1) (decide_eq_true h2) (decide_eq_true h3) (decide_eq_false h4))
     clear HH hB b1 b2 b3 kk hc hP hS hW hT hI
     go_enter Tryz.func8,Tryz.ntmps8
     go_wp2_with fail
     go_ret
     exact⟨jam (by rw[e.out];rfl),KK.out⟩
   ·have e:=Lib.hid (HH true true false _ (decide_eq_true h1) (decide_eq_true h2) (decide_eq_false h3) rfl)
    clear HH hB b1 b2 b3 kk hc hP hS hW hT hI
    go_enter Tryz.func8,Tryz.ntmps8
    go_wp2_with fail
    go_ret
    exact⟨jam (by rw[e.out];rfl),KK.out⟩
  ·have e:=Lib.hid (HH true false _ _ (decide_eq_true h1) (decide_eq_false h2) rfl rfl)
   clear HH hB b1 b2 b3 kk hc hP hS hW hT hI
   go_enter Tryz.func8,Tryz.ntmps8
   go_wp2_with fail
   go_ret
   exact⟨jam (by rw[e.out];rfl),KK.out⟩
 ·have e:=Lib.hid (HH false _ _ _ (decide_eq_false h1) rfl rfl rfl)
  clear HH hB b1 b2 b3 kk hc hP hS hW hT hI
  go_enter Tryz.func8,Tryz.ntmps8
  go_wp2_with fail
  go_ret
  exact⟨jam (by rw[e.out];rfl),KK.out⟩
section
section
attribute [local go_sem ↓] jct
theorem jo4(O:Nat→Prop)(g n:Nat)(R:RootS)(ccs:List Value)(w:World)(H:IsRoot w O g n R)(hk:ccs[0]?=some (.int .i64 20))(hbg:R.begun≤1000000) :
  Calls Tryz.prog 9 #[.pointer (some ⟨g,0,none⟩),.agg ccs.toArray] w (RunPost w O g n (repL 0 R.begun (jah R) R.routes,R)):=by
 have hinfo:(Tryz.prog.info? 55).map (·.size)=some 15:=by kernel_rfl
 have H0:=Lib.hid H.lt
 have kB:=lf0 w ccs
 have row0:=lf1 w ccs
 have rowZ:=lf2 w ccs
 have x0:((((w.alloc (.cells ccs.toArray 43))).alloc (.cells #[.int .i64 0,.int .u64 0,.int .i64 0,.bool false,.slice none 0 0,.slice none 0 0,.int .i64 0,.int .i64 0,.slice none 0 0,.slice none 0 0,.int .i64 0,.int .i64 0,.slice none 0 0,.int .i64 0,.slice none 0 0] 55))).cell? ⟨w.heap.size,0,none⟩=some (.int .i64 20):=(row0.cell 0).trans hk
 obtain⟨lt,og,ok,bM,aC,cC,aO,cO,aS,cS,aU,cU,cssC,D,B⟩:=H.nix kB
 have hg:=H0.out g og
 have x7:((((w.alloc (.cells ccs.toArray 43))).alloc (.cells #[.int .i64 0,.int .u64 0,.int .i64 0,.bool false,.slice none 0 0,.slice none 0 0,.int .i64 0,.int .i64 0,.slice none 0 0,.slice none 0 0,.int .i64 0,.int .i64 0,.slice none 0 0,.int .i64 0,.slice none 0 0] 55))).cell? ⟨g,7,none⟩=some (.int .u64 R.begun):=by simpa using B.row.cell 7
 have hb0:=ok.u64.1
 have hw:IntKind.i64.wrap R.begun=R.begun:=by rw[IntKind.wrap_i64];omega
 have hsz:=lf3 w ccs
 have HZ:=Lib.hid rowZ
 have K3:Hid (Keep (·=g) w (((w.alloc (.cells ccs.toArray 43))).alloc (.cells #[.int .i64 0,.int .u64 0,.int .i64 0,.bool false,.slice none 0 0,.slice none 0 0,.int .i64 0,.int .i64 0,.slice none 0 0,.slice none 0 0,.int .i64 0,.int .i64 0,.slice none 0 0,.int .i64 0,.slice none 0 0] 55))):=kB.nix (S:=(·=g))
 have hs3:Hid (w.heap.size+1+1≤((((w.alloc (.cells ccs.toArray 43))).alloc (.cells #[.int .i64 0,.int .u64 0,.int .i64 0,.bool false,.slice none 0 0,.slice none 0 0,.int .i64 0,.int .i64 0,.slice none 0 0,.slice none 0 0,.int .i64 0,.int .i64 0,.slice none 0 0,.int .i64 0,.slice none 0 0] 55))).heap.size):=by show _≤_;rw[hsz.out];exact Nat.le_refl _
 have HX:=Lib.hid B.row
 have HH:=Lib.hid (H.nix kB)
 have K0:=Lib.hid hk
 have hbu:=ok.u64
 clear B rowZ row0 kB hk
 go_enter Tryz.func9,Tryz.ntmps9
 go_upto_region 21 with fail
 clear x0 x7
 generalize (((w.alloc (.cells ccs.toArray 43))).alloc (.cells #[.int .i64 0,.int .u64 0,.int .i64 0,.bool false,.slice none 0 0,.slice none 0 0,.int .i64 0,.int .i64 0,.slice none 0 0,.slice none 0 0,.int .i64 0,.int .i64 0,.slice none 0 0,.int .i64 0,.slice none 0 0] 55))=w3 at *
 have kd:Keep Nix w3 w3.drew:=(Keep.refl Nix _).drew
 have HSS:Hid (∀w',Keep Nix w3 w'→w'.cell? ⟨g,7,none⟩=some (.int .u64 R.begun)):=fun w' k=>by
  have r1:=HX.out.keep k id
  simpa using r1.cell 7
 refine wp_region_held_drew (S:=(fun w'=>w'.cell? ⟨g,7,none⟩=some (.int .u64 R.begun))) (by kernel_rfl) (HSS.out _ kd) (fun jaa=>?_)
 have HSS:=Lib.hid (fun w' (k:Keep Nix (w3).drew w')=>HSS.out w' (kd.trans k))
 have HZ:=Lib.hid (HZ.out.keep kd id)
 have HH:=Lib.hid (HH.out.nix kd)
 have K3:=Lib.hid (K3.out.then kd (fun _ _ h=>h.elim))
 have hs3:Hid (w.heap.size+1+1≤w3.drew.heap.size):=Nat.le_trans hs3.out kd.size
 clear kd HX
 generalize w3.drew=w4 at *
 refine tk 0 rfl jaa ?_
 refine tk 1 rfl jaa ?_
 refine tk 2 rfl jaa ?_
 refine tk 3 rfl jaa ?_
 refine tk 4 rfl jaa ?_
 refine tk 5 rfl jaa ?_
 refine tk 7 rfl jaa ?_
 have HC:=Lib.hid (jdu O g n R w4 HH.out)
 refine wpAnyH_ready (rs:=[6]) (by kernel_rfl) (by simp) ?_
 refine AllReadyH.cons rfl (fun K hK=>?_) AllReadyH.nil
 try simp only[zz1,zz2,zz3]
 go_simp
 go_fit HC.out
 rintro e w5 ⟨cn,rfl,rn,k5⟩
 clear HC
 go_wp2_with fail
 refine hK.out _ _ ((HSS.out _ k5)) (fun jaa=>?_)
 clear hK K
 try simp only[Act.put,zz1,zz2,zz3,zz4,zz5,zz6]
 skip
 have HN:=Lib.hid rn
 obtain⟨aT,cT,aI,cI,rfl,-⟩:=jau rn
 have HC:=Lib.hid (jfa O g n R w5 (HH.out.nix k5))
 clear rn
 refine wpAnyH_ready (rs:=[8]) (by kernel_rfl) (by simp) ?_
 refine AllReadyH.cons rfl (fun K hK=>?_) AllReadyH.nil
 try simp only[zz1,zz2,zz3]
 go_simp
 go_fit HC.out
 rintro e w6 ⟨cr,rfl,rr,k6⟩
 clear HC
 go_wp2_with fail
 refine hK.out _ _ ((HSS.out _ (k5.trans k6))) (fun jaa=>?_)
 clear hK K
 try simp only[Act.put,zz1,zz2,zz3,zz4,zz5,zz6]
 skip
 have HR:=Lib.hid rr
 obtain⟨aP,cP,aV,cV,rfl,-⟩:=jav rr
 clear rr
 refine tk 9 rfl jaa ?_
 have rowZ:=(HZ.out.keep k5 id).keep k6 id
 have hst:=jaf (P:=Tryz.prog) (cs:=[.int .i64 0,.int .u64 0,.int .i64 R.begun,.bool false,.slice none 0 0,.slice none 0 0,.int .i64 (jah R).fVersion,.int .i64 (jah R).fNext,.slice aT (jah R).fTables.length cT,.slice aI (jah R).fIndexes.length cI,.int .i64 R.routes.fEpoch,.int .i64 R.routes.fBase,.slice aP R.routes.fSpans.length cP,.int .i64 R.routes.fMoving,.slice aV R.routes.fCut.length cV]) S_Reply rowZ rfl rfl rfl
 have kS:Keep (·=w.heap.size+1) w6 (w6.setRow (w.heap.size+1) #[.int .i64 0,.int .u64 0,.int .i64 R.begun,.bool false,.slice none 0 0,.slice none 0 0,.int .i64 (jah R).fVersion,.int .i64 (jah R).fNext,.slice aT (jah R).fTables.length cT,.slice aI (jah R).fIndexes.length cI,.int .i64 R.routes.fEpoch,.int .i64 R.routes.fBase,.slice aP R.routes.fSpans.length cP,.int .i64 R.routes.fMoving,.slice aV R.routes.fCut.length cV]):=(Keep.refl (·=w.heap.size+1) w6).setRow (fun _=>rfl) _
 have HZR:=Lib.hid (rowZ.setRow [.int .i64 0,.int .u64 0,.int .i64 R.begun,.bool false,.slice none 0 0,.slice none 0 0,.int .i64 (jah R).fVersion,.int .i64 (jah R).fNext,.slice aT (jah R).fTables.length cT,.slice aI (jah R).fIndexes.length cI,.int .i64 R.routes.fEpoch,.int .i64 R.routes.fBase,.slice aP R.routes.fSpans.length cP,.int .i64 R.routes.fMoving,.slice aV R.routes.fCut.length cV])
 have HKS:=Lib.hid kS
 clear kS rowZ
 refine wpAnyH_ready (rs:=[10]) (by kernel_rfl) (by simp) ?_
 refine AllReadyH.cons rfl (fun K hK=>?_) AllReadyH.nil
 try simp only[zz1,zz2,zz3]
 go_simp
 have h1:=hs3.out
 have h2:=k5.size
 have h3:=k6.size
 refine hK.out _ _ (((HKS.out.cell (by show g<_;omega) (by show ¬g=_;omega)).trans (HSS.out _ (k5.trans k6)))) (fun jaa=>?_)
 clear hK K
 try simp only[Act.put,zz1,zz2,zz3,zz4,zz5,zz6]
 refine wpAnyH_done (by kernel_rfl) ?_ _
 clear jaa hst
 go_wp2_with fail
 refine bodyPost_ret (results_cell_row (by rfl) _ _ _ _ _ _ _ (by rfl) HZR.out Tryz.underlying55 (by rfl) hinfo) rfl ?_
 have h1:=hs3.out
 have h2:=k5.size
 have h3:=k6.size
 have h4:=HKS.out.size
 have rn:=rGCatalog_lawful.keep (rGCatalog_lawful.nix HN.out k6) HKS.out (fun b hb e=>by have:=hb.1;omega)
 have rr:=rGRoutes_lawful.keep HR.out HKS.out (fun b hb e=>by have:=hb.1;omega)
 have hu:jaw 0:=⟨by decide,by decide⟩
 have ib:jae R.begun:=⟨by omega,by omega⟩
 have i0:jae 0:=⟨by decide,by decide⟩
 refine⟨[.int .i64 0,.int .u64 0,.int .i64 R.begun,.bool false,.slice none 0 0,.slice none 0 0,.int .i64 (jah R).fVersion,.int .i64 (jah R).fNext,.slice aT (jah R).fTables.length cT,.slice aI (jah R).fIndexes.length cI,.int .i64 R.routes.fEpoch,.int .i64 R.routes.fBase,.slice aP R.routes.fSpans.length cP,.int .i64 R.routes.fMoving,.slice aV R.routes.fCut.length cV],O,fun b=>w4.heap.size≤b∧b<(w6.setRow (w.heap.size+1) #[.int .i64 0,.int .u64 0,.int .i64 R.begun,.bool false,.slice none 0 0,.slice none 0 0,.int .i64 (jah R).fVersion,.int .i64 (jah R).fNext,.slice aT (jah R).fTables.length cT,.slice aI (jah R).fIndexes.length cI,.int .i64 R.routes.fEpoch,.int .i64 R.routes.fBase,.slice aP R.routes.fSpans.length cP,.int .i64 R.routes.fMoving,.slice aV R.routes.fCut.length cV]).heap.size,rfl,jd8 _ _ (x:=repL 0 R.begun (jah R) R.routes) i0 hu ib (jbW _ _) (jbW _ _) (rGCatalog_lawful.mono rn (fun b hb=>⟨hb.1,by have:=hb.2;omega⟩)) (rGRoutes_lawful.mono rr (fun b hb=>⟨by have:=hb.1;omega,by have:=hb.2;omega⟩)),fun b hb=>⟨by have:=hb.1;omega,hb.2,fun ho=>by have:=H0.out b ho;have:=hb.1;omega⟩,((HH.out.nix (k5.trans k6)).keep HKS.out (fun b hb e=>by have:=H0.out b hb;omega)).more (Nat.le_succ n),fun b h=>.inl h,fun b h=>h,?_⟩
 exact((K3.out.mono (fun b hb=>by rw[hb];exact og)).then (k5.trans k6) (fun _ _ h=>h.elim)).then HKS.out (fun i hi e=>by omega)
end
end
end Go.Proofs.YtibaehlfpgipfaaGreat
