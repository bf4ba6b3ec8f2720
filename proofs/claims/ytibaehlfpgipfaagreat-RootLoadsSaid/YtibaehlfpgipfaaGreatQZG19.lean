/- ROOT: move. Printed by mac.py. -/
import Derived.Test.YtibaehlfpgipfaaGreatQZG16
import Derived.Test.YtibaehlfpgipfaaGreatQZRtY
import Derived.Test.YtibaehlfpgipfaaGreatQZG13
import Derived.Test.YtibaehlfpgipfaaGreatQZG14
namespace Go.Proofs.YtibaehlfpgipfaaGreat
open Go.RowKit
set_option maxRecDepth 100000
set_option maxHeartbeats 8000000
set_option linter.unusedSimpArgs false
section
theorem RtOk.cut{r:GRoutes}(h:RtOk r)(g:Int)(l:List UInt8):RtOk (cutF r g l).1:=by
 unfold cutF
 split
 ·exact h
 ·split
  ·exact h
  ·rename_i h2
   split
   ·exact h
   ·refine⟨h.base,h.nodup,h.rng,fun _=>?_⟩
    show ∃k:Nat,jb2 g r.fSpans=(k:Int)∧k<r.fSpans.length
    rcases jcL g r.fSpans with⟨-,h3,-⟩ | ⟨k,hk,-,h3,-⟩
    ·rw[h3]at h2;exact absurd (by decide) h2
    ·exact⟨k,h3,hk⟩
theorem RtOk.still{r:GRoutes}(h:RtOk r):RtOk (jcH r):=⟨h.base,h.nodup,h.rng,fun hm=>absurd rfl hm⟩
theorem RtOk.moved{r:GRoutes}(h:RtOk r)(g:Int):RtOk (jbS r g).1:=by
 unfold jbS
 split
 ·exact h
 ·split
  ·exact h
  ·rename_i h2
   refine RtOk.still ⟨h.base,?_,?_,fun hm=>?_⟩
   ·have hn:g∉r.fSpans.map (·.fGroup):=fun hm=>by
     obtain⟨o,ho,he⟩:=List.mem_map.1 hm
     rcases jcL g r.fSpans with⟨-,-,h4⟩ | ⟨k,hk,-,h3,-⟩
     ·exact h4 o ho he
     ·exact h2 (.inl (by rw[h3];omega))
    show((insG r.fSpans _ ⟨g,r.fCut⟩).map (·.fGroup)).Nodup
    unfold insG
    rw[List.map_append,List.map_cons]
    refine(List.perm_middle.nodup_iff).2 (List.nodup_cons.2 ⟨fun hm=>?_,?_⟩)
    ·rw[←List.map_append,List.take_append_drop]at hm
     exact hn hm
    ·rw[←List.map_append,List.take_append_drop]
     exact h.nodup
   ·intro o ho
    have ho':o∈insG r.fSpans (jb2 r.fMoving r.fSpans+1).toNat ⟨g,r.fCut⟩:=ho
    unfold insG at ho'
    rcases List.mem_append.1 ho' with hx | hx
    ·exact h.rng o (List.mem_of_mem_take hx)
    ·rcases List.mem_cons.1 hx with hx | hx
     ·subst hx
      show r.fBase<g∧g≤r.fBase+4
      omega
     ·exact h.rng o (List.mem_of_mem_drop hx)
   ·obtain⟨k,hk,hl⟩:=h.mov hm
    show ∃k:Nat,jb2 r.fMoving (insG r.fSpans (jb2 r.fMoving r.fSpans+1).toNat ⟨g,r.fCut⟩)=(k:Int)∧k<_
    rcases jcL r.fMoving (insG r.fSpans (jb2 r.fMoving r.fSpans+1).toNat ⟨g,r.fCut⟩)with⟨-,-,h4⟩ | ⟨j,hj,-,h3,-⟩
    ·rcases jcL r.fMoving r.fSpans with⟨-,h5,-⟩ | ⟨i,hi,-,h5,h6,-⟩
     ·omega
     ·refine absurd h6 (h4 _ ?_)
      unfold insG
      rcases Nat.lt_or_ge i (jb2 r.fMoving r.fSpans+1).toNat with h7 | h7
      ·exact List.mem_append_left _ (List.mem_take_iff_getElem.2 ⟨i,by omega,rfl⟩)
      ·omega
    ·exact⟨j,h3,hj⟩
theorem Lies.below{w:World}{p:Nat→Prop}{a:Option Addr}{vs:List Value}(h:Lies w p a vs):Lies w (fun b=>p b∧b<w.heap.size) a vs:=fun hx=>by
 obtain⟨b,o,ha,hp,hl,hc⟩:=h hx
 exact⟨b,o,ha,⟨hp,hl⟩,hl,hc⟩
theorem jgm{w:World}{p:Nat→Prop}{cs:List Value}{r:GRoutes}(h:jaz w p cs r):jaz w (fun b=>p b∧b<w.heap.size) cs r:=by
 obtain⟨c0,c1,c2,c3,c4,hcs,h0,h1,h2,h3,h4⟩:=h
 have hB:∀ {c:List Value} {l:List UInt8},jc6 w p c l→jc6 w (fun b=>p b∧b<w.heap.size) c l:=fun h=>by
  obtain⟨a,cap,e1,e2,e3⟩:=h
  exact⟨a,cap,e1,e2.below,e3⟩
 refine⟨c0,c1,c2,c3,c4,hcs,h0,h1,?_,h3,hB h4⟩
 obtain⟨a,c,css,e1,e2,e3,e4,e5,e6⟩:=h2
 refine⟨a,c,css,e1,e2,e3.below,e4,e5,fun i d x hd hx=>?_⟩
 obtain⟨d0,d1,f1,f2,f3⟩:=e6 i d x hd hx
 exact⟨d0,d1,f1,f2,hB f3⟩
theorem jh6{b:Int}{l:List GOwner}(hb:1≤b∧b≤4):∀(m k:Nat),k+m≤4→0≤jdN b l m k∧jdN b l m k≤8
 | 0,k,_=>⟨by show(0:Int)≤0;decide,by show(0:Int)≤8;decide⟩
 | m+1,k,h=>by
  unfold jdN
  split
  ·omega
  ·exact jh6 hb m (k+1) (by omega)
theorem jlK{r:GRoutes}(h:RtOk r)(s:Int):0≤jdI r s∧jdI r s≤8:=jh6 h.base _ _ (by omega)
theorem jpj(r:GRoutes)(g:Int)(l:List UInt8):0≤(cutF r g l).2∧(cutF r g l).2≤7:=by
 unfold cutF
 split
 ·exact⟨by show(0:Int)≤7;decide,by show(7:Int)≤7;decide⟩
 ·split
  ·exact⟨by show(0:Int)≤5;decide,by show(5:Int)≤7;decide⟩
  ·split
   ·exact⟨by show(0:Int)≤1;decide,by show(1:Int)≤7;decide⟩
   ·exact⟨by show(0:Int)≤0;decide,by show(0:Int)≤7;decide⟩
theorem jmM(r:GRoutes)(g:Int):0≤(jbS r g).2∧(jbS r g).2≤7:=by
 unfold jbS
 split
 ·exact⟨by show(0:Int)≤7;decide,by show(7:Int)≤7;decide⟩
 ·split
  ·exact⟨by show(0:Int)≤1;decide,by show(1:Int)≤7;decide⟩
  ·exact⟨by show(0:Int)≤0;decide,by show(0:Int)≤7;decide⟩
def jgC(R:RootS)(r:GRoutes):RootS:=⟨R.spare,R.cats,r,R.begun,R.dec,R.order⟩
def jh5(R:RootS)(n:Int)(y:GRoutes×Int):GReply×RootS:=if y.2=0 then(⟨0,0,n,false,[],[],⟨0,0,[],[]⟩,y.1⟩,jgC R y.1) else(repG y.2 0 0,R)
def jcG(R:RootS)(k x:Int)(f:Bool)(l:List UInt8):Int×(GRoutes×Int):=
 if k=18∧jdI R.routes R.spare=0 then(0,(R.routes,4)) else if k=18 then(jdI R.routes R.spare,cutF R.routes x l)
 else if f=true∧R.routes.fMoving=0 then(0,(R.routes,7)) else if f=true then(0,(jcH R.routes,0))
 else if jdI R.routes R.spare=0∨x≠jdI R.routes R.spare then(0,(R.routes,1)) else(0,jbS R.routes x)
def jbD(R:RootS)(k x:Int)(f:Bool)(l:List UInt8):GReply×RootS:=jh5 R (jcG R k x f l).1 (jcG R k x f l).2
section
attribute [local go_sem ↓] jct jbC jhP
theorem move_c(O:Nat→Prop)(g n:Nat)(R:RootS)(ccs:List Value)(k x:Int)(f:Bool)(a:Option Addr)(cap:Nat)(l:List UInt8)(p:Nat→Prop)(w:World)(H:IsRoot w O g n R)(hok:RtOk R.routes)(hk:ccs[0]?=some (.int .i64 k))(hk3:ccs[3]?=some (.int .i64 x))(hk6:ccs[6]?=some (.bool f))(hk7:ccs[7]?=some (.slice a l.length cap))(hl:LB w p a cap l)(hx:jae x)(hk2:k=18∨k=19) :
  Calls Tryz.prog 26 #[.pointer (some ⟨g,0,none⟩),.agg ccs.toArray] w (RunPost w O g n (jbD R k x f l)):=by
 have hinfo:(Tryz.prog.info? 55).map (·.size)=some 15:=by kernel_rfl
 have i0:jae 0:=⟨by decide,by decide⟩
 have u0:jaw 0:=⟨by decide,by decide⟩
 have H0:=Lib.hid H.lt
 have hn4:=hok.len
 have hns:=jlK hok R.spare
 have kB:=lf0 w ccs
 have row0:=lf1 w ccs
 have rowZ:=lf2 w ccs
 have hsz:=lf3 w ccs
 have H1:=Lib.hid (H.nix kB)
 obtain⟨lt,og,ok,bM,aC,cC,aO,cO,aS,cS,aU,cU,cssC,D,B⟩:=H1.out
 have HSS:Hid (∀w',Keep Nix (((w.alloc (.cells ccs.toArray 43))).alloc (.cells #[.int .i64 0,.int .u64 0,.int .i64 0,.bool false,.slice none 0 0,.slice none 0 0,.int .i64 0,.int .i64 0,.slice none 0 0,.slice none 0 0,.int .i64 0,.int .i64 0,.slice none 0 0,.int .i64 0,.slice none 0 0] 55)) w'→w'.cell? ⟨g,0,none⟩=some (.int .i64 R.spare)∧(ja1 53 (.pointer (some ⟨g,2,none⟩))).run Tryz.prog w'=.ok (.value (.agg #[.int .i64 R.routes.fEpoch,.int .i64 R.routes.fBase,.slice aS R.routes.fSpans.length cS,.int .i64 R.routes.fMoving,.slice aU R.routes.fCut.length cU])) w'):=fun w' kx=>by
  have r1:=B.row.keep kx id
  refine⟨by simpa using r1.cell 0,Whole.at S_Routes (cs:=[.int .i64 R.routes.fEpoch,.int .i64 R.routes.fBase,.slice aS R.routes.fSpans.length cS,.int .i64 R.routes.fMoving,.slice aU R.routes.fCut.length cU]) rfl (fun j u hu=>?_)⟩
  rw[r1.cell,Nat.add_comm]
  have:([.int .i64 R.routes.fEpoch,.int .i64 R.routes.fBase,.slice aS R.routes.fSpans.length cS,.int .i64 R.routes.fMoving,.slice aU R.routes.fCut.length cU] ++ [.int .u64 R.begun,.map (some bM),.slice aO R.order.length cO])[j]?=some u:=by rw[List.getElem?_append_left (List.getElem?_eq_some_iff.1 hu).1];exact hu
  exact this
 have kd:Keep Nix (((w.alloc (.cells ccs.toArray 43))).alloc (.cells #[.int .i64 0,.int .u64 0,.int .i64 0,.bool false,.slice none 0 0,.slice none 0 0,.int .i64 0,.int .i64 0,.slice none 0 0,.slice none 0 0,.int .i64 0,.int .i64 0,.slice none 0 0,.int .i64 0,.slice none 0 0] 55)) ((((w.alloc (.cells ccs.toArray 43))).alloc (.cells #[.int .i64 0,.int .u64 0,.int .i64 0,.bool false,.slice none 0 0,.slice none 0 0,.int .i64 0,.int .i64 0,.slice none 0 0,.slice none 0 0,.int .i64 0,.int .i64 0,.slice none 0 0,.int .i64 0,.slice none 0 0] 55))).drew:=(Keep.refl Nix _).drew
 have HL:=Lib.hid ((hl.keep kB).keep kd)
 clear lt hl H
 go_enter Tryz.func26,Tryz.ntmps26
 go_upto_region 1 with fail
 refine wp_region_held_drew (S:=(fun w'=>w'.cell? ⟨g,0,none⟩=some (.int .i64 R.spare)∧(ja1 53 (.pointer (some ⟨g,2,none⟩))).run Tryz.prog w'=.ok (.value (.agg #[.int .i64 R.routes.fEpoch,.int .i64 R.routes.fBase,.slice aS R.routes.fSpans.length cS,.int .i64 R.routes.fMoving,.slice aU R.routes.fCut.length cU])) w')) (by kernel_rfl) (HSS.out _ kd) (fun jaa=>?_)
 have HSS:=Lib.hid (fun w' (k:Keep Nix ((((w.alloc (.cells ccs.toArray 43))).alloc (.cells #[.int .i64 0,.int .u64 0,.int .i64 0,.bool false,.slice none 0 0,.slice none 0 0,.int .i64 0,.int .i64 0,.slice none 0 0,.slice none 0 0,.int .i64 0,.int .i64 0,.slice none 0 0,.int .i64 0,.slice none 0 0] 55))).drew w')=>HSS.out w' (kd.trans k))
 have HB:=Lib.hid (B.keep kd og (fun _ _ h=>h))
 have HZ:=Lib.hid (rowZ.keep kd id)
 have R0:=Lib.hid (row0.keep kd id)
 have H1:=Lib.hid (H1.out.nix kd)
 have K1:=Lib.hid (kB.trans kd)
 have hw2:Hid (w.heap.size+2≤((((w.alloc (.cells ccs.toArray 43))).alloc (.cells #[.int .i64 0,.int .u64 0,.int .i64 0,.bool false,.slice none 0 0,.slice none 0 0,.int .i64 0,.int .i64 0,.slice none 0 0,.slice none 0 0,.int .i64 0,.int .i64 0,.slice none 0 0,.int .i64 0,.slice none 0 0] 55))).drew.heap.size):=by show _≤_;have:=kd.size;have:=hsz.out;omega
 clear kd kB B rowZ row0
 generalize ((((w.alloc (.cells ccs.toArray 43))).alloc (.cells #[.int .i64 0,.int .u64 0,.int .i64 0,.bool false,.slice none 0 0,.slice none 0 0,.int .i64 0,.int .i64 0,.slice none 0 0,.slice none 0 0,.int .i64 0,.int .i64 0,.slice none 0 0,.int .i64 0,.slice none 0 0] 55))).drew=w2 at *
 refine tk 0 rfl jaa ?_
 refine tk 1 rfl jaa ?_
 refine tk 2 rfl jaa ?_
 refine tk 3 rfl jaa ?_
 refine tk 4 rfl jaa ?_
 refine tk 5 rfl jaa ?_
 refine tk 6 rfl jaa ?_
 refine tk 7 rfl jaa ?_
 have HC:=Lib.hid (Next_c R.routes [.int .i64 R.routes.fEpoch,.int .i64 R.routes.fBase,.slice aS R.routes.fSpans.length cS,.int .i64 R.routes.fMoving,.slice aU R.routes.fCut.length cU] R.spare w2 HB.out.rts hok.base)
 obtain⟨N,hN⟩:∃N,Hid (jdI R.routes R.spare=N):=⟨_,rfl⟩
 rw[hN.out]at HC hns
 refine wpAnyH_ready (rs:=[8]) (by kernel_rfl) (by simp) ?_
 refine AllReadyH.cons rfl (fun K hK=>?_) AllReadyH.nil
 try simp only[zz1,zz2,zz3]
 go_simp
 go_fit HC.out
 rintro e w3 ⟨rfl,k3⟩
 clear HC
 go_wp2_with fail
 refine hK.out _ _ ((HSS.out _ k3)) (fun jaa=>?_)
 clear hK K
 try simp only[Act.put,zz1,zz2,zz3,zz4,zz5,zz6]
 refine tk 9 rfl jaa ?_
 refine wpAnyH_done (by kernel_rfl) ?_ _
 clear jaa
 have HC:=Lib.hid (jfa O g n R w3 (H1.out.nix k3))
 go_wp2_with fail
 go_fit HC.out
 rintro e w4 ⟨cr,rfl,rr,k4⟩
 clear HC HSS
 have hlr:=rGRoutes_lawful.len rr
 have hor:=(show ones cr=true from by obtain⟨_,_,_,_,rfl,-⟩:=jav rr;rfl)
 have hz6:=(show ∃q,cr[3]?=some (.int .i64 R.routes.fMoving)∧q=() from by obtain⟨_,_,_,_,rfl,-⟩:=jav rr;exact⟨(),rfl,rfl⟩)
 obtain⟨-,hz6,-⟩:=hz6
 obtain⟨hst6,row6,kV⟩:=jds (P:=Tryz.prog) (zs:=[.int .i64 0,.int .i64 0,.slice none 0 0,.int .i64 0,.slice none 0 0]) S_Routes w4 rfl hlr hor
 have k5:=(k3.trans k4).trans kV
 have row0:=R0.out.keep k5 id
 have x0:=(row0.cell 0).trans hk
 have x3:=(row0.cell 3).trans hk3
 have x6:=(row0.cell 6).trans hk6
 have x7:=(row0.cell 7).trans hk7
 have z3:=(row6.cell 3).trans hz6
 have ld6:=Whole.run (P:=Tryz.prog) S_Routes hlr row6
 have H5:=Lib.hid (H1.out.nix k5)
 have HB5:=Lib.hid (HB.out.keep k5 og (fun _ _ h=>h))
 have RZ5:=HZ.out.keep k5 id
 have HL5:=Lib.hid (HL.out.keep k5)
 have R5:=Lib.hid (rGRoutes_lawful.nix rr kV)
 have K5:=Lib.hid (K1.out.trans k5)
 have ROW6:=Lib.hid row6
 have hb6:Hid (w.heap.size+2≤w4.heap.size):=by show _≤_;have:=k3.size;have:=k4.size;have:=hw2.out;omega
 have h45:Hid (w4.heap.size<((w4.alloc (.cells [.int .i64 0,.int .i64 0,.slice none 0 0,.int .i64 0,.slice none 0 0].toArray 53)).setRow w4.heap.size cr.toArray).heap.size):=row6.lt
 have H23:Hid (w.heap.size+2≤w3.heap.size):=by show _≤_;have:=k3.size;have:=hw2.out;omega
 have K25:=Lib.hid k5
 have hlc:=Lib.hid hlr
 have R4:=Lib.hid rr
 clear row0 hk hk3 hk6 hk7 row6 kV k5 k3 k4 rr hz6 hlr hor
 have hNX:=hN.out
 rcases hk2 with rfl | rfl
 focus
  by_cases hN0:N=0
  ·have hR:Hid (jbD R 18 x f l=(repG 4 0 0,R)):=by show _=_;unfold jbD jcG;rw[hNX,if_pos ⟨rfl,hN0⟩];rfl
   subst hN0
   clear hNX
   have hst:=jaf (P:=Tryz.prog) (cs:=repV 4 0 0) S_Reply RZ5 rfl rfl rfl
   unfold repV at hst
   have kS:Keep (·=w.heap.size+1) ((w4.alloc (.cells [.int .i64 0,.int .i64 0,.slice none 0 0,.int .i64 0,.slice none 0 0].toArray 53)).setRow w4.heap.size cr.toArray) (((w4.alloc (.cells [.int .i64 0,.int .i64 0,.slice none 0 0,.int .i64 0,.slice none 0 0].toArray 53)).setRow w4.heap.size cr.toArray).setRow (w.heap.size+1) (repV 4 0 0).toArray):=(Keep.refl (·=w.heap.size+1) ((w4.alloc (.cells [.int .i64 0,.int .i64 0,.slice none 0 0,.int .i64 0,.slice none 0 0].toArray 53)).setRow w4.heap.size cr.toArray)).setRow (fun _=>rfl) _
   have HZR:=Lib.hid (RZ5.setRow (repV 4 0 0))
   have KS:=Lib.hid kS
   clear kS
   go_wp2_with fail
   refine bodyPost_ret (results_cell_row (by rfl) _ _ _ _ _ _ _ (by rfl) HZR.out Tryz.underlying55 (by rfl) hinfo) rfl ?_
   rw[hR.out]
   exact⟨repV 4 0 0,O,fun _=>False,rfl,jch _ _ (⟨by decide,by decide⟩:jae 4) u0 i0,fun b h=>h.elim,((H5.out).keep KS.out (fun b hb e=>by have:=H0.out b hb;omega)).more (Nat.le_succ n),fun b h=>.inl h,fun b h=>h,((K5.out.nix (S:=O))).then KS.out (fun i hi e=>by omega)⟩
  have hYY0:jcG R 18 x f l=(N,cutF R.routes x l):=by unfold jcG;rw[hNX,if_neg (fun h=>hN0 h.2),if_pos rfl]
  have qN:(N == 0)=false:=by simp[hN0]
  have he:=jpj R.routes x l
  have hyr:Hid (RtOk (cutF R.routes x l).1):=hok.cut x l
  have HC:=Cut_c R.routes cr x a cap l ((w4.alloc (.cells [.int .i64 0,.int .i64 0,.slice none 0 0,.int .i64 0,.slice none 0 0].toArray 53)).setRow w4.heap.size cr.toArray) R5.out HL5.out (by omega) hx
  obtain⟨y,hY⟩:∃y,Hid (cutF R.routes x l=y):=⟨_,rfl⟩
  rw[hY.out]at HC he hyr hYY0
  have hYY:=Lib.hid hYY0
  have hye:Hid (jae y.2):=(⟨by omega,by omega⟩:jae y.2)
  have iM:jae N:=⟨by omega,by omega⟩
  have HC:=Lib.hid HC
  clear hN0 hNX hYY0 he
  go_wp2_with fail
  clear x0 x3 x6 x7 z3 ld6 hst6
  go_fit HC.out
  rintro e w6 ⟨cy,rfl,ry,k6⟩
  have hly:=rGRoutes_lawful.len ry
  have hoy:=(show ones cy=true from by obtain⟨_,_,_,_,rfl,-⟩:=jav ry;rfl)
  have row5:=ROW6.out.keep k6 id
  have hst7:=jaf (P:=Tryz.prog) (cs:=cy) S_Routes row5 hlc.out hly hoy
  have kT:Keep (·=w4.heap.size) w6 (w6.setRow w4.heap.size cy.toArray):=(Keep.refl (·=w4.heap.size) w6).setRow (fun _=>rfl) _
  have row6:=row5.setRow cy
  have k26:=K25.out.trans k6
  have KS0:Hid (Keep (fun b=>¬O b) w2 (w6.setRow w4.heap.size cy.toArray)):=(k26.nix (S:=fun b=>¬O b)).trans (kT.mono (fun b e ho=>by have:=H0.out b ho;have:=hb6.out;omega))
  have KS1:Hid (Keep O w (w6.setRow w4.heap.size cy.toArray)):=((K1.out.trans k26).nix (S:=O)).then kT (fun i hi e=>by have:=hb6.out;omega)
  have RZS:=Lib.hid ((HZ.out.keep k26 id).keep kT (fun e=>by have:=hb6.out;omega))
  have hwS:Hid (w.heap.size+2≤(w6.setRow w4.heap.size cy.toArray).heap.size):=by show _≤_;have:=kT.size;have:=k26.size;have:=hw2.out;omega
  obtain⟨Pn,ry2,PN⟩:∃Pn:Nat→Prop,jaz (w6.setRow w4.heap.size cy.toArray) Pn cy y.1∧Hid (∀b,Pn b→w.heap.size+2≤b):=⟨_,rGRoutes_lawful.keep ry kT (fun b hb e=>by have h1:=hb;have:=h45.out;have:=hb6.out;first | omega | (have:=h1.2;omega)),fun b hb=>by have h1:=hb;have:=h45.out;have:=hb6.out;have:=H23.out;first | omega | (have:=h1.1;omega)⟩
  have HS:=Lib.hid (((H5.out.nix k6).keep kT (fun b hb e=>by have:=H0.out b hb;have:=hb6.out;omega)))
  replace ry:=ry2
  clear ry2 hly hoy row5 kT k26 k6
  generalize w6.setRow w4.heap.size cy.toArray=wS at *
  by_cases hz:y.2=0
  ·have hR:Hid (jbD R 18 x f l=(⟨0,0,N,false,[],[],⟨0,0,[],[]⟩,y.1⟩,jgC R y.1)):=by show _=_;unfold jbD;rw[hYY.out];exact if_pos hz
   obtain⟨yr,ye⟩:=y
   replace hz:ye=0:=hz
   subst hz
   replace ry:jaz wS Pn cy yr:=ry
   replace hyr:Hid (RtOk yr):=hyr
   have RY:=Lib.hid ry
   have R6:=Lib.hid row6
   obtain⟨aQ,cQ,aR,cR,rfl,hE,hBs,-,hMv,-⟩:=jav ry
   have IS:=Lib.hid (And.intro hE (And.intro hBs hMv))
   have ld6:=Whole.run (P:=Tryz.prog) S_Routes rfl row6
   have rowG:=HB.out.row.keep (KS0.out) (fun h=>h og)
   have hstG:=jhk (P:=Tryz.prog) (w:=wS) (b:=g) (o:=2) S_Routes (cs:=[.int .i64 yr.fEpoch,.int .i64 yr.fBase,.slice aQ yr.fSpans.length cQ,.int .i64 yr.fMoving,.slice aR yr.fCut.length cR]) rfl (fun j hj=>⟨by
    rw[rowG.cell]
    match j,hj with
    | 0,_=>rfl
    | 1,_=>rfl
    | 2,_=>rfl
    | 3,_=>rfl
    | 4,_=>rfl
    | j+5,hj=>exact absurd hj (by omega),rowG.frozen _⟩) rfl
   have kG:=Keep.setCells g [.int .i64 yr.fEpoch,.int .i64 yr.fBase,.slice aQ yr.fSpans.length cQ,.int .i64 yr.fMoving,.slice aR yr.fCut.length cR] wS 2
   have rowT:=RowIs.setCells [.int .i64 yr.fEpoch,.int .i64 yr.fBase,.slice aQ yr.fSpans.length cQ,.int .i64 yr.fMoving,.slice aR yr.fCut.length cR] rowG (o:=2) (by show 2+5≤10;decide)
   replace rowT:RowIs (wS.setCells g 2 [.int .i64 yr.fEpoch,.int .i64 yr.fBase,.slice aQ yr.fSpans.length cQ,.int .i64 yr.fMoving,.slice aR yr.fCut.length cR]) g 79 [.int .i64 R.spare,.slice aC R.cats.length cC,.int .i64 yr.fEpoch,.int .i64 yr.fBase,.slice aQ yr.fSpans.length cQ,.int .i64 yr.fMoving,.slice aR yr.fCut.length cR,.int .u64 R.begun,.map (some bM),.slice aO R.order.length cO]:=rowT
   have hgl:=H0.out g og
   have hsS:=Lib.hid (show w.heap.size+2≤wS.heap.size from hwS.out)
   have hPn:∀b,(Pn b∧b<wS.heap.size)→¬O b∧(O b∨(w.heap.size+2≤b∧b<wS.heap.size)):=fun b hb=>⟨fun ho=>by have:=H0.out b ho;have:=PN.out b hb.1;omega,.inr ⟨PN.out b hb.1,hb.2⟩⟩
   have B2:=RootAt.turnR (O':=fun b=>O b∨(w.heap.size+2≤b∧b<wS.heap.size)) (HB.out.keep KS0.out og (fun b hb h=>h hb)) og (fun b h=>.inl h) (kG.mono (fun b hb=>.inl hb)) rowT (rGRoutes_lawful.keep (jgm RY.out) kG (fun b hb e=>by have:=PN.out b hb.1;omega)) hPn
   have hltT:∀b,(O b∨(w.heap.size+2≤b∧b<wS.heap.size))→b<(wS.setCells g 2 [.int .i64 yr.fEpoch,.int .i64 yr.fBase,.slice aQ yr.fSpans.length cQ,.int .i64 yr.fMoving,.slice aR yr.fCut.length cR]).heap.size:=fun b hb=>Nat.lt_of_lt_of_le (hb.elim (fun h=>by have:=H0.out b h;have:=hsS.out;omega) (fun h=>h.2)) kG.size
   have HT:IsRoot (wS.setCells g 2 [.int .i64 yr.fEpoch,.int .i64 yr.fBase,.slice aQ yr.fSpans.length cQ,.int .i64 yr.fMoving,.slice aR yr.fCut.length cR]) (fun b=>O b∨(w.heap.size+2≤b∧b<wS.heap.size)) g n (jgC R yr):=⟨hltT,.inl og,⟨ok.ex,ok.len,ok.small,ok.ver,by have:=hyr.out.len;show yr.fSpans.length≤30;omega,ok.u64,ok.place⟩,bM,aC,cC,aO,cO,aQ,cQ,aR,cR,cssC,D,B2⟩
   have HC:=Lib.hid (jfa _ g n _ _ HT)
   have HTT:=Lib.hid HT
   have RZT:=Lib.hid (RZS.out.keep kG (fun e=>by omega))
   have KT:=Lib.hid ((KS1.out).then kG (fun i hi e=>by rw[e];exact og))
   have KG:=Lib.hid kG.size
   clear B2 HT kG rowT rowG hPn ry row6
   go_wp2_with fail
   clear hstG ld6
   go_fit HC.out
   rintro e w8 ⟨cz,rfl,rz,k8⟩
   clear HC
   replace rz:jaz w8 _ cz yr:=rz
   have RZZ:=Lib.hid rz
   obtain⟨aP,cP,aV,cV,rfl,-⟩:=jav rz
   have rowZ8:=RZT.out.keep k8 id
   have hst:=jaf (P:=Tryz.prog) (cs:=[.int .i64 0,.int .u64 0,.int .i64 N,.bool false,.slice none 0 0,.slice none 0 0,.int .i64 0,.int .i64 0,.slice none 0 0,.slice none 0 0,.int .i64 yr.fEpoch,.int .i64 yr.fBase,.slice aP yr.fSpans.length cP,.int .i64 yr.fMoving,.slice aV yr.fCut.length cV]) S_Reply rowZ8 rfl rfl rfl
   have kS:Keep (·=w.heap.size+1) w8 (w8.setRow (w.heap.size+1) #[.int .i64 0,.int .u64 0,.int .i64 N,.bool false,.slice none 0 0,.slice none 0 0,.int .i64 0,.int .i64 0,.slice none 0 0,.slice none 0 0,.int .i64 yr.fEpoch,.int .i64 yr.fBase,.slice aP yr.fSpans.length cP,.int .i64 yr.fMoving,.slice aV yr.fCut.length cV]):=(Keep.refl (·=w.heap.size+1) w8).setRow (fun _=>rfl) _
   have HZR:=Lib.hid (rowZ8.setRow [.int .i64 0,.int .u64 0,.int .i64 N,.bool false,.slice none 0 0,.slice none 0 0,.int .i64 0,.int .i64 0,.slice none 0 0,.slice none 0 0,.int .i64 yr.fEpoch,.int .i64 yr.fBase,.slice aP yr.fSpans.length cP,.int .i64 yr.fMoving,.slice aV yr.fCut.length cV])
   have KS:=Lib.hid kS
   have K8:=Lib.hid k8
   clear kS rowZ8 rz k8
   go_wp2_with fail
   refine bodyPost_ret (results_cell_row (by rfl) _ _ _ _ _ _ _ (by rfl) HZR.out Tryz.underlying55 (by rfl) hinfo) rfl ?_
   rw[hR.out]
   have h1:=KG.out
   have h2:=K8.out.size
   have h3:=KS.out.size
   have h4:=hsS.out
   refine⟨[.int .i64 0,.int .u64 0,.int .i64 N,.bool false,.slice none 0 0,.slice none 0 0,.int .i64 0,.int .i64 0,.slice none 0 0,.slice none 0 0,.int .i64 yr.fEpoch,.int .i64 yr.fBase,.slice aP yr.fSpans.length cP,.int .i64 yr.fMoving,.slice aV yr.fCut.length cV],_,fun b=>(wS.setCells g 2 [.int .i64 yr.fEpoch,.int .i64 yr.fBase,.slice aQ yr.fSpans.length cQ,.int .i64 yr.fMoving,.slice aR yr.fCut.length cR]).heap.size≤b∧b<(w8.setRow (w.heap.size+1) #[.int .i64 0,.int .u64 0,.int .i64 N,.bool false,.slice none 0 0,.slice none 0 0,.int .i64 0,.int .i64 0,.slice none 0 0,.slice none 0 0,.int .i64 yr.fEpoch,.int .i64 yr.fBase,.slice aP yr.fSpans.length cP,.int .i64 yr.fMoving,.slice aV yr.fCut.length cV]).heap.size,rfl,jd8 _ _ (x:=⟨0,0,N,false,[],[],⟨0,0,[],[]⟩,yr⟩) i0 u0 iM (jbW _ _) (jbW _ _) (jcs _ _ (x:=⟨0,0,[],[]⟩) i0 i0 (jbW _ _) (jbW _ _)) (rGRoutes_lawful.mono (rGRoutes_lawful.keep RZZ.out KS.out (fun b hb e=>by have:=hb.1;omega)) (fun b hb=>⟨hb.1,by have:=hb.2;omega⟩)),fun b hb=>⟨by have:=hb.1;omega,hb.2,fun ho=>?_⟩,((HTT.out.nix K8.out).keep KS.out (fun b hb e=>?_)).more (Nat.le_succ n),fun b h=>?_,fun b h=>.inl h,(KT.out.then K8.out (fun _ _ h=>h.elim)).then KS.out (fun i hi e=>by omega)⟩
   ·have:=hb.1
    rcases ho with ho | ho
    ·have:=H0.out b ho;omega
    ·omega
   ·rcases hb with hb | hb
    ·have:=H0.out b hb;omega
    ·omega
   ·rcases h with h | h
    ·exact .inl h
    ·exact .inr (by omega)
  have hR:Hid (jbD R 18 x f l=(repG y.2 0 0,R)):=by show _=_;unfold jbD;rw[hYY.out];exact if_neg hz
  refine ?h3a
 rotate_left
 focus
  cases f
  focus
   by_cases hN0:N=0
   focus
    have hR:Hid (jbD R 19 x false l=(repG 1 0 0,R)):=by show _=_;unfold jbD jcG;rw[hNX,if_neg (fun h=>absurd h.1 (by decide)),if_neg (by decide),if_neg (fun h=>absurd h.1 (by decide)),if_neg (by decide),if_pos (.inl hN0)];rfl
    subst hN0
    clear hNX
    refine ?h2a
   rotate_left
   focus
    have qN:(N == 0)=false:=by simp[hN0]
    by_cases hxN:x=N
    focus
     have hYY0:jcG R 19 x false l=(0,jbS R.routes x):=by unfold jcG;rw[hNX,if_neg (fun h=>absurd h.1 (by decide)),if_neg (by decide),if_neg (fun h=>absurd h.1 (by decide)),if_neg (by decide),if_neg (fun h=>h.elim hN0 (fun h=>h hxN))]
     have he:=jmM R.routes x
     have hyr:Hid (RtOk (jbS R.routes x).1):=hok.moved x
     have HC:=joY R.routes cr x ((w4.alloc (.cells [.int .i64 0,.int .i64 0,.slice none 0 0,.int .i64 0,.slice none 0 0].toArray 53)).setRow w4.heap.size cr.toArray) R5.out (by omega) hx hok.base hok.mov
     obtain⟨y,hY⟩:∃y,Hid (jbS R.routes x=y):=⟨_,rfl⟩
     rw[hY.out]at HC he hyr hYY0
     have hYY:=Lib.hid hYY0
     have hye:Hid (jae y.2):=(⟨by omega,by omega⟩:jae y.2)
     have iM:jae 0:=i0
     have HC:=Lib.hid HC
     have qx:(x == N)=true:=by simp[hxN]
     clear hN0 hNX hYY0 he hxN
     go_wp2_with fail
     clear x0 x3 x6 x7 z3 ld6 hst6
     go_fit HC.out
     rintro e w6 ⟨cy,rfl,ry,k6⟩
     have hly:=rGRoutes_lawful.len ry
     have hoy:=(show ones cy=true from by obtain⟨_,_,_,_,rfl,-⟩:=jav ry;rfl)
     have row5:=ROW6.out.keep k6 id
     have hst7:=jaf (P:=Tryz.prog) (cs:=cy) S_Routes row5 hlc.out hly hoy
     have kT:Keep (·=w4.heap.size) w6 (w6.setRow w4.heap.size cy.toArray):=(Keep.refl (·=w4.heap.size) w6).setRow (fun _=>rfl) _
     have row6:=row5.setRow cy
     have k26:=K25.out.trans k6
     have KS0:Hid (Keep (fun b=>¬O b) w2 (w6.setRow w4.heap.size cy.toArray)):=(k26.nix (S:=fun b=>¬O b)).trans (kT.mono (fun b e ho=>by have:=H0.out b ho;have:=hb6.out;omega))
     have KS1:Hid (Keep O w (w6.setRow w4.heap.size cy.toArray)):=((K1.out.trans k26).nix (S:=O)).then kT (fun i hi e=>by have:=hb6.out;omega)
     have RZS:=Lib.hid ((HZ.out.keep k26 id).keep kT (fun e=>by have:=hb6.out;omega))
     have hwS:Hid (w.heap.size+2≤(w6.setRow w4.heap.size cy.toArray).heap.size):=by show _≤_;have:=kT.size;have:=k26.size;have:=hw2.out;omega
     obtain⟨Pn,ry2,PN⟩:∃Pn:Nat→Prop,jaz (w6.setRow w4.heap.size cy.toArray) Pn cy y.1∧Hid (∀b,Pn b→w.heap.size+2≤b):=⟨_,rGRoutes_lawful.keep ry kT (fun b hb e=>by have h1:=hb;have:=h45.out;have:=hb6.out;first | omega | (have:=h1.2;omega)),fun b hb=>by have h1:=hb;have:=h45.out;have:=hb6.out;have:=H23.out;first | omega | (have:=h1.1;omega)⟩
     have HS:=Lib.hid (((H5.out.nix k6).keep kT (fun b hb e=>by have:=H0.out b hb;have:=hb6.out;omega)))
     replace ry:=ry2
     clear ry2 hly hoy row5 kT k26 k6
     generalize w6.setRow w4.heap.size cy.toArray=wS at *
     by_cases hz:y.2=0
     focus
      have hR:Hid (jbD R 19 x false l=(⟨0,0,0,false,[],[],⟨0,0,[],[]⟩,y.1⟩,jgC R y.1)):=by show _=_;unfold jbD;rw[hYY.out];exact if_pos hz
      obtain⟨yr,ye⟩:=y
      replace hz:ye=0:=hz
      subst hz
      replace ry:jaz wS Pn cy yr:=ry
      replace hyr:Hid (RtOk yr):=hyr
      refine ?h1a
     rotate_left
     focus
      have hR:Hid (jbD R 19 x false l=(repG y.2 0 0,R)):=by show _=_;unfold jbD;rw[hYY.out];exact if_neg hz
      refine ?h3b
     rotate_left
    rotate_left 2
    focus
     have hR:Hid (jbD R 19 x false l=(repG 1 0 0,R)):=by show _=_;unfold jbD jcG;rw[hNX,if_neg (fun h=>absurd h.1 (by decide)),if_neg (by decide),if_neg (fun h=>absurd h.1 (by decide)),if_neg (by decide),if_pos (.inr hxN)];rfl
     have qx:(x == N)=false:=by simp[hxN]
     clear hNX hN0 hxN
     refine ?h2b
    rotate_left
   rotate_left 3
  rotate_left 4
  focus
   by_cases hm:R.routes.fMoving=0
   ·have hR:Hid (jbD R 19 x true l=(repG 7 0 0,R)):=by show _=_;unfold jbD jcG;rw[if_neg (fun h=>absurd h.1 (by decide)),if_neg (by decide),if_pos ⟨rfl,hm⟩];rfl
    rw[hm]at z3
    clear hNX
    have hst:=jaf (P:=Tryz.prog) (cs:=repV 7 0 0) S_Reply RZ5 rfl rfl rfl
    unfold repV at hst
    have kS:Keep (·=w.heap.size+1) ((w4.alloc (.cells [.int .i64 0,.int .i64 0,.slice none 0 0,.int .i64 0,.slice none 0 0].toArray 53)).setRow w4.heap.size cr.toArray) (((w4.alloc (.cells [.int .i64 0,.int .i64 0,.slice none 0 0,.int .i64 0,.slice none 0 0].toArray 53)).setRow w4.heap.size cr.toArray).setRow (w.heap.size+1) (repV 7 0 0).toArray):=(Keep.refl (·=w.heap.size+1) ((w4.alloc (.cells [.int .i64 0,.int .i64 0,.slice none 0 0,.int .i64 0,.slice none 0 0].toArray 53)).setRow w4.heap.size cr.toArray)).setRow (fun _=>rfl) _
    have HZR:=Lib.hid (RZ5.setRow (repV 7 0 0))
    have KS:=Lib.hid kS
    clear kS
    go_wp2_with fail
    refine bodyPost_ret (results_cell_row (by rfl) _ _ _ _ _ _ _ (by rfl) HZR.out Tryz.underlying55 (by rfl) hinfo) rfl ?_
    rw[hR.out]
    exact⟨repV 7 0 0,O,fun _=>False,rfl,jch _ _ (⟨by decide,by decide⟩:jae 7) u0 i0,fun b h=>h.elim,((H5.out).keep KS.out (fun b hb e=>by have:=H0.out b hb;omega)).more (Nat.le_succ n),fun b h=>.inl h,fun b h=>h,((K5.out.nix (S:=O))).then KS.out (fun i hi e=>by omega)⟩
   have hR:Hid (jbD R 19 x true l=(⟨0,0,0,false,[],[],⟨0,0,[],[]⟩,jcH R.routes⟩,jgC R (jcH R.routes))):=by show _=_;unfold jbD jcG;rw[if_neg (fun h=>absurd h.1 (by decide)),if_neg (by decide),if_neg (fun h=>hm h.2),if_pos rfl];rfl
   have qm:(R.routes.fMoving == 0)=false:=by simp[hm]
   have hyr:Hid (RtOk (jcH R.routes)):=hok.still
   have HC:=jkT R.routes cr ((w4.alloc (.cells [.int .i64 0,.int .i64 0,.slice none 0 0,.int .i64 0,.slice none 0 0].toArray 53)).setRow w4.heap.size cr.toArray) R5.out
   obtain⟨yr,hY⟩:∃y,Hid (jcH R.routes=y):=⟨_,rfl⟩
   rw[hY.out]at HC hyr hR
   have HC:=Lib.hid HC
   have iM:jae 0:=i0
   clear hNX hm
   go_wp2_with fail
   clear x0 x3 x6 x7 z3 ld6 hst6
   go_fit HC.out
   rintro e w6 ⟨cy,rfl,ry,k6⟩
   have hly:=rGRoutes_lawful.len ry
   have hoy:=(show ones cy=true from by obtain⟨_,_,_,_,rfl,-⟩:=jav ry;rfl)
   have row5:=ROW6.out.keep k6 id
   have hst7:=jaf (P:=Tryz.prog) (cs:=cy) S_Routes row5 hlc.out hly hoy
   have kT:Keep (·=w4.heap.size) w6 (w6.setRow w4.heap.size cy.toArray):=(Keep.refl (·=w4.heap.size) w6).setRow (fun _=>rfl) _
   have row6:=row5.setRow cy
   have k26:=K25.out.trans k6
   have KS0:Hid (Keep (fun b=>¬O b) w2 (w6.setRow w4.heap.size cy.toArray)):=(k26.nix (S:=fun b=>¬O b)).trans (kT.mono (fun b e ho=>by have:=H0.out b ho;have:=hb6.out;omega))
   have KS1:Hid (Keep O w (w6.setRow w4.heap.size cy.toArray)):=((K1.out.trans k26).nix (S:=O)).then kT (fun i hi e=>by have:=hb6.out;omega)
   have RZS:=Lib.hid ((HZ.out.keep k26 id).keep kT (fun e=>by have:=hb6.out;omega))
   have hwS:Hid (w.heap.size+2≤(w6.setRow w4.heap.size cy.toArray).heap.size):=by show _≤_;have:=kT.size;have:=k26.size;have:=hw2.out;omega
   obtain⟨Pn,ry2,PN⟩:∃Pn:Nat→Prop,jaz (w6.setRow w4.heap.size cy.toArray) Pn cy yr∧Hid (∀b,Pn b→w.heap.size+2≤b):=⟨_,rGRoutes_lawful.keep ry kT (fun b hb e=>by have h1:=hb;have:=h45.out;have:=hb6.out;first | omega | (have:=h1.2;omega)),fun b hb=>by have h1:=hb;have:=h45.out;have:=hb6.out;have:=H23.out;first | omega | (have:=h1.1;omega)⟩
   have HS:=Lib.hid (((H5.out.nix k6).keep kT (fun b hb e=>by have:=H0.out b hb;have:=hb6.out;omega)))
   replace ry:=ry2
   clear ry2 hly hoy row5 kT k26 k6
   generalize w6.setRow w4.heap.size cy.toArray=wS at *
   refine ?h1b
  rotate_left
 rotate_left 5
 case h1a | h1b=>
  have RY:=Lib.hid ry
  have R6:=Lib.hid row6
  obtain⟨aQ,cQ,aR,cR,rfl,hE,hBs,-,hMv,-⟩:=jav ry
  have IS:=Lib.hid (And.intro hE (And.intro hBs hMv))
  have ld6:=Whole.run (P:=Tryz.prog) S_Routes rfl row6
  have rowG:=HB.out.row.keep (KS0.out) (fun h=>h og)
  have hstG:=jhk (P:=Tryz.prog) (w:=wS) (b:=g) (o:=2) S_Routes (cs:=[.int .i64 yr.fEpoch,.int .i64 yr.fBase,.slice aQ yr.fSpans.length cQ,.int .i64 yr.fMoving,.slice aR yr.fCut.length cR]) rfl (fun j hj=>⟨by
   rw[rowG.cell]
   match j,hj with
   | 0,_=>rfl
   | 1,_=>rfl
   | 2,_=>rfl
   | 3,_=>rfl
   | 4,_=>rfl
   | j+5,hj=>exact absurd hj (by omega),rowG.frozen _⟩) rfl
  have kG:=Keep.setCells g [.int .i64 yr.fEpoch,.int .i64 yr.fBase,.slice aQ yr.fSpans.length cQ,.int .i64 yr.fMoving,.slice aR yr.fCut.length cR] wS 2
  have rowT:=RowIs.setCells [.int .i64 yr.fEpoch,.int .i64 yr.fBase,.slice aQ yr.fSpans.length cQ,.int .i64 yr.fMoving,.slice aR yr.fCut.length cR] rowG (o:=2) (by show 2+5≤10;decide)
  replace rowT:RowIs (wS.setCells g 2 [.int .i64 yr.fEpoch,.int .i64 yr.fBase,.slice aQ yr.fSpans.length cQ,.int .i64 yr.fMoving,.slice aR yr.fCut.length cR]) g 79 [.int .i64 R.spare,.slice aC R.cats.length cC,.int .i64 yr.fEpoch,.int .i64 yr.fBase,.slice aQ yr.fSpans.length cQ,.int .i64 yr.fMoving,.slice aR yr.fCut.length cR,.int .u64 R.begun,.map (some bM),.slice aO R.order.length cO]:=rowT
  have hgl:=H0.out g og
  have hsS:=Lib.hid (show w.heap.size+2≤wS.heap.size from hwS.out)
  have hPn:∀b,(Pn b∧b<wS.heap.size)→¬O b∧(O b∨(w.heap.size+2≤b∧b<wS.heap.size)):=fun b hb=>⟨fun ho=>by have:=H0.out b ho;have:=PN.out b hb.1;omega,.inr ⟨PN.out b hb.1,hb.2⟩⟩
  have B2:=RootAt.turnR (O':=fun b=>O b∨(w.heap.size+2≤b∧b<wS.heap.size)) (HB.out.keep KS0.out og (fun b hb h=>h hb)) og (fun b h=>.inl h) (kG.mono (fun b hb=>.inl hb)) rowT (rGRoutes_lawful.keep (jgm RY.out) kG (fun b hb e=>by have:=PN.out b hb.1;omega)) hPn
  have hltT:∀b,(O b∨(w.heap.size+2≤b∧b<wS.heap.size))→b<(wS.setCells g 2 [.int .i64 yr.fEpoch,.int .i64 yr.fBase,.slice aQ yr.fSpans.length cQ,.int .i64 yr.fMoving,.slice aR yr.fCut.length cR]).heap.size:=fun b hb=>Nat.lt_of_lt_of_le (hb.elim (fun h=>by have:=H0.out b h;have:=hsS.out;omega) (fun h=>h.2)) kG.size
  have HT:IsRoot (wS.setCells g 2 [.int .i64 yr.fEpoch,.int .i64 yr.fBase,.slice aQ yr.fSpans.length cQ,.int .i64 yr.fMoving,.slice aR yr.fCut.length cR]) (fun b=>O b∨(w.heap.size+2≤b∧b<wS.heap.size)) g n (jgC R yr):=⟨hltT,.inl og,⟨ok.ex,ok.len,ok.small,ok.ver,by have:=hyr.out.len;show yr.fSpans.length≤30;omega,ok.u64,ok.place⟩,bM,aC,cC,aO,cO,aQ,cQ,aR,cR,cssC,D,B2⟩
  have HC:=Lib.hid (jfa _ g n _ _ HT)
  have HTT:=Lib.hid HT
  have RZT:=Lib.hid (RZS.out.keep kG (fun e=>by omega))
  have KT:=Lib.hid ((KS1.out).then kG (fun i hi e=>by rw[e];exact og))
  have KG:=Lib.hid kG.size
  clear B2 HT kG rowT rowG hPn ry row6
  go_wp2_with fail
  clear hstG ld6
  go_fit HC.out
  rintro e w8 ⟨cz,rfl,rz,k8⟩
  clear HC
  replace rz:jaz w8 _ cz yr:=rz
  have RZZ:=Lib.hid rz
  obtain⟨aP,cP,aV,cV,rfl,-⟩:=jav rz
  have rowZ8:=RZT.out.keep k8 id
  have hst:=jaf (P:=Tryz.prog) (cs:=[.int .i64 0,.int .u64 0,.int .i64 0,.bool false,.slice none 0 0,.slice none 0 0,.int .i64 0,.int .i64 0,.slice none 0 0,.slice none 0 0,.int .i64 yr.fEpoch,.int .i64 yr.fBase,.slice aP yr.fSpans.length cP,.int .i64 yr.fMoving,.slice aV yr.fCut.length cV]) S_Reply rowZ8 rfl rfl rfl
  have kS:Keep (·=w.heap.size+1) w8 (w8.setRow (w.heap.size+1) #[.int .i64 0,.int .u64 0,.int .i64 0,.bool false,.slice none 0 0,.slice none 0 0,.int .i64 0,.int .i64 0,.slice none 0 0,.slice none 0 0,.int .i64 yr.fEpoch,.int .i64 yr.fBase,.slice aP yr.fSpans.length cP,.int .i64 yr.fMoving,.slice aV yr.fCut.length cV]):=(Keep.refl (·=w.heap.size+1) w8).setRow (fun _=>rfl) _
  have HZR:=Lib.hid (rowZ8.setRow [.int .i64 0,.int .u64 0,.int .i64 0,.bool false,.slice none 0 0,.slice none 0 0,.int .i64 0,.int .i64 0,.slice none 0 0,.slice none 0 0,.int .i64 yr.fEpoch,.int .i64 yr.fBase,.slice aP yr.fSpans.length cP,.int .i64 yr.fMoving,.slice aV yr.fCut.length cV])
  have KS:=Lib.hid kS
  have K8:=Lib.hid k8
  clear kS rowZ8 rz k8
  go_wp2_with fail
  refine bodyPost_ret (results_cell_row (by rfl) _ _ _ _ _ _ _ (by rfl) HZR.out Tryz.underlying55 (by rfl) hinfo) rfl ?_
  rw[hR.out]
  have h1:=KG.out
  have h2:=K8.out.size
  have h3:=KS.out.size
  have h4:=hsS.out
  refine⟨[.int .i64 0,.int .u64 0,.int .i64 0,.bool false,.slice none 0 0,.slice none 0 0,.int .i64 0,.int .i64 0,.slice none 0 0,.slice none 0 0,.int .i64 yr.fEpoch,.int .i64 yr.fBase,.slice aP yr.fSpans.length cP,.int .i64 yr.fMoving,.slice aV yr.fCut.length cV],_,fun b=>(wS.setCells g 2 [.int .i64 yr.fEpoch,.int .i64 yr.fBase,.slice aQ yr.fSpans.length cQ,.int .i64 yr.fMoving,.slice aR yr.fCut.length cR]).heap.size≤b∧b<(w8.setRow (w.heap.size+1) #[.int .i64 0,.int .u64 0,.int .i64 0,.bool false,.slice none 0 0,.slice none 0 0,.int .i64 0,.int .i64 0,.slice none 0 0,.slice none 0 0,.int .i64 yr.fEpoch,.int .i64 yr.fBase,.slice aP yr.fSpans.length cP,.int .i64 yr.fMoving,.slice aV yr.fCut.length cV]).heap.size,rfl,jd8 _ _ (x:=⟨0,0,0,false,[],[],⟨0,0,[],[]⟩,yr⟩) i0 u0 iM (jbW _ _) (jbW _ _) (jcs _ _ (x:=⟨0,0,[],[]⟩) i0 i0 (jbW _ _) (jbW _ _)) (rGRoutes_lawful.mono (rGRoutes_lawful.keep RZZ.out KS.out (fun b hb e=>by have:=hb.1;omega)) (fun b hb=>⟨hb.1,by have:=hb.2;omega⟩)),fun b hb=>⟨by have:=hb.1;omega,hb.2,fun ho=>?_⟩,((HTT.out.nix K8.out).keep KS.out (fun b hb e=>?_)).more (Nat.le_succ n),fun b h=>?_,fun b h=>.inl h,(KT.out.then K8.out (fun _ _ h=>h.elim)).then KS.out (fun i hi e=>by omega)⟩
  ·have:=hb.1
   rcases ho with ho | ho
   ·have:=H0.out b ho;omega
   ·omega
  ·rcases hb with hb | hb
   ·have:=H0.out b hb;omega
   ·omega
  ·rcases h with h | h
   ·exact .inl h
   ·exact .inr (by omega)
 case h2a | h2b=>
  have hst:=jaf (P:=Tryz.prog) (cs:=repV 1 0 0) S_Reply RZ5 rfl rfl rfl
  unfold repV at hst
  have kS:Keep (·=w.heap.size+1) ((w4.alloc (.cells [.int .i64 0,.int .i64 0,.slice none 0 0,.int .i64 0,.slice none 0 0].toArray 53)).setRow w4.heap.size cr.toArray) (((w4.alloc (.cells [.int .i64 0,.int .i64 0,.slice none 0 0,.int .i64 0,.slice none 0 0].toArray 53)).setRow w4.heap.size cr.toArray).setRow (w.heap.size+1) (repV 1 0 0).toArray):=(Keep.refl (·=w.heap.size+1) ((w4.alloc (.cells [.int .i64 0,.int .i64 0,.slice none 0 0,.int .i64 0,.slice none 0 0].toArray 53)).setRow w4.heap.size cr.toArray)).setRow (fun _=>rfl) _
  have HZR:=Lib.hid (RZ5.setRow (repV 1 0 0))
  have KS:=Lib.hid kS
  clear kS
  go_wp2_with fail
  refine bodyPost_ret (results_cell_row (by rfl) _ _ _ _ _ _ _ (by rfl) HZR.out Tryz.underlying55 (by rfl) hinfo) rfl ?_
  rw[hR.out]
  exact⟨repV 1 0 0,O,fun _=>False,rfl,jch _ _ (⟨by decide,by decide⟩:jae 1) u0 i0,fun b h=>h.elim,((H5.out).keep KS.out (fun b hb e=>by have:=H0.out b hb;omega)).more (Nat.le_succ n),fun b h=>.inl h,fun b h=>h,((K5.out.nix (S:=O))).then KS.out (fun i hi e=>by omega)⟩
 case h3a | h3b=>
  have hz2:(y.2 == 0)=false:=by simp[hz]
  clear row6
  have hst:=jaf (P:=Tryz.prog) (cs:=repV y.2 0 0) S_Reply RZS.out rfl rfl rfl
  unfold repV at hst
  have kS:Keep (·=w.heap.size+1) wS (wS.setRow (w.heap.size+1) (repV y.2 0 0).toArray):=(Keep.refl (·=w.heap.size+1) wS).setRow (fun _=>rfl) _
  have HZR:=Lib.hid (RZS.out.setRow (repV y.2 0 0))
  have KS:=Lib.hid kS
  clear kS
  go_wp2_with fail
  refine bodyPost_ret (results_cell_row (by rfl) _ _ _ _ _ _ _ (by rfl) HZR.out Tryz.underlying55 (by rfl) hinfo) rfl ?_
  rw[hR.out]
  exact⟨repV y.2 0 0,O,fun _=>False,rfl,jch _ _ hye.out u0 i0,fun b h=>h.elim,((HS.out).keep KS.out (fun b hb e=>by have:=H0.out b hb;omega)).more (Nat.le_succ n),fun b h=>.inl h,fun b h=>h,(KS1.out).then KS.out (fun i hi e=>by omega)⟩
end
end
theorem jgb{w:World}{p:Nat→Prop}{cs:List Value}{c:GCatalog}(h:jat w p cs c):cs.length=4∧jae c.fVersion∧jae c.fNext∧c.fTables.length≤far∧c.fIndexes.length≤far:=by
 obtain⟨aT,cT,aX,cX,rfl,h1,h2,h3,h4,-⟩:=jau h
 exact⟨rfl,h1,h2,(ja0 h3).2.2,(ja0 h4).2.2⟩
theorem jjW{w:World}{base e sz n cap:Nat}{a:Option Addr}{xs:List Value}(h:w.ownsRow base e sz (.slice a n cap) n xs)(h0:0<n):∃b rest,a=some ⟨b,0,none⟩∧base≤b∧RowIs w b e (xs ++ rest)∧(xs ++ rest).length=cap*sz∧xs.length=n*sz∧n≤cap∧cap≤maxLen:=by
 have hx:=h.1
 obtain⟨-,h1,h2⟩:=jbu h
 cases a with
 | none=>
  rcases h.2 with⟨h3,h4⟩ | ⟨g,cap',cur,h3,_⟩
  ·omega
  ·cases h3
 | some a=>
  obtain⟨b,rest,rfl,h3,h4,h5⟩:=RowIs.of_owned h
  exact⟨b,rest,rfl,h3,h4,h5,hx,h1,h2⟩
theorem jd9{w:World}{base e sz n cap b:Nat}{xs rest:List Value}(h:RowIs w b e (xs ++ rest))(hb:base≤b)(hl:(xs ++ rest).length=cap*sz)(hx:xs.length=n*sz)(hn:n≤cap)(hc:cap≤maxLen):w.ownsRow base e sz (.slice (some ⟨b,0,none⟩) n cap) n xs:=
 ⟨hx,.inr ⟨b,cap,_,rfl,hb,h,hn,hc,by rw[List.size_toArray];exact hl,by rw[←hx];simp⟩⟩
theorem jfB{sz:Nat}:∀(css:List (List Value)),(∀c∈css,c.length=sz)→∀(i j:Nat) (hi:i<css.length) (_hj:j<sz) (v:Value),css.flatten.set (i*sz+j) v=(css.set i (css[i].set j v)).flatten
 | [],_,i,_,hi,_,_=>by simp at hi
 | d :: css,hl,0,j,_,hj,v=>by
  have hd:=hl d (by simp)
  rw[List.flatten_cons,Nat.zero_mul,Nat.zero_add,List.set_append_left _ _ (by omega)]
  simp
 | d :: css,hl,i+1,j,hi,hj,v=>by
  have hd:=hl d (by simp)
  have ih:=jfB css (fun c hc=>hl c (by simp[hc])) i j (by simpa using hi) hj v
  rw[List.flatten_cons,List.set_append_right _ _ (by rw[hd,Nat.add_mul];omega),show(i+1)*sz+j - d.length=i*sz+j by rw[hd,Nat.add_mul];omega,ih]
  simp
theorem jp6{w:World}{b e sz:Nat}{css:List (List Value)}{rest:List Value}(h:RowIs w b e (css.flatten ++ rest))(hl:∀c∈css,c.length=sz){i j:Nat}(hi:i<css.length)(hj:j<sz)(v:Value):RowIs (w.setCell ⟨b,i*sz+j,none⟩ v) b e ((css.set i (css[i].set j v)).flatten ++ rest):=by
 have:=h.set (i*sz+j) v
 have hlen:i*sz+j<css.flatten.length:=by
  have hs:css.flatten.length=css.length*sz:=by
   clear h this hi
   induction css with
   | nil=>simp
   | cons d css ih=>rw[List.flatten_cons,List.length_append,hl d (by simp),ih (fun c hc=>hl c (by simp[hc])),List.length_cons,Nat.add_mul];omega
  have:(i+1)*sz≤css.length*sz:=Nat.mul_le_mul_right _ hi
  rw[hs];rw[Nat.add_mul]at this;omega
 rw[List.set_append_left _ _ hlen,jfB css hl i j hi hj v]at this
 exact this
theorem jep{w:World}{b e sz:Nat}{css:List (List Value)}{rest:List Value}(h:RowIs w b e (css.flatten ++ rest))(hl:∀c∈css,c.length=sz){i:Nat}(hi:i<css.length){j:Nat}{u:Value}(hu:css[i][j]?=some u):w.cell? ⟨b,i*sz+j,none⟩=some u:=by
 have:=jeH css hl i css[i] (List.getElem?_eq_getElem hi) j u hu
 rw[h.cell,List.getElem?_append_left (List.getElem?_eq_some_iff.1 this).1]
 exact this
theorem Els.set{α:Type}{R:RD α}{w:World}{p:Nat→Prop}{css:List (List Value)}{xs:List α}(h:Els R w p css xs){i:Nat}{c:List Value}{x:α}(hc:R w p c x):Els R w p (css.set i c) (xs.set i x):=by
 refine⟨by simp[h.1],fun k d y hd hy=>?_⟩
 rw[List.getElem?_set]at hd hy
 by_cases hk:i=k
 ·subst hk
  by_cases h1:i<css.length
  ·have h2:i<xs.length:=by rw[←h.1];exact h1
   simp[h1]at hd
   simp[h2]at hy
   subst hd;subst hy;exact hc
  ·simp[h1]at hd
 ·rw[if_neg hk]at hd hy
  exact h.2 k d y hd hy
theorem Els.erase{α:Type}{R:RD α}{w:World}{p:Nat→Prop}{css:List (List Value)}{xs:List α}(h:Els R w p css xs)(i:Nat):Els R w p (css.eraseIdx i) (xs.eraseIdx i):=by
 refine⟨by rw[List.length_eraseIdx,List.length_eraseIdx,h.1],fun k d y hd hy=>?_⟩
 rw[List.getElem?_eraseIdx]at hd hy
 by_cases hk:k<i
 ·rw[if_pos hk]at hd hy;exact h.2 k d y hd hy
 ·rw[if_neg hk]at hd hy;exact h.2 (k+1) d y hd hy
theorem jht{sz:Nat}:∀(css:List (List Value)),(∀c∈css,c.length=sz)→∀(i:Nat),i<css.length→(css.eraseIdx i).flatten=css.flatten.take (i*sz) ++ css.flatten.drop ((i+1)*sz)
 | [],_,i,hi=>by simp at hi
 | d :: css,hl,0,_=>by
  have hd:=hl d (by simp)
  rw[List.eraseIdx_cons_zero,Nat.zero_mul,List.take_zero,List.nil_append,Nat.zero_add,Nat.one_mul,List.flatten_cons,List.drop_append_of_le_length (by omega),List.drop_of_length_le (by omega),List.nil_append]
 | d :: css,hl,i+1,hi=>by
  have hd:=hl d (by simp)
  have ih:=jht css (fun c hc=>hl c (by simp[hc])) i (by simpa using hi)
  rw[List.eraseIdx_cons_succ,List.flatten_cons,ih,List.flatten_cons,List.take_append,List.drop_append,List.take_of_length_le (l:=d) (by rw[hd,Nat.add_mul];omega),List.drop_of_length_le (l:=d) (by rw[hd,Nat.add_mul,Nat.add_mul];omega),List.nil_append,List.append_assoc,
   show(i+1)*sz - d.length=i*sz by rw[hd,Nat.add_mul];omega,show(i+1+1)*sz - d.length=(i+1)*sz by rw[hd,Nat.add_mul,Nat.add_mul];omega]
theorem jiQ{w wz:World}{c d:GCatalog}{aT aX:Option Addr}{cT cX base m:Nat}{cssT cssX:List (List Value)}{q r:Nat→Prop}(hcv:jae d.fVersion)(hcn:jae d.fNext)(hT:d.fTables=c.fTables)(hs1:c.fTables.length≤1000)(hs2:d.fIndexes.length≤1001)
  (ownT:wz.ownsRow base 39 4 (.slice aT c.fTables.length cT) c.fTables.length cssT.flatten) (ownX:wz.ownsRow m 41 7 (.slice aX d.fIndexes.length cX) d.fIndexes.length cssX.flatten)
  (elsT:Els jbR wz q cssT c.fTables) (elsX:Els jbQ wz r cssX d.fIndexes) (hq:∀b,q b→jai w wz b) (hr:∀b,r b→jai w wz b) (hb:w.heap.size≤base) (hm:w.heap.size≤m) :
  jat wz (jai w wz) [.int .i64 d.fVersion,.int .i64 d.fNext,.slice aT c.fTables.length cT,.slice aX d.fIndexes.length cX] d:=by
 have e:([.int .i64 d.fVersion,.int .i64 d.fNext,.slice aT c.fTables.length cT,.slice aX d.fIndexes.length cX]:List Value)=[.int .i64 d.fVersion,.int .i64 d.fNext,.slice aT d.fTables.length cT,.slice aX d.fIndexes.length cX]:=by rw[hT]
 rw[e]
 refine jcs wz _ (x:=d) hcv hcn ?_ ?_
 ·rw[hT]
  exact jd4 (R:=jbR) ownT elsT (by unfold far;omega) (fun _ _ h=>rGTable_lawful.mono (jd2 h) hq) (fun b h1 h2=>⟨Nat.le_trans hb h1,(ownT.lt b h2).2⟩)
 ·exact jd4 (R:=jbQ) ownX elsX (by unfold far;omega) (fun _ _ h=>rGIndex_lawful.mono (jde h) hr) (fun b h1 h2=>⟨Nat.le_trans hm h1,(ownX.lt b h2).2⟩)
theorem Els.lens{α:Type}{R:RD α}{sz:Nat}{w:World}{p:Nat→Prop}{css:List (List Value)}{xs:List α}(h:Els R w p css xs)(L:Lawful R sz):∀c∈css,c.length=sz:=fun c hc=>by
 obtain⟨i,hi,rfl⟩:=List.mem_iff_getElem.1 hc
 have h2:i<xs.length:=by rw[←h.1];exact hi
 exact L.len (h.2 i css[i] xs[i] (List.getElem?_eq_getElem hi) (List.getElem?_eq_getElem h2))
theorem jeQ{w:World}{p:Nat→Prop}{cs:List Value}{x:GIndex}(h:jbQ w p cs x):∃a cap,cs=[.int .i64 x.fID,.int .i64 x.fTable,.string (strB x.fName),.slice a x.fColumns.length cap,.bool x.fUnique,.int .i64 x.fState,.bool x.fBad]∧jae x.fID∧jae x.fTable∧jae x.fState∧jcV (rInt .i64) w p [.slice a x.fColumns.length cap] x.fColumns:=by
 obtain⟨c0,c1,c2,c3,c4,c5,c6,hcs,⟨rfl,e0⟩,⟨rfl,e1⟩,⟨rfl,e2⟩,h3,hb4,⟨rfl,e5⟩,hb6⟩:=h
 obtain⟨a,cap,rfl,h3⟩:=jcM h3
 cases hb4;cases hb6
 exact⟨a,cap,hcs,jaO e0,jaO e1,jaO e5,h3⟩
theorem jcB{w:World}{p:Nat→Prop}{cs:List Value}{x:GIndex}(h:jbQ w p cs x){s:Int}(hs:jae s):jbQ w p (cs.set 5 (.int .i64 s)) {x with fState:=s}:=by
 obtain⟨c0,c1,c2,c3,c4,c5,c6,rfl,⟨rfl,e0⟩,⟨rfl,e1⟩,⟨rfl,e2⟩,h3,hb4,⟨rfl,e5⟩,hb6⟩:=h
 obtain⟨a,cap,rfl,h3⟩:=jcM h3
 cases hb4;cases hb6
 exact⟨[_],[_],[_],[_],[_],[_],[_],rfl,⟨rfl,e0⟩,⟨rfl,e1⟩,⟨rfl,e2⟩,h3,rfl,⟨rfl,jbd hs⟩,rfl⟩
theorem jeu{w:World}{p:Nat→Prop}{cs:List Value}{x:GIndex}(h:jbQ w p cs x)(b:Bool):jbQ w p (cs.set 6 (.bool b)) {x with fBad:=b}:=by
 obtain⟨c0,c1,c2,c3,c4,c5,c6,rfl,⟨rfl,e0⟩,⟨rfl,e1⟩,⟨rfl,e2⟩,h3,hb4,⟨rfl,e5⟩,hb6⟩:=h
 obtain⟨a,cap,rfl,h3⟩:=jcM h3
 cases hb4;cases hb6
 exact⟨[_],[_],[_],[_],[_],[_],[_],rfl,⟨rfl,e0⟩,⟨rfl,e1⟩,⟨rfl,e2⟩,h3,rfl,⟨rfl,e5⟩,rfl⟩
theorem jfL{w:World}{b e sz:Nat}{css:List (List Value)}{rest:List Value}(h:RowIs w b e (css.flatten ++ rest))(hl:∀c∈css,c.length=sz){i j:Nat}(hi:i<css.length)(hj:j<sz)(v:Value):RowIs (w.setCell ⟨b,i*sz+j,none⟩ v) b e ((css.set i (css[i].set j v)).flatten ++ rest)∧((css.set i (css[i].set j v)).flatten ++ rest).length=(css.flatten ++ rest).length∧(css.set i (css[i].set j v)).flatten.length=css.flatten.length:=
 ⟨jp6 h hl hi hj v,by rw[←jfB css hl i j hi hj v];simp,by rw[←jfB css hl i j hi hj v];simp⟩
theorem jdw{w wb:World}{nX:Nat}{ver nx:Int}{rb base m:Nat}{zs:List Value}{c d:GCatalog}{aT aX:Option Addr}{cT cX:Nat}{cssT cssX:List (List Value)}{q r:Nat→Prop}(hver:d.fVersion=ver)(hnx:d.fNext=nx)(hnX:d.fIndexes.length=nX)(rowR:RowIs wb rb 50 zs)(hz:zs.length=4)(hw:w.heap.size≤rb)(hbT:rb<base)(hbX:rb<m)
  (hcv:jae d.fVersion) (hcn:jae d.fNext) (hT:d.fTables=c.fTables) (hs1:c.fTables.length≤1000) (hs2:d.fIndexes.length≤1001)
  (ownT:wb.ownsRow base 39 4 (.slice aT c.fTables.length cT) c.fTables.length cssT.flatten) (ownX:wb.ownsRow m 41 7 (.slice aX nX cX) nX cssX.flatten)
  (elsT:Els jbR wb q cssT c.fTables) (elsX:Els jbQ wb r cssX d.fIndexes) (hq:∀b,q b→rb<b∧b<wb.heap.size) (hr:∀b,r b→rb<b∧b<wb.heap.size) (kk:Keep Nix w wb) :
  (jbm 50 (.pointer (some ⟨rb,0,none⟩)) (.agg #[.int .i64 ver,.int .i64 nx,.slice aT c.fTables.length cT,.slice aX nX cX])).run Tryz.prog wb=.ok .skip (wb.setRow rb #[.int .i64 ver,.int .i64 nx,.slice aT c.fTables.length cT,.slice aX nX cX])∧
  RowIs (wb.setRow rb #[.int .i64 ver,.int .i64 nx,.slice aT c.fTables.length cT,.slice aX nX cX]) rb 50 [.int .i64 ver,.int .i64 nx,.slice aT c.fTables.length cT,.slice aX nX cX]∧
  Hid (jat (wb.setRow rb #[.int .i64 ver,.int .i64 nx,.slice aT c.fTables.length cT,.slice aX nX cX]) (jai w (wb.setRow rb #[.int .i64 ver,.int .i64 nx,.slice aT c.fTables.length cT,.slice aX nX cX])) [.int .i64 ver,.int .i64 nx,.slice aT c.fTables.length cT,.slice aX nX cX] d)∧
  Hid (Keep Nix w (wb.setRow rb #[.int .i64 ver,.int .i64 nx,.slice aT c.fTables.length cT,.slice aX nX cX])):=by
 subst hver hnx hnX
 have k9:Keep (·=rb) wb (wb.setRow rb ([.int .i64 d.fVersion,.int .i64 d.fNext,.slice aT c.fTables.length cT,.slice aX d.fIndexes.length cX]:List Value).toArray):=(Keep.refl (·=rb) wb).setRow (fun _=>rfl) _
 have hsz:=jgO wb rb ([.int .i64 d.fVersion,.int .i64 d.fNext,.slice aT c.fTables.length cT,.slice aX d.fIndexes.length cX]:List Value).toArray
 have hgT:∀b,OwnB (.slice aT c.fTables.length cT) b→base≤b:=fun b hb=>(ownT.lt b hb).1
 have hgX:∀b,OwnB (.slice aX d.fIndexes.length cX) b→m≤b:=fun b hb=>(ownX.lt b hb).1
 refine⟨jaf (cs:=[.int .i64 d.fVersion,.int .i64 d.fNext,.slice aT c.fTables.length cT,.slice aX d.fIndexes.length cX]) S_Catalog rowR hz rfl rfl,rowR.setRow [.int .i64 d.fVersion,.int .i64 d.fNext,.slice aT c.fTables.length cT,.slice aX d.fIndexes.length cX],?_,kk.then k9 (fun i hi e=>by omega)⟩
 exact jiQ (base:=base) (m:=m) hcv hcn hT hs1 hs2 (jad ownT k9 (fun b hb e=>by have:=hgT b hb;omega)) (jad ownX k9 (fun b hb e=>by have:=hgX b hb;omega)) (elsT.keep fGTable_lawful k9 (fun b hb e=>by have:=(hq b hb).1;omega)) (elsX.keep fGIndex_lawful k9 (fun b hb e=>by have:=(hr b hb).1;omega))
  (fun b hb=>⟨by have:=(hq b hb).1;omega,by have:=(hq b hb).2;exact Nat.lt_of_lt_of_le this k9.size⟩) (fun b hb=>⟨by have:=(hr b hb).1;omega,by have:=(hr b hb).2;exact Nat.lt_of_lt_of_le this k9.size⟩) (by omega) (by omega)
end Go.Proofs.YtibaehlfpgipfaaGreat
