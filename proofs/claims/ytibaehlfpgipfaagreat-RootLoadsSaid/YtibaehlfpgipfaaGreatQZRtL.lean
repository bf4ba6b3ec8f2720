/- ROUTE: which routes are right: the program's Right. Printed by genRtL.py and mac.py. -/
import Derived.Test.YtibaehlfpgipfaaGreatQZG46
namespace Go.Proofs.YtibaehlfpgipfaaGreat
open Go.RowKit
set_option maxRecDepth 100000
set_option maxHeartbeats 8000000
set_option linter.unusedSimpArgs false
def jdO(r:GRoutes)(k:Nat):List Value:=(List.range 9).map (fun i:Nat=>.bool (jeh r k (i:Int)))
theorem jft(r:GRoutes)(k n:Nat)(h:n<9):(jdO r k)[n]?=some (.bool (jeh r k (n:Int))):=by
 unfold jdO;rw[List.getElem?_map,List.getElem?_range h];rfl
theorem jlS(r:GRoutes)(k:Nat)(g:Int)(h:k<r.fSpans.length):jeh r (k+1) g=(jeh r k g || isG g r.fSpans[k]):=by
 unfold jeh;rw[List.take_succ_eq_append_getElem h,List.any_append];simp
theorem jnk(r:GRoutes)(k n:Nat)(h:n<9)(hk:k<r.fSpans.length)(hg:r.fSpans[k].fGroup=(n:Int)):(jdO r k).set n (.bool true)=jdO r (k+1):=by
 apply List.ext_getElem?
 intro i
 rw[List.getElem?_set]
 by_cases hi:i<9
 ·rw[jft r k i hi,jft r (k+1) i hi,jlS r k _ hk]
  by_cases e:n=i
  ·subst e
   rw[if_pos rfl,if_pos (by simpa [jdO] using h)]
   simp[isG,hg]
  ·rw[if_neg e]
   have:isG (i:Int) r.fSpans[k]=false:=by simp[isG,hg];omega
   rw[this,Bool.or_false]
 ·have h1:∀k,(jdO r k)[i]?=none:=fun k=>List.getElem?_eq_none (by simp[jdO];omega)
  rw[h1,h1,if_neg (by omega)]
theorem jnI{r:GRoutes}{k:Nat}(hk:k<r.fSpans.length)(h:∀j (hj:j<r.fSpans.length),j<k→badP r j r.fSpans[j]=false)(hb:badP r k r.fSpans[k]=false):∀j (hj:j<r.fSpans.length),j<k+1→badP r j r.fSpans[j]=false:=by
 intro j hj hjk
 by_cases e:j=k
 ·subst e;exact hb
 ·exact h j hj (by omega)
section
attribute [local go_sem ↓] jbC
theorem jow{p:Nat→Prop}(r:GRoutes)(csr:List Value)(w:World)(hr:jaz w p csr r) :
  Calls Tryz.prog 46 #[.agg csr.toArray] w fun e w'=>e=.returned (.bool (jcA r))∧Keep Nix w w':=by
 have HR:=Lib.hid hr
 obtain⟨aS,cS,aC,cC,rfl,hE,hB,hS,hM,hC,-⟩:=jav hr
 have mS:r.fSpans.length≤140737488351232:=by have:=(ja0 hS).2.2;have:=far_len;omega
 obtain⟨Y,HY⟩:∃y,Hid (jcA r=y):=⟨_,rfl⟩
 rw[HY.out]
 have HL:=Lib.hid hS
 have HC:=Lib.hid (show LB w p aC cC r.fCut from hC)
 have kk:Keep Nix w (w.alloc (.cells #[.int .i64 r.fEpoch,.int .i64 r.fBase,.slice aS r.fSpans.length cS,.int .i64 r.fMoving,.slice aC r.fCut.length cC] 53)):=(Keep.refl Nix w).alloc _
 have row0:RowIs (w.alloc (.cells #[.int .i64 r.fEpoch,.int .i64 r.fBase,.slice aS r.fSpans.length cS,.int .i64 r.fMoving,.slice aC r.fCut.length cC] 53)) w.heap.size 53 [.int .i64 r.fEpoch,.int .i64 r.fBase,.slice aS r.fSpans.length cS,.int .i64 r.fMoving,.slice aC r.fCut.length cC]:=RowIs.alloc w _ _
 have hsz0:(w.alloc (.cells #[.int .i64 r.fEpoch,.int .i64 r.fBase,.slice aS r.fSpans.length cS,.int .i64 r.fMoving,.slice aC r.fCut.length cC] 53)).heap.size=w.heap.size+1:=by simp
 obtain⟨v,HV⟩:∃v,Hid ((!jcu r)=v):=⟨_,rfl⟩
 clear hr hE hB hM hC hS
 go_enter Tryz.func46,Tryz.ntmps46
 go_upto_region 1 with fail
 generalize (w.alloc (.cells #[.int .i64 r.fEpoch,.int .i64 r.fBase,.slice aS r.fSpans.length cS,.int .i64 r.fMoving,.slice aC r.fCut.length cC] 53))=w1 at *
 generalize hbs:w.heap.size=bs at *
 go_cut [31] from 7 to 126 (fun s31 wx=>s31=.bool v∧w1=wx)
 case first=>
  as_aux_lemma=>
  have y0:=row0.cell 0
  (try simp only[List.getElem?_cons_zero]at y0)
  have y1:=row0.cell 1
  (try simp only[List.getElem?_cons_succ]at y1);(try simp only[List.getElem?_cons_zero]at y1)
  have y2:=row0.cell 2
  (try simp only[List.getElem?_cons_succ]at y2);(try simp only[List.getElem?_cons_zero]at y2)
  clear row0 kk HL HC HR HY
  rcases Int.lt_or_le r.fEpoch 0 with h1 | h1
  ·have e:jcu r=false:=by unfold jcu;rw[show decide (0≤r.fEpoch)=false from decide_eq_false (by omega)];simp
   have e2:v=true:=by rw[←HV.out,e];rfl
   clear HV e
   go_wp2_with fail
   go_meet
   exact⟨congrArg Value.bool (by rw[e2] <;> first | (simp;done) | (simp;omega)),rfl⟩
  rcases Int.lt_or_le r.fBase 1 with h2 | h2
  ·have e:jcu r=false:=by unfold jcu;rw[show decide (1≤r.fBase)=false from decide_eq_false (by omega)];simp
   have e2:v=true:=by rw[←HV.out,e];rfl
   clear HV e
   go_wp2_with fail
   go_meet
   exact⟨congrArg Value.bool (by rw[e2] <;> first | (simp;done) | (simp;omega)),rfl⟩
  rcases Int.lt_or_le 4 r.fBase with h3 | h3
  ·have e:jcu r=false:=by unfold jcu;rw[show decide (r.fBase≤4)=false from decide_eq_false (by omega)];simp
   have e2:v=true:=by rw[←HV.out,e];rfl
   clear HV e
   go_wp2_with fail
   go_meet
   exact⟨congrArg Value.bool (by rw[e2] <;> first | (simp;done) | (simp;omega)),rfl⟩
  rcases Int.lt_or_le (r.fSpans.length:Int) 1 with h4 | h4
  ·have e:jcu r=false:=by unfold jcu;rw[show decide (1≤r.fSpans.length)=false from decide_eq_false (by omega)];simp
   have e2:v=true:=by rw[←HV.out,e];rfl
   clear HV e
   go_wp2_with fail
   go_meet
   exact⟨congrArg Value.bool (by rw[e2] <;> first | (simp;done) | (simp;omega)),rfl⟩
  rcases Int.lt_or_le 4 (r.fSpans.length:Int)with h5 | h5
  ·have e:jcu r=false:=by unfold jcu;rw[show decide (r.fSpans.length≤4)=false from decide_eq_false (by omega)];simp
   have e2:v=true:=by rw[←HV.out,e];rfl
   clear HV e
   go_wp2_with fail
   go_meet
   exact⟨congrArg Value.bool (by rw[e2] <;> first | (simp;done) | (simp;omega)),rfl⟩
  ·have e:jcu r=true:=by unfold jcu;simp;omega
   have e2:v=false:=by rw[←HV.out,e];rfl
   clear HV e
   go_wp2_with fail
   go_meet
   exact⟨congrArg Value.bool (by rw[e2] <;> first | (simp;done) | (simp;omega)),rfl⟩
 case rest=>
 obtain⟨rfl,rfl⟩:=hcut
 go_upto_if 31 with fail
 cases v with
 | true=>
  have HQ:Hid (Y=false):=by show _=_;rw[←HY.out];exact jlO (by simpa using HV.out)
  go_wp2_with fail
  go_ret
  exact⟨jam HQ.out.symm,kk⟩
 | false=>
 have hH:jcu r=true:=by simpa using HV.out
 have HH:=Lib.hid hH
 clear HV
 unfold jcu at hH
 simp only[Bool.and_eq_true,decide_eq_true_eq]at hH
 obtain⟨-,hb1,hb4,hl1,hl4⟩:=hH
 have kA:Keep Nix w1 (w1.alloc (.cells #[.bool false,.bool false,.bool false,.bool false,.bool false,.bool false,.bool false,.bool false,.bool false] 157)):=(Keep.refl Nix w1).alloc _
 have rowA:RowIs (w1.alloc (.cells #[.bool false,.bool false,.bool false,.bool false,.bool false,.bool false,.bool false,.bool false,.bool false] 157)) (bs+1) 157 (jdO r 0):=by
  have h:=RowIs.alloc w1 #[.bool false,.bool false,.bool false,.bool false,.bool false,.bool false,.bool false,.bool false,.bool false] 157
  rw[hsz0]at h
  exact h
 replace row0:=row0.keep kA id
 replace kk:=kk.trans kA
 clear kA
 go_upto_region 4 with fail
 (try rw[hsz0])
 clear hsz0
 generalize (w1.alloc (.cells #[.bool false,.bool false,.bool false,.bool false,.bool false,.bool false,.bool false,.bool false,.bool false] 157))=w2 at *
 have y2:=row0.cell 2
 (try simp only[List.getElem?_cons_succ]at y2);(try simp only[List.getElem?_cons_zero]at y2)
 go_wp2_with fail
 clear y2
 go_loopw [36] (fun i wr=>∃k:Nat,k≤r.fSpans.length∧i=.int .i64 k∧Hid (∀j (hj:j<r.fSpans.length),j<k→badP r j r.fSpans[j]=false)∧RowIs wr bs 53 [.int .i64 r.fEpoch,.int .i64 r.fBase,.slice aS r.fSpans.length cS,.int .i64 r.fMoving,.slice aC r.fCut.length cC]∧RowIs wr (bs+1) 157 (jdO r k)∧Keep Nix w wr) (fun i _=>9 - (intOf i).toNat)
 case atStart=>exact⟨0,by omega,rfl,fun j _ h=>absurd h (Nat.not_lt_zero _),row0,rowA,kk⟩
 case round=>
  clear row0 kk rowA
  obtain⟨k,hk,rfl,HG,row0,rowA,kk⟩:=hrel
  by_cases hlt:k<r.fSpans.length
  ·have hi1:(k:Int)<(r.fSpans.length:Int):=by omega
   have hi0:(0:Int)≤(k:Int):=by omega
   have hS1:=(jac rGOwner_lawful).nix HL.out kk
   have hS2:=hS1
   obtain⟨b1,o1,_,_,e1,-,hbx,xr,xc⟩:=jaY rGOwner_lawful (by decide) hS1 k hlt
   simp only[List.cons.injEq,Value.slice.injEq,and_true]at e1
   obtain⟨rfl,-,-⟩:=e1
   have xf:=jcF hlt
   obtain⟨bad,hbd⟩:∃b,badP r k r.fSpans[k]=b:=⟨_,rfl⟩
   have HB:=Lib.hid hbd
   have HBAD:Hid (bad=true→Y=false):=fun h=>by rw[←HY.out];exact jmU hlt (hbd.trans h)
   have HGOOD:Hid (bad=false→∀j (hj:j<r.fSpans.length),j<k+1→badP r j r.fSpans[j]=false):=fun h=>jnI hlt HG.out (hbd.trans h)
   have HSET:Hid (∀n:Nat,n<9→r.fSpans[k].fGroup=(n:Int)→(jdO r k).set n (.bool true)=jdO r (k+1)):=fun n h1 h2=>jnk r k n h1 hlt h2
   clear xf hS1 hbd
   generalize r.fSpans[k]=x at *
   obtain⟨aF,cF,rfl,-,hF,-⟩:=jca xr
   have hF:LB wr p aF cF x.fFrom:=hF
   have x0:=xc 0 _ rfl
   (try simp only[Nat.add_zero]at x0)
   have x1:=xc 1 _ rfl
   have kE:Keep Nix wr ((wr.alloc (.cells #[.int .i64 x.fGroup,.slice aF x.fFrom.length cF] 97)).alloc (.cells #[.int .u8 120] 5)):=((Keep.refl Nix wr).alloc _).alloc _
   have rowE:RowIs ((wr.alloc (.cells #[.int .i64 x.fGroup,.slice aF x.fFrom.length cF] 97)).alloc (.cells #[.int .u8 120] 5)) wr.heap.size 97 [.int .i64 x.fGroup,.slice aF x.fFrom.length cF]:=(RowIs.alloc wr _ _).keep ((Keep.refl Nix _).alloc _) id
   have rowT:=RowIs.alloc (wr.alloc (.cells #[.int .i64 x.fGroup,.slice aF x.fFrom.length cF] 97)) #[.int .u8 120] 5
   have LT:=LB.row (c:=120) rowT (fun _=>True) trivial
   have hsz:(wr.alloc (.cells #[.int .i64 x.fGroup,.slice aF x.fFrom.length cF] 97)).heap.size=wr.heap.size+1:=by simp
   rw[hsz]at LT
   replace row0:=row0.keep kE id
   replace rowA:=rowA.keep kE id
   replace kk:=kk.trans kE
   replace hF:=hF.keep kE
   replace hS2:=(jac rGOwner_lawful).nix hS2 kE
   have hcall:=jli aF (some ⟨wr.heap.size+1,0,none⟩) x.fFrom.length cF 1 1 x.fFrom [120] ((wr.alloc (.cells #[.int .i64 x.fGroup,.slice aF x.fFrom.length cF] 97)).alloc (.cells #[.int .u8 120] 5)) rfl rfl hF.1 LT.1
   obtain⟨f1,hf1⟩:∃f,decide (x.fFrom=[120])=f:=⟨_,rfl⟩
   rw[hf1]at hcall
   have HF1:=Lib.hid hf1
   clear kE rowT LT hsz xr xc hf1
   go_wp2_with fail
   go_fit hcall
   rintro e w' ⟨rfl,hw'⟩
   clear hcall x0 x1
   rw[←hw']
   clear hw'
   go_upto_region 8 with fail
   clear w'
   generalize hbe:wr.heap.size=be at *
   generalize ((wr.alloc (.cells #[.int .i64 x.fGroup,.slice aF x.fFrom.length cF] 97)).alloc (.cells #[.int .u8 120] 5))=wE at *
   obtain⟨v1,HV1⟩:∃v,Hid ((decide (x.fGroup≤r.fBase) || (decide (r.fBase+4<x.fGroup) || (jeh r k x.fGroup || (f1 != decide (k=0)))))=v):=⟨_,rfl⟩
   obtain⟨v2,HV2⟩:∃v,Hid ((decide (0<k) && (x.fFrom.isEmpty || (!(x.fFrom.head? == some 120) || (decide (600<x.fFrom.length) || !ltB (ja8 r.fSpans (k - 1)) x.fFrom))))=v):=⟨_,rfl⟩
   have HBV:Hid (bad=(v1 || v2)):=by show _=_;rw[←HB.out,←HV1.out,←HV2.out,badP,HF1.out];simp only[Bool.or_assoc]
   go_cut [69] from 37 to 107 (fun s69 wx=>s69=.bool v1∧wE=wx)
   case first=>
    as_aux_lemma=>
    have y1:=row0.cell 1
    (try simp only[List.getElem?_cons_succ]at y1);(try simp only[List.getElem?_cons_zero]at y1)
    have e0:=rowE.cell 0
    (try simp only[List.getElem?_cons_zero]at e0)
    have hw4:IntKind.i64.wrap (r.fBase+4)=r.fBase+4:=by unfold IntKind.wrap;simp[IntKind.bits,IntKind.signed];omega
    obtain⟨sn,HSN⟩:∃sn,Hid (jeh r k x.fGroup=sn):=⟨_,rfl⟩
    replace HV1:Hid ((decide (x.fGroup≤r.fBase) || (decide (r.fBase+4<x.fGroup) || (sn || (f1 != decide (k=0)))))=v1):=by show _=_;rw[←HSN.out];exact HV1.out
    rcases Int.lt_or_le r.fBase x.fGroup with h1 | h1
    rotate_left
    ·have e:v1=true:=by rw[←HV1.out,decide_eq_true h1];rfl
     clear row0 rowA rowE hF hS2 kk HV1 HBV HV2 HSET HGOOD HBAD HB HG
     go_wp2_with fail
     go_meet
     exact⟨congrArg Value.bool (by rw[e] <;> first | (simp;done) | (simp;omega)),rfl⟩
    rcases Int.lt_or_le (r.fBase+4) x.fGroup with h2 | h2
    ·have e:v1=true:=by rw[←HV1.out,decide_eq_true h2];simp
     clear row0 rowA rowE hF hS2 kk HV1 HBV HV2 HSET HGOOD HBAD HB HG
     go_wp2_with fail
     go_meet
     exact⟨congrArg Value.bool (by rw[e] <;> first | (simp;done) | (simp;omega)),rfl⟩
    obtain⟨gn,hgn⟩:∃gn:Nat,x.fGroup=(gn:Int):=⟨x.fGroup.toNat,by omega⟩
    rw[hgn]at h1 h2 e0
    have hg9:gn<9:=by omega
    have hg9':(gn:Int)<9:=by omega
    have hg0:(0:Int)≤(gn:Int):=by omega
    have z:wE.cell? ⟨bs+1,gn,none⟩=some (.bool sn):=by rw[rowA.cell,jft r k gn hg9,←hgn,HSN.out]
    have e1:Hid ((sn || (f1 != decide (k=0)))=v1):=by show _=_;rw[←HV1.out,hgn,decide_eq_false (show ¬(gn:Int)≤r.fBase by omega),decide_eq_false (show ¬r.fBase+4<(gn:Int)by omega)];rfl
    clear row0 rowA rowE hF hS2 kk HV1 HBV HV2 HSET HGOOD HBAD HB HG HSN hgn hg9
    cases sn with
    | true=>
     have e:v1=true:=by rw[←e1.out];rfl
     clear e1
     go_wp2_with fail
     go_meet
     exact⟨congrArg Value.bool (by rw[e] <;> first | (simp;done) | (simp;omega)),rfl⟩
    | false=>
     by_cases hk0:k=0
     ·have hkb:((k:Int) == 0)=true:=by simp;omega
      have e:v1=!f1:=by rw[←e1.out,decide_eq_true hk0];cases f1 <;> rfl
      clear e1 hk0
      cases f1 <;>
      ·go_wp2_with fail
       go_meet
       exact⟨congrArg Value.bool (by rw[e] <;> first | (simp;done) | (simp;omega)),rfl⟩
     ·have hkb:((k:Int) == 0)=false:=by simp;omega
      have e:v1=f1:=by rw[←e1.out,decide_eq_false hk0];cases f1 <;> rfl
      clear e1 hk0
      cases f1 <;>
      ·go_wp2_with fail
       go_meet
       exact⟨congrArg Value.bool (by rw[e] <;> first | (simp;done) | (simp;omega)),rfl⟩
   case rest=>
   obtain⟨rfl,rfl⟩:=hcut
   go_upto_if 69 with fail
   cases v1 with
   | true=>
    have HQ:Hid (Y=false):=HBAD.out (by rw[HBV.out];rfl)
    go_wp2_with fail
    go_ret
    exact⟨jam HQ.out.symm,kk⟩
   | false=>
   go_upto_region 10 with fail
   go_cut [103] from 37 to 107 (fun s103 wx=>s103=.bool v2∧Keep Nix wE wx)
   case first=>
    as_aux_lemma=>
    clear HBV HGOOD HBAD HSET HB HG
    have kd:Keep Nix wE wE.drew:=(Keep.refl Nix wE).drew
    rcases Nat.eq_zero_or_pos k with hk0 | hk0
    focus
     have hB:v2=false:=by rw[←HV2.out,hk0];rfl
     have HB:Hid (Value.bool false=Value.bool v2):=congrArg Value.bool hB.symm
     have t1:decide (0<(k:Int))=false:=decide_eq_false (by omega)
     have hkN:¬0<k:=by omega
     have hk7:decide (0<k)=false:=decide_eq_false hkN
     have hO:∀w',Keep Nix wE w'→(fun w'=>w'.cell? ⟨be,1,none⟩=some (.slice aF x.fFrom.length cF)) w':=fun w' k'=>(rowE.keep k' id).cell 1
     have HO:=Lib.hid hO
     clear hO row0 rowA rowE hF hS2 kk HV2 hB hi1 hi0 hlt hk0
     refine wp_region_held_drew (S:=(fun w'=>w'.cell? ⟨be,1,none⟩=some (.slice aF x.fFrom.length cF))) (by kernel_rfl) ((HO.out _ kd)) (fun jaa=>?_)
     generalize wE.drew=wd at *
     refine tk 0 rfl jaa ?_
     refine tk 1 rfl jaa ?_
     refine tk 2 rfl jaa ?_
     refine wpAnyH_take (i:=3) (v:=undef) rfl (by kernel_rfl) (by kernel_rfl) (by kernel_rfl) (fun _ _ _ h=>h) (Or.inr ⟨by kernel_rfl,rfl⟩) jaa ?_
     try simp only[Act.put,zz1,zz2,zz3,zz4,zz5,zz6]
     refine wpAnyH_take (i:=4) (v:=undef) rfl (by kernel_rfl) (by kernel_rfl) (by kernel_rfl) (fun _ _ _ h=>h) (Or.inr ⟨by kernel_rfl,rfl⟩) jaa ?_
     try simp only[Act.put,zz1,zz2,zz3,zz4,zz5,zz6]
     refine wpAnyH_take (i:=5) (v:=undef) rfl (by kernel_rfl) (by kernel_rfl) (by kernel_rfl) (fun _ _ _ h=>h) (Or.inr ⟨by kernel_rfl,rfl⟩) jaa ?_
     try simp only[Act.put,zz1,zz2,zz3,zz4,zz5,zz6]
     refine wpAnyH_take (i:=6) (v:=undef) rfl (by kernel_rfl) (by kernel_rfl) (by kernel_rfl) (fun _ _ _ h=>h) (Or.inr ⟨by kernel_rfl,rfl⟩) jaa ?_
     try simp only[Act.put,zz1,zz2,zz3,zz4,zz5,zz6]
     refine wpAnyH_take (i:=7) (v:=undef) rfl (by kernel_rfl) (by kernel_rfl) (by kernel_rfl) (fun _ _ _ h=>h) (Or.inr ⟨by kernel_rfl,rfl⟩) jaa ?_
     try simp only[Act.put,zz1,zz2,zz3,zz4,zz5,zz6]
     refine wpAnyH_take (i:=8) (v:=undef) rfl (by kernel_rfl) (by kernel_rfl) (by kernel_rfl) (fun _ _ _ h=>h) (Or.inr ⟨by kernel_rfl,rfl⟩) jaa ?_
     try simp only[Act.put,zz1,zz2,zz3,zz4,zz5,zz6]
     refine wpAnyH_take (i:=9) (v:=undef) rfl (by kernel_rfl) (by kernel_rfl) (by kernel_rfl) (fun _ _ _ h=>h) (Or.inr ⟨by kernel_rfl,rfl⟩) jaa ?_
     try simp only[Act.put,zz1,zz2,zz3,zz4,zz5,zz6]
     refine wpAnyH_take (i:=10) (v:=undef) rfl (by kernel_rfl) (by kernel_rfl) (by kernel_rfl) (fun _ _ _ h=>h) (Or.inr ⟨by kernel_rfl,rfl⟩) jaa ?_
     try simp only[Act.put,zz1,zz2,zz3,zz4,zz5,zz6]
     refine wpAnyH_take (i:=11) (v:=undef) rfl (by kernel_rfl) (by kernel_rfl) (by kernel_rfl) (fun _ _ _ h=>h) (Or.inr ⟨by kernel_rfl,rfl⟩) jaa ?_
     try simp only[Act.put,zz1,zz2,zz3,zz4,zz5,zz6]
     refine wpAnyH_take (i:=12) (v:=undef) rfl (by kernel_rfl) (by kernel_rfl) (by kernel_rfl) (fun _ _ _ h=>h) (Or.inr ⟨by kernel_rfl,rfl⟩) jaa ?_
     try simp only[Act.put,zz1,zz2,zz3,zz4,zz5,zz6]
     refine wpAnyH_take (i:=13) (v:=undef) rfl (by kernel_rfl) (by kernel_rfl) (by kernel_rfl) (fun _ _ _ h=>h) (Or.inr ⟨by kernel_rfl,rfl⟩) jaa ?_
     try simp only[Act.put,zz1,zz2,zz3,zz4,zz5,zz6]
     refine wpAnyH_take (i:=14) (v:=undef) rfl (by kernel_rfl) (by kernel_rfl) (by kernel_rfl) (fun _ _ _ h=>h) (Or.inr ⟨by kernel_rfl,rfl⟩) jaa ?_
     try simp only[Act.put,zz1,zz2,zz3,zz4,zz5,zz6]
     refine wpAnyH_take (i:=15) (v:=undef) rfl (by kernel_rfl) (by kernel_rfl) (by kernel_rfl) (fun _ _ _ h=>h) (Or.inr ⟨by kernel_rfl,rfl⟩) jaa ?_
     try simp only[Act.put,zz1,zz2,zz3,zz4,zz5,zz6]
     refine wpAnyH_take (i:=16) (v:=undef) rfl (by kernel_rfl) (by kernel_rfl) (by kernel_rfl) (fun _ _ _ h=>h) (Or.inr ⟨by kernel_rfl,rfl⟩) jaa ?_
     try simp only[Act.put,zz1,zz2,zz3,zz4,zz5,zz6]
     refine wpAnyH_take (i:=17) (v:=undef) rfl (by kernel_rfl) (by kernel_rfl) (by kernel_rfl) (fun _ _ _ h=>h) (Or.inr ⟨by kernel_rfl,rfl⟩) jaa ?_
     try simp only[Act.put,zz1,zz2,zz3,zz4,zz5,zz6]
     refine wpAnyH_take (i:=18) (v:=undef) rfl (by kernel_rfl) (by kernel_rfl) (by kernel_rfl) (fun _ _ _ h=>h) (Or.inr ⟨by kernel_rfl,rfl⟩) jaa ?_
     try simp only[Act.put,zz1,zz2,zz3,zz4,zz5,zz6]
     refine wpAnyH_take (i:=19) (v:=undef) rfl (by kernel_rfl) (by kernel_rfl) (by kernel_rfl) (fun _ _ _ h=>h) (Or.inr ⟨by kernel_rfl,rfl⟩) jaa ?_
     try simp only[Act.put,zz1,zz2,zz3,zz4,zz5,zz6]
     refine wpAnyH_take (i:=20) (v:=undef) rfl (by kernel_rfl) (by kernel_rfl) (by kernel_rfl) (fun _ _ _ h=>h) (Or.inr ⟨by kernel_rfl,rfl⟩) jaa ?_
     try simp only[Act.put,zz1,zz2,zz3,zz4,zz5,zz6]
     refine wpAnyH_take (i:=21) (v:=undef) rfl (by kernel_rfl) (by kernel_rfl) (by kernel_rfl) (fun _ _ _ h=>h) (Or.inr ⟨by kernel_rfl,rfl⟩) jaa ?_
     try simp only[Act.put,zz1,zz2,zz3,zz4,zz5,zz6]
     refine wpAnyH_take (i:=22) (v:=undef) rfl (by kernel_rfl) (by kernel_rfl) (by kernel_rfl) (fun _ _ _ h=>h) (Or.inr ⟨by kernel_rfl,rfl⟩) jaa ?_
     try simp only[Act.put,zz1,zz2,zz3,zz4,zz5,zz6]
     refine wpAnyH_take (i:=23) (v:=undef) rfl (by kernel_rfl) (by kernel_rfl) (by kernel_rfl) (fun _ _ _ h=>h) (Or.inr ⟨by kernel_rfl,rfl⟩) jaa ?_
     try simp only[Act.put,zz1,zz2,zz3,zz4,zz5,zz6]
     refine wpAnyH_take (i:=24) (v:=undef) rfl (by kernel_rfl) (by kernel_rfl) (by kernel_rfl) (fun _ _ _ h=>h) (Or.inr ⟨by kernel_rfl,rfl⟩) jaa ?_
     try simp only[Act.put,zz1,zz2,zz3,zz4,zz5,zz6]
     refine wpAnyH_take (i:=25) (v:=undef) rfl (by kernel_rfl) (by kernel_rfl) (by kernel_rfl) (fun _ _ _ h=>h) (Or.inr ⟨by kernel_rfl,rfl⟩) jaa ?_
     try simp only[Act.put,zz1,zz2,zz3,zz4,zz5,zz6]
     refine wpAnyH_take (i:=26) (v:=undef) rfl (by kernel_rfl) (by kernel_rfl) (by kernel_rfl) (fun _ _ _ h=>h) (Or.inr ⟨by kernel_rfl,rfl⟩) jaa ?_
     try simp only[Act.put,zz1,zz2,zz3,zz4,zz5,zz6]
     refine wpAnyH_take (i:=27) (v:=undef) rfl (by kernel_rfl) (by kernel_rfl) (by kernel_rfl) (fun _ _ _ h=>h) (Or.inr ⟨by kernel_rfl,rfl⟩) jaa ?_
     try simp only[Act.put,zz1,zz2,zz3,zz4,zz5,zz6]
     refine wpAnyH_take (i:=28) (v:=undef) rfl (by kernel_rfl) (by kernel_rfl) (by kernel_rfl) (fun _ _ _ h=>h) (Or.inr ⟨by kernel_rfl,rfl⟩) jaa ?_
     try simp only[Act.put,zz1,zz2,zz3,zz4,zz5,zz6]
     refine wpAnyH_take (i:=29) (v:=undef) rfl (by kernel_rfl) (by kernel_rfl) (by kernel_rfl) (fun _ _ _ h=>h) (Or.inr ⟨by kernel_rfl,rfl⟩) jaa ?_
     try simp only[Act.put,zz1,zz2,zz3,zz4,zz5,zz6]
     refine wpAnyH_take (i:=30) (v:=undef) rfl (by kernel_rfl) (by kernel_rfl) (by kernel_rfl) (fun _ _ _ h=>h) (Or.inr ⟨by kernel_rfl,rfl⟩) jaa ?_
     try simp only[Act.put,zz1,zz2,zz3,zz4,zz5,zz6]
     refine wpAnyH_take (i:=31) (v:=undef) rfl (by kernel_rfl) (by kernel_rfl) (by kernel_rfl) (fun _ _ _ h=>h) (Or.inr ⟨by kernel_rfl,rfl⟩) jaa ?_
     try simp only[Act.put,zz1,zz2,zz3,zz4,zz5,zz6]
     refine wpAnyH_take (i:=32) (v:=undef) rfl (by kernel_rfl) (by kernel_rfl) (by kernel_rfl) (fun _ _ _ h=>h) (Or.inr ⟨by kernel_rfl,rfl⟩) jaa ?_
     refine ?h2a
    rotate_left
    focus
     have t1:decide (0<(k:Int))=true:=decide_eq_true (by omega)
     have HK:Hid (decide (0<k)=true):=decide_eq_true hk0
     by_cases hne:x.fFrom=[]
     focus
      have hB:v2=true:=by rw[←HV2.out,HK.out,hne];rfl
      have HB:Hid (Value.bool true=Value.bool v2):=congrArg Value.bool hB.symm
      have t2:((x.fFrom.length:Int) == 0)=true:=len0 hne
      have hO:∀w',Keep Nix wE w'→(fun w'=>w'.cell? ⟨be,1,none⟩=some (.slice aF x.fFrom.length cF)) w':=fun w' k'=>(rowE.keep k' id).cell 1
      have HO:=Lib.hid hO
      clear hO row0 rowA rowE hF hS2 kk HV2 hB hi1 hi0 hlt hne
      refine wp_region_held_drew (S:=(fun w'=>w'.cell? ⟨be,1,none⟩=some (.slice aF x.fFrom.length cF))) (by kernel_rfl) ((HO.out _ kd)) (fun jaa=>?_)
      generalize wE.drew=wd at *
      refine tk 0 rfl jaa ?_
      refine tk 1 rfl jaa ?_
      refine tk 2 rfl jaa ?_
      refine tk 3 rfl jaa ?_
      refine tk 4 rfl jaa ?_
      refine tk 5 rfl jaa ?_
      refine tk 6 rfl jaa ?_
      refine tk 7 rfl jaa ?_
      refine wpAnyH_take (i:=8) (v:=undef) rfl (by kernel_rfl) (by kernel_rfl) (by kernel_rfl) (fun _ _ _ h=>h) (Or.inr ⟨by kernel_rfl,rfl⟩) jaa ?_
      try simp only[Act.put,zz1,zz2,zz3,zz4,zz5,zz6]
      refine wpAnyH_take (i:=9) (v:=undef) rfl (by kernel_rfl) (by kernel_rfl) (by kernel_rfl) (fun _ _ _ h=>h) (Or.inr ⟨by kernel_rfl,rfl⟩) jaa ?_
      try simp only[Act.put,zz1,zz2,zz3,zz4,zz5,zz6]
      refine wpAnyH_take (i:=10) (v:=undef) rfl (by kernel_rfl) (by kernel_rfl) (by kernel_rfl) (fun _ _ _ h=>h) (Or.inr ⟨by kernel_rfl,rfl⟩) jaa ?_
      try simp only[Act.put,zz1,zz2,zz3,zz4,zz5,zz6]
      refine wpAnyH_take (i:=11) (v:=undef) rfl (by kernel_rfl) (by kernel_rfl) (by kernel_rfl) (fun _ _ _ h=>h) (Or.inr ⟨by kernel_rfl,rfl⟩) jaa ?_
      try simp only[Act.put,zz1,zz2,zz3,zz4,zz5,zz6]
      refine wpAnyH_take (i:=12) (v:=undef) rfl (by kernel_rfl) (by kernel_rfl) (by kernel_rfl) (fun _ _ _ h=>h) (Or.inr ⟨by kernel_rfl,rfl⟩) jaa ?_
      try simp only[Act.put,zz1,zz2,zz3,zz4,zz5,zz6]
      refine tk 13 rfl jaa ?_
      refine tk 14 rfl jaa ?_
      refine wpAnyH_take (i:=15) (v:=undef) rfl (by kernel_rfl) (by kernel_rfl) (by kernel_rfl) (fun _ _ _ h=>h) (Or.inr ⟨by kernel_rfl,rfl⟩) jaa ?_
      try simp only[Act.put,zz1,zz2,zz3,zz4,zz5,zz6]
      refine wpAnyH_take (i:=16) (v:=undef) rfl (by kernel_rfl) (by kernel_rfl) (by kernel_rfl) (fun _ _ _ h=>h) (Or.inr ⟨by kernel_rfl,rfl⟩) jaa ?_
      try simp only[Act.put,zz1,zz2,zz3,zz4,zz5,zz6]
      refine wpAnyH_take (i:=17) (v:=undef) rfl (by kernel_rfl) (by kernel_rfl) (by kernel_rfl) (fun _ _ _ h=>h) (Or.inr ⟨by kernel_rfl,rfl⟩) jaa ?_
      try simp only[Act.put,zz1,zz2,zz3,zz4,zz5,zz6]
      refine wpAnyH_take (i:=18) (v:=undef) rfl (by kernel_rfl) (by kernel_rfl) (by kernel_rfl) (fun _ _ _ h=>h) (Or.inr ⟨by kernel_rfl,rfl⟩) jaa ?_
      refine ?h1a
     rotate_left
     focus
      have t2:((x.fFrom.length:Int) == 0)=false:=len1 hne
      have hlen:(0:Int)<(x.fFrom.length:Int):=jlo hne
      have hlenN:0<x.fFrom.length:=by omega
      have hE:x.fFrom.isEmpty=false:=by simpa using hne
      obtain⟨bF,oF,rfl,-,hbF,hcF⟩:=hF.1 (by simpa using hne)
      obtain⟨cB,hh,hcB⟩:∃cB:Int,(x.fFrom.head? == some 120)=decide (cB=120)∧wE.cell? ⟨bF,oF,none⟩=some (.int .u8 cB):=by
       cases hf:x.fFrom with
       | nil=>exact absurd hf hne
       | cons c f'=>
        refine⟨(c.toNat:Int),?_,hcF 0 _ (by rw[hf];rfl)⟩
        rw[Bool.eq_iff_iff]
        simp only[List.head?_cons,beq_iff_eq,Option.some.injEq,decide_eq_true_eq]
        exact⟨fun h=>by rw[h];rfl,fun h=>UInt8.toNat_inj.1 (by show c.toNat=120;omega)⟩
      have hO2:∀w',Keep Nix wE w'→(fun w'=>w'.cell? ⟨be,1,none⟩=some (.slice (some ⟨bF,oF,none⟩) x.fFrom.length cF)∧w'.cell? ⟨bF,oF,none⟩=some (.int .u8 cB)) w':=fun w' k'=>⟨(rowE.keep k' id).cell 1,(k'.cell (p:=⟨bF,oF,none⟩) hbF id).trans hcB⟩
      have HO:=Lib.hid hO2
      by_cases h5:cB=120
      rotate_left
      focus
       have hB:v2=true:=by rw[←HV2.out,HK.out,hE,hh,decide_eq_false h5];rfl
       have HB:Hid (Value.bool true=Value.bool v2):=congrArg Value.bool hB.symm
       have h5':(cB != 120)=true:=by simpa using h5
       clear hO2 row0 rowA rowE hF hS2 kk HV2 hB hi1 hi0 hlt hne hcB hcF hh hE
       refine wp_region_held_drew (S:=(fun w'=>w'.cell? ⟨be,1,none⟩=some (.slice (some ⟨bF,oF,none⟩) x.fFrom.length cF)∧w'.cell? ⟨bF,oF,none⟩=some (.int .u8 cB))) (by kernel_rfl) ((HO.out _ kd)) (fun jaa=>?_)
       generalize wE.drew=wd at *
       refine tk 0 rfl jaa ?_
       refine tk 1 rfl jaa ?_
       refine tk 2 rfl jaa ?_
       refine tk 3 rfl jaa ?_
       refine tk 4 rfl jaa ?_
       refine tk 5 rfl jaa ?_
       refine tk 6 rfl jaa ?_
       refine tk 7 rfl jaa ?_
       refine tk 8 rfl jaa ?_
       refine tk 9 rfl jaa ?_
       refine tk 10 rfl jaa ?_
       refine tk 11 rfl jaa ?_
       refine tk 12 rfl jaa ?_
       refine tk 13 rfl jaa ?_
       refine tk 14 rfl jaa ?_
       refine wpAnyH_take (i:=15) (v:=undef) rfl (by kernel_rfl) (by kernel_rfl) (by kernel_rfl) (fun _ _ _ h=>h) (Or.inr ⟨by kernel_rfl,rfl⟩) jaa ?_
       try simp only[Act.put,zz1,zz2,zz3,zz4,zz5,zz6]
       refine wpAnyH_take (i:=16) (v:=undef) rfl (by kernel_rfl) (by kernel_rfl) (by kernel_rfl) (fun _ _ _ h=>h) (Or.inr ⟨by kernel_rfl,rfl⟩) jaa ?_
       try simp only[Act.put,zz1,zz2,zz3,zz4,zz5,zz6]
       refine wpAnyH_take (i:=17) (v:=undef) rfl (by kernel_rfl) (by kernel_rfl) (by kernel_rfl) (fun _ _ _ h=>h) (Or.inr ⟨by kernel_rfl,rfl⟩) jaa ?_
       try simp only[Act.put,zz1,zz2,zz3,zz4,zz5,zz6]
       refine wpAnyH_take (i:=18) (v:=undef) rfl (by kernel_rfl) (by kernel_rfl) (by kernel_rfl) (fun _ _ _ h=>h) (Or.inr ⟨by kernel_rfl,rfl⟩) jaa ?_
       refine ?h1b
      rotate_left
      focus
       subst h5
       rcases Bool.eq_false_or_eq_true (decide (600<(x.fFrom.length:Int)))with t6 | t6
       focus
        have hB:v2=true:=by rw[←HV2.out,HK.out,hE,hh,show decide (600<x.fFrom.length)=true by have:=of_decide_eq_true t6;exact decide_eq_true (by omega)];rfl
        have HB:Hid (Value.bool true=Value.bool v2):=congrArg Value.bool hB.symm
        clear hO2 row0 rowA rowE hF hS2 kk HV2 hB hi1 hi0 hlt hne hcB hcF hh hE
        refine wp_region_held_drew (S:=(fun w'=>w'.cell? ⟨be,1,none⟩=some (.slice (some ⟨bF,oF,none⟩) x.fFrom.length cF)∧w'.cell? ⟨bF,oF,none⟩=some (.int .u8 120))) (by kernel_rfl) ((HO.out _ kd)) (fun jaa=>?_)
        generalize wE.drew=wd at *
        refine tk 0 rfl jaa ?_
        refine tk 1 rfl jaa ?_
        refine tk 2 rfl jaa ?_
        refine tk 3 rfl jaa ?_
        refine tk 4 rfl jaa ?_
        refine tk 5 rfl jaa ?_
        refine tk 6 rfl jaa ?_
        refine tk 7 rfl jaa ?_
        refine tk 8 rfl jaa ?_
        refine tk 9 rfl jaa ?_
        refine tk 10 rfl jaa ?_
        refine tk 11 rfl jaa ?_
        refine tk 12 rfl jaa ?_
        refine tk 13 rfl jaa ?_
        refine tk 14 rfl jaa ?_
        refine tk 15 rfl jaa ?_
        refine tk 16 rfl jaa ?_
        refine tk 17 rfl jaa ?_
        refine tk0 18 (v:=?_) rfl ?_ jaa ?_
        rotate_left
        ·intro w' hSw
         (try dsimp only at hSw)
         try simp only[zz1,zz2,zz3]
         go_simp
         try with_reducible rfl
        refine ?h1c
       rotate_left
       focus
        have hk1:k - 1<r.fSpans.length:=by omega
        have hks:((k:Int) - 1).toNat=k - 1:=by omega
        obtain⟨b2,o2,_,_,e2,-,hb2,zr,zc⟩:=jaY rGOwner_lawful (by decide) hS2 (k - 1) hk1
        simp only[List.cons.injEq,Value.slice.injEq,Option.some.injEq,Addr.mk.injEq,and_true]at e2
        obtain⟨⟨rfl,rfl⟩,-⟩:=e2
        have zf:=jcF hk1
        obtain⟨aP,cP,rfl,-,hP,-⟩:=jca zr
        have hP:LB wE p aP cP r.fSpans[k - 1].fFrom:=hP
        have z1:=zc 1 _ rfl
        rw[←zf]at hP z1
        obtain⟨fp,hfp⟩:∃y,ja8 r.fSpans (k - 1)=y:=⟨_,rfl⟩
        rw[hfp]at hP z1
        have hge:=cmp_ge fp x.fFrom
        obtain⟨n,hn⟩:∃n,Lib.compareBytes fp x.fFrom=n:=⟨_,rfl⟩
        rw[hn]at hge
        have HN:=Lib.hid hn
        have hB:v2=decide (0≤n):=by rw[←HV2.out,HK.out,hE,hh,show decide (600<x.fFrom.length)=false by have:=of_decide_eq_false t6;exact decide_eq_false (by omega),hfp,←hge];rfl
        have HB:Hid (Value.bool (decide (0≤n))=Value.bool v2):=congrArg Value.bool hB.symm
        have hwk:IntKind.i64.wrap ((k:Int) - 1)=(k:Int) - 1:=by unfold IntKind.wrap;simp[IntKind.bits,IntKind.signed];omega
        have hk2:(k:Int) - 1<(r.fSpans.length:Int):=by omega
        have hk3:(0:Int)≤(k:Int) - 1:=by omega
        have hk4:(1:Int)≤(k:Int):=by omega
        have hO3:∀w',Keep Nix wE w'→(fun w'=>w'.cell? ⟨be,1,none⟩=some (.slice (some ⟨bF,oF,none⟩) x.fFrom.length cF)∧w'.cell? ⟨bF,oF,none⟩=some (.int .u8 120)∧w'.cell? ⟨bs,2,none⟩=some (.slice (some ⟨b1,o1,none⟩) r.fSpans.length cS)∧w'.cell? ⟨b1,o1+(k - 1)*2+1,none⟩=some (.slice aP fp.length cP)) w':=fun w' k'=>⟨(HO.out w' k').1,(HO.out w' k').2,(row0.keep k' id).cell 2,(k'.cell (p:=⟨b1,o1+(k - 1)*2+1,none⟩) hb2 id).trans z1⟩
        clear HO
        have HO:=Lib.hid hO3
        clear hO2 hO3 row0 rowA rowE hS2 kk HV2 hB hi1 hi0 hlt hne hcB hcF hh hE hn hge zf z1 zr zc hfp
        refine wp_region_held_drew (S:=(fun w'=>w'.cell? ⟨be,1,none⟩=some (.slice (some ⟨bF,oF,none⟩) x.fFrom.length cF)∧w'.cell? ⟨bF,oF,none⟩=some (.int .u8 120)∧w'.cell? ⟨bs,2,none⟩=some (.slice (some ⟨b1,o1,none⟩) r.fSpans.length cS)∧w'.cell? ⟨b1,o1+(k - 1)*2+1,none⟩=some (.slice aP fp.length cP))) (by kernel_rfl) ((HO.out _ kd)) (fun jaa=>?_)
        generalize wE.drew=wd at *
        refine tk 0 rfl jaa ?_
        refine tk 1 rfl jaa ?_
        refine tk 2 rfl jaa ?_
        refine tk 3 rfl jaa ?_
        refine tk 4 rfl jaa ?_
        refine tk 5 rfl jaa ?_
        refine tk 6 rfl jaa ?_
        refine tk 7 rfl jaa ?_
        refine tk 8 rfl jaa ?_
        refine tk 9 rfl jaa ?_
        refine tk 10 rfl jaa ?_
        refine tk 11 rfl jaa ?_
        refine tk 12 rfl jaa ?_
        refine tk 13 rfl jaa ?_
        refine tk 14 rfl jaa ?_
        refine tk 15 rfl jaa ?_
        refine tk 16 rfl jaa ?_
        refine tk 17 rfl jaa ?_
        refine tk 18 rfl jaa ?_
        refine tk 19 rfl jaa ?_
        refine tk 20 rfl jaa ?_
        refine tk 21 rfl jaa ?_
        refine tk 22 rfl jaa ?_
        refine tk 23 rfl jaa ?_
        refine tk 24 rfl jaa ?_
        refine tk 25 rfl jaa ?_
        refine tk 26 rfl jaa ?_
        refine tk 27 rfl jaa ?_
        refine tk 28 rfl jaa ?_
        refine tk 29 rfl jaa ?_
        refine wpAnyH_ready (rs:=[30]) (by kernel_rfl) (by simp) ?_
        refine AllReadyH.cons rfl (fun K hK=>?_) AllReadyH.nil
        rw[if_pos (by kernel_rfl)]
        go_simp
        go_fit (jjC aP (some ⟨bF,oF,none⟩) fp.length cP x.fFrom.length cF fp x.fFrom _ rfl rfl (hP.keep kd).1 (hF.keep kd).1)
        rw[HN.out]
        rintro e w3 ⟨rfl,rfl⟩
        go_wp2_with fail
        refine hK.out _ _ ((HO.out _ kd)) (fun jaa=>?_)
        clear hK K
        try simp only[Act.put,zz1,zz2,zz3,zz4,zz5,zz6]
        refine tk 31 rfl jaa ?_
        refine tk0 32 (v:=?_) rfl ?_ jaa ?_
        rotate_left
        ·intro w' hSw
         (try dsimp only at hSw)
         try simp only[zz1,zz2,zz3]
         go_simp
         try with_reducible rfl
        refine ?h2b
       rotate_left
      rotate_left 2
     rotate_left 3
    rotate_left 4
    case h1a | h1b | h1c=>
     try simp only[Act.put,zz1,zz2,zz3,zz4,zz5,zz6]
     refine tk 19 rfl jaa ?_
     refine tk 20 rfl jaa ?_
     refine wpAnyH_take (i:=21) (v:=undef) rfl (by kernel_rfl) (by kernel_rfl) (by kernel_rfl) (fun _ _ _ h=>h) (Or.inr ⟨by kernel_rfl,rfl⟩) jaa ?_
     try simp only[Act.put,zz1,zz2,zz3,zz4,zz5,zz6]
     refine wpAnyH_take (i:=22) (v:=undef) rfl (by kernel_rfl) (by kernel_rfl) (by kernel_rfl) (fun _ _ _ h=>h) (Or.inr ⟨by kernel_rfl,rfl⟩) jaa ?_
     try simp only[Act.put,zz1,zz2,zz3,zz4,zz5,zz6]
     refine wpAnyH_take (i:=23) (v:=undef) rfl (by kernel_rfl) (by kernel_rfl) (by kernel_rfl) (fun _ _ _ h=>h) (Or.inr ⟨by kernel_rfl,rfl⟩) jaa ?_
     try simp only[Act.put,zz1,zz2,zz3,zz4,zz5,zz6]
     refine wpAnyH_take (i:=24) (v:=undef) rfl (by kernel_rfl) (by kernel_rfl) (by kernel_rfl) (fun _ _ _ h=>h) (Or.inr ⟨by kernel_rfl,rfl⟩) jaa ?_
     try simp only[Act.put,zz1,zz2,zz3,zz4,zz5,zz6]
     refine wpAnyH_take (i:=25) (v:=undef) rfl (by kernel_rfl) (by kernel_rfl) (by kernel_rfl) (fun _ _ _ h=>h) (Or.inr ⟨by kernel_rfl,rfl⟩) jaa ?_
     try simp only[Act.put,zz1,zz2,zz3,zz4,zz5,zz6]
     refine wpAnyH_take (i:=26) (v:=undef) rfl (by kernel_rfl) (by kernel_rfl) (by kernel_rfl) (fun _ _ _ h=>h) (Or.inr ⟨by kernel_rfl,rfl⟩) jaa ?_
     try simp only[Act.put,zz1,zz2,zz3,zz4,zz5,zz6]
     refine wpAnyH_take (i:=27) (v:=undef) rfl (by kernel_rfl) (by kernel_rfl) (by kernel_rfl) (fun _ _ _ h=>h) (Or.inr ⟨by kernel_rfl,rfl⟩) jaa ?_
     try simp only[Act.put,zz1,zz2,zz3,zz4,zz5,zz6]
     refine wpAnyH_take (i:=28) (v:=undef) rfl (by kernel_rfl) (by kernel_rfl) (by kernel_rfl) (fun _ _ _ h=>h) (Or.inr ⟨by kernel_rfl,rfl⟩) jaa ?_
     try simp only[Act.put,zz1,zz2,zz3,zz4,zz5,zz6]
     refine wpAnyH_take (i:=29) (v:=undef) rfl (by kernel_rfl) (by kernel_rfl) (by kernel_rfl) (fun _ _ _ h=>h) (Or.inr ⟨by kernel_rfl,rfl⟩) jaa ?_
     try simp only[Act.put,zz1,zz2,zz3,zz4,zz5,zz6]
     refine wpAnyH_take (i:=30) (v:=undef) rfl (by kernel_rfl) (by kernel_rfl) (by kernel_rfl) (fun _ _ _ h=>h) (Or.inr ⟨by kernel_rfl,rfl⟩) jaa ?_
     try simp only[Act.put,zz1,zz2,zz3,zz4,zz5,zz6]
     refine wpAnyH_take (i:=31) (v:=undef) rfl (by kernel_rfl) (by kernel_rfl) (by kernel_rfl) (fun _ _ _ h=>h) (Or.inr ⟨by kernel_rfl,rfl⟩) jaa ?_
     try simp only[Act.put,zz1,zz2,zz3,zz4,zz5,zz6]
     refine tk 32 rfl jaa ?_
     refine tk 33 rfl jaa ?_
     refine wpAnyH_done (by kernel_rfl) ?_ _
     clear jaa
     go_wp2_with fail
     go_meet
     exact⟨HB.out,kd⟩
    case h2a | h2b=>
     try simp only[Act.put,zz1,zz2,zz3,zz4,zz5,zz6]
     refine tk 33 rfl jaa ?_
     refine wpAnyH_done (by kernel_rfl) ?_ _
     clear jaa
     go_wp2_with fail
     go_meet
     exact⟨HB.out,kd⟩
   case rest=>
   obtain⟨rfl,kd⟩:=hcut
   replace row0:=row0.keep kd id
   replace rowA:=rowA.keep kd id
   replace rowE:=rowE.keep kd id
   replace kk:=kk.trans kd
   clear kd
   go_upto_if 103 with fail
   cases v2 with
   | true=>
    have HQ:Hid (Y=false):=HBAD.out (by rw[HBV.out];rfl)
    go_wp2_with fail
    go_ret
    exact⟨jam HQ.out.symm,kk⟩
   | false=>
   have HG2:Hid (∀j (hj:j<r.fSpans.length),j<k+1→badP r j r.fSpans[j]=false):=HGOOD.out (by rw[HBV.out];rfl)
   have h1:=HV1.out
   rw[Bool.or_eq_false_iff,Bool.or_eq_false_iff,decide_eq_false_iff_not,decide_eq_false_iff_not]at h1
   obtain⟨h1,h2,-⟩:=h1
   obtain⟨gn,hgn⟩:∃gn:Nat,x.fGroup=(gn:Int):=⟨x.fGroup.toNat,by omega⟩
   have hg9:gn<9:=by omega
   have hg9':(gn:Int)<9:=by omega
   have hg0:(0:Int)≤(gn:Int):=by omega
   have hset:=HSET.out gn hg9 hgn
   have e0:=rowE.cell 0
   (try simp only[List.getElem?_cons_zero]at e0)
   rw[hgn]at e0
   have z:wc.cell? ⟨bs+1,gn,none⟩=some (.bool (jeh r k (gn:Int))):=by rw[rowA.cell,jft r k gn hg9]
   have z2:=rowA.frozen gn
   have kS:Keep (·=bs+1) wc (wc.setCell ⟨bs+1,gn,none⟩ (.bool true)):=(Keep.refl (·=bs+1) wc).setCell (p:=⟨bs+1,gn,none⟩) (fun _=>rfl) _
   have rowA2:RowIs (wc.setCell ⟨bs+1,gn,none⟩ (.bool true)) (bs+1) 157 (jdO r (k+1)):=by rw[←hset];exact rowA.set gn _
   have row02:=row0.keep kS (by omega)
   have hsw:=kk.size
   have kk2:=kk.then kS (fun i hi e=>by omega)
   clear row0 rowA rowE kk kS hset hgn h1 h2 HV1 HV2 HBV HGOOD HBAD HSET HB hF hS2
   go_wp2_with fail
   go_roundw
   case rel=>exact⟨k+1,by omega,by go_num,HG2.out,row02,rowA2,kk2⟩
   case measure=>simp[intOf];omega
  ·obtain rfl:k=r.fSpans.length:=by omega
   have HT:Hid (Y=jex r):=by show _=_;rw[←HY.out];exact jiD HH.out (fun j hj=>HG.out j hj hj)
   have hlC:LB wr p aC cC r.fCut:=HC.out.keep kk
   have hRr:=rGRoutes_lawful.nix HR.out kk
   have ldR:=Whole.run (P:=Tryz.prog) S_Routes rfl row0
   have y3:=row0.cell 3
   (try simp only[List.getElem?_cons_succ]at y3);(try simp only[List.getElem?_cons_zero]at y3)
   have y4:=row0.cell 4
   (try simp only[List.getElem?_cons_succ]at y4);(try simp only[List.getElem?_cons_zero]at y4)
   clear rowA HG
   by_cases hm:r.fMoving=0
   ·have hm1:(r.fMoving == 0)=true:=by simpa using hm
    have HT2:Hid (Y=r.fCut.isEmpty):=by show _=_;rw[HT.out,jex,if_pos hm]
    clear hm hlC HT hRr ldR
    by_cases hc:r.fCut=[]
    ·have hn:=len0 hc
     have HQ:Hid (Y=true):=by show _=_;rw[HT2.out,hc];rfl
     clear hc HT2
     go_wp2_with fail
     go_ret
     exact⟨jam HQ.out.symm,kk⟩
    ·have hn:=len1 hc
     have HQ:Hid (Y=false):=by show _=_;rw[HT2.out];simpa using hc
     clear hc HT2
     go_wp2_with fail
     go_ret
     exact⟨jam HQ.out.symm,kk⟩
   ·have hm1:(r.fMoving == 0)=false:=by simpa using hm
    obtain⟨bv,hbv⟩:∃b,jdm r.fSpans r.fMoving r.fCut=b:=⟨_,rfl⟩
    have HT2:Hid (Y=(bv && decide (r.fCut.length≤600))):=by show _=_;rw[HT.out,jex,if_neg hm,hbv]
    have hcall:=jj1 r [.int .i64 r.fEpoch,.int .i64 r.fBase,.slice aS r.fSpans.length cS,.int .i64 r.fMoving,.slice aC r.fCut.length cC] r.fMoving aC cC r.fCut wr hRr hlC
    rw[hbv]at hcall
    clear hm hlC HT hRr hbv
    cases bv with
    | false=>
     have HQ:Hid (Y=false):=HT2.out
     clear HT2
     go_wp2_with fail
     go_fit hcall
     clear hcall
     rintro e w3 ⟨rfl,k3⟩
     go_wp2_with fail
     go_ret
     exact⟨jam HQ.out.symm,kk.trans k3⟩
    | true=>
     go_wp2_with fail
     go_fit hcall
     clear hcall ldR y3
     rintro e w3 ⟨rfl,k3⟩
     clear y4
     replace row0:=row0.keep k3 id
     have y4:=row0.cell 4
     (try simp only[List.getElem?_cons_succ]at y4);(try simp only[List.getElem?_cons_zero]at y4)
     go_wp2_with fail
     go_ret
     exact⟨jam (by rw[HT2.out];simp;omega),kk.trans k3⟩
end
end Go.Proofs.YtibaehlfpgipfaaGreat
