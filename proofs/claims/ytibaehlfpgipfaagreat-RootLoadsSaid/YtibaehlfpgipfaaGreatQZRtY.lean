/- ROUTE: what was cut is moved: Moved. Printed by genRtY.py and mac.py. -/
import Derived.Test.YtibaehlfpgipfaaGreatQZG17
namespace Go.Proofs.YtibaehlfpgipfaaGreat
open Go.RowKit
set_option maxRecDepth 100000
set_option maxHeartbeats 16000000
set_option linter.unusedSimpArgs false
section
variable {α : Type} {R : RD α} {sz : Nat} {w : World} {p : Nat → Prop} {css : List (List Value)} {xs : List α}
theorem Els.lensR(h:Els R w p css xs)(L:Lawful R sz):∀c∈css,c.length=sz:=by
 intro c hc
 obtain⟨i,hi,rfl⟩:=List.mem_iff_getElem.1 hc
 have hx:i<xs.length:=by rw[←h.1];exact hi
 exact L.len (h.2 i _ _ (List.getElem?_eq_getElem hi) (List.getElem?_eq_getElem hx))
theorem Els.ins(h:Els R w p css xs){c:List Value}{x:α}(hc:R w p c x)(j:Nat):Els R w p (css.take j ++ c :: css.drop j) (xs.take j ++ x :: xs.drop j):=by
 have hl:=h.1
 refine⟨by simp[hl],fun i d y hd hy=>?_⟩
 have e1:(css.take j).length=(xs.take j).length:=by rw[List.length_take,List.length_take,hl]
 by_cases h1:i<(css.take j).length
 ·rw[List.getElem?_append_left h1]at hd
  rw[List.getElem?_append_left (by rw[←e1];exact h1)]at hy
  rw[List.length_take]at h1
  rw[List.getElem?_take_of_lt (by omega)]at hd hy
  exact h.2 i d y hd hy
 ·rw[List.getElem?_append_right (by omega)]at hd
  rw[List.getElem?_append_right (by rw[←e1];omega),←e1]at hy
  cases hq:i - (css.take j).length with
  | zero=>
   rw[hq]at hd hy
   simp only[List.getElem?_cons_zero,Option.some.injEq]at hd hy
   subst hd hy
   exact hc
  | succ q=>
   rw[hq]at hd hy
   simp only[List.getElem?_cons_succ,List.getElem?_drop]at hd hy
   exact h.2 (j+q) d y hd hy
end
theorem jeU{w cur:World}(k:Keep Nix w cur)(cs:Array Value)(T:TypeId):RowIs (cur.alloc (.cells cs T)) cur.heap.size T cs.toList∧Keep Nix w (cur.alloc (.cells cs T))∧w.heap.size≤cur.heap.size∧cur.heap.size≤(cur.alloc (.cells cs T)).heap.size:=
 ⟨RowIs.alloc cur cs T,k.alloc _,k.size,by simp⟩
def insG(l:List GOwner)(j:Nat)(o:GOwner):List GOwner:=l.take j ++ o :: l.drop j
def jea(r:GRoutes)(g:Int):GRoutes:=⟨r.fEpoch,r.fBase,insG r.fSpans (jb2 r.fMoving r.fSpans+1).toNat ⟨g,r.fCut⟩,r.fMoving,r.fCut⟩
def jbS(r:GRoutes)(g:Int):GRoutes×Int:=
 if r.fMoving=0 then(r,7) else if 0≤jb2 g r.fSpans∨g≤r.fBase∨r.fBase+4<g then(r,1) else(jcH (jea r g),0)
theorem ji3:∀ {css:List (List Value)} (_:∀c∈css,c.length=2) (j:Nat),css.flatten.take (j*2)=(css.take j).flatten
 | [],_,j=>by simp
 | c :: css,h,0=>by simp
 | c :: css,h,j+1=>by
  have hc:=h c (by simp)
  rw[List.take_succ_cons,List.flatten_cons,List.flatten_cons,List.take_append,←ji3 (fun d hd=>h d (by simp[hd])) j,hc,List.take_of_length_le (by omega)]
  congr 2
  omega
theorem ji2:∀ {css:List (List Value)} (_:∀c∈css,c.length=2) (j:Nat),css.flatten.drop (j*2)=(css.drop j).flatten
 | [],_,j=>by simp
 | c :: css,h,0=>by simp
 | c :: css,h,j+1=>by
  have hc:=h c (by simp)
  rw[List.drop_succ_cons,List.flatten_cons,List.drop_append,←ji2 (fun d hd=>h d (by simp[hd])) j,hc,List.drop_eq_nil_of_le (by omega),List.nil_append]
  congr 1
  omega
theorem jnU{w:World}{p:Nat→Prop}{css:List (List Value)}{xs:List GOwner}(h:Els jbv w p css xs):∀u∈css.flatten,u.oneCell'=true:=by
 intro u hu
 rw[List.mem_flatten]at hu
 obtain⟨c,hc,hu⟩:=hu
 obtain⟨i,hi,rfl⟩:=List.mem_iff_getElem.1 hc
 obtain⟨aF,cF,e,-⟩:=jca (h.2 i _ _ (List.getElem?_eq_getElem hi) (List.getElem?_eq_getElem (by rw[←h.1];exact hi)))
 rw[e]at hu
 simp only[List.mem_cons,List.not_mem_nil,or_false]at hu
 rcases hu with rfl | rfl <;> rfl
theorem jnE(w:World)(base n c k b1:Nat)(kI:Int)(a:Option Addr)(xs xc:List Value)(own:w.ownsRow base 97 2 (.slice a n c) n xs)(h0:0<n)(ho:∀u∈xs,u.oneCell'=true)(rowX:RowIs w b1 97 xc)(hxc:xc.length=2)(h1:∀u∈xc,u.oneCell'=true)(hbg:¬OwnB (.slice a n c) b1)(hn:n≤30)(hk:k≤n)(hb:base≤w.heap.size)(hI:kI=(k:Int)) :
  Calls Tryz.prog 114 #[.slice a n c,.int .i64 kI,.slice (some ⟨b1,0,none⟩) 1 1] w fun e w'=>∃a' c',e=.returned (.slice a' (n+1) c')∧Lies w' (fun b=>OwnB (.slice a n c) b∨w.heap.size≤b) a' (xs.take (k*2) ++ xc ++ xs.drop (k*2))∧n+1≤c'∧Keep (OwnB (.slice a n c)) w w':=by
 subst hI
 exact jnD w base n c k b1 a xs xc own h0 ho rowX hxc h1 hbg hn hk hb
section
attribute [local go_sem ↓] jbC
theorem joY{p:Nat→Prop}(r:GRoutes)(csr:List Value)(g:Int)(w:World)(hr:jaz w p csr r)(hn4:r.fSpans.length≤28)(hg:jae g)(hb:1≤r.fBase∧r.fBase≤4)(hpm:r.fMoving≠0→∃k:Nat,jb2 r.fMoving r.fSpans=(k:Int)∧k<r.fSpans.length) :
  Calls Tryz.prog 70 #[.agg csr.toArray,.int .i64 g] w (RetRX w (jbS r g)):=by
 have HR:=Lib.hid hr
 have hlr:=rGRoutes_lawful.len hr
 obtain⟨aS,cS,aC,cC,hcsr,hE,hB,hS,hM,hC,-⟩:=jav hr
 obtain⟨Y,HY⟩:∃y,Hid (jbS r g=y):=⟨_,rfl⟩
 rw[HY.out]
 have k1:=fun(w:World) (o:Obj)=>(Keep.refl Nix w).alloc o
 have kk:Keep Nix w ((w.alloc (.cells csr.toArray 53)).alloc (.cells #[.int .i64 0,.int .i64 0,.slice none 0 0,.int .i64 0,.slice none 0 0] 53)):=(k1 _ _).trans (k1 _ _)
 have row0:RowIs ((w.alloc (.cells csr.toArray 53)).alloc (.cells #[.int .i64 0,.int .i64 0,.slice none 0 0,.int .i64 0,.slice none 0 0] 53)) w.heap.size 53 csr:=(RowIs.alloc w _ _).keep (k1 _ _) id
 have rowR:RowIs ((w.alloc (.cells csr.toArray 53)).alloc (.cells #[.int .i64 0,.int .i64 0,.slice none 0 0,.int .i64 0,.slice none 0 0] 53)) (w.heap.size+1) 53 [.int .i64 0,.int .i64 0,.slice none 0 0,.int .i64 0,.slice none 0 0]:=by
  have h:=RowIs.alloc (w.alloc (.cells csr.toArray 53)) #[.int .i64 0,.int .i64 0,.slice none 0 0,.int .i64 0,.slice none 0 0] 53
  simpa using h
 have hinfo:(Tryz.prog.info? 53).map (·.size)=some 5:=by kernel_rfl
 have HI:=Lib.hid (And.intro hE (And.intro hB hM))
 have HGI:=Lib.hid hg
 have HCS:=Lib.hid hcsr
 have HPK:=Lib.hid hpm
 obtain⟨hb1,hb4⟩:=hb
 clear hr k1 hE hM hC hB hS hg hcsr hpm
 go_enter Tryz.func70,Tryz.ntmps70
 go_upto_region 1 with fail
 generalize ((w.alloc (.cells csr.toArray 53)).alloc (.cells #[.int .i64 0,.int .i64 0,.slice none 0 0,.int .i64 0,.slice none 0 0] 53))=w1 at *
 generalize hbs:w.heap.size=bs at *
 have hs1:bs+1+1≤w1.heap.size:=rowR.lt
 have ldR:=Whole.run (P:=Tryz.prog) S_Routes hlr row0
 go_wp2_with fail
 go_fit (jfx r csr w1 (rGRoutes_lawful.nix HR.out kk) (by omega))
 rintro e w2 ⟨cs8,rfl,own8,k2⟩
 have GR:=own8.routesV HI.out.1 HI.out.2.1 HI.out.2.2 (by omega)
 obtain⟨a8,c8,aD,cD,css,rfl,own,els,LC⟩:=own8
 have k3:Keep Nix w2 (w2.alloc (.cells #[.int .i64 r.fEpoch,.int .i64 r.fBase,.slice a8 r.fSpans.length c8,.int .i64 r.fMoving,.slice aD r.fCut.length cD] 53)):=(Keep.refl Nix w2).alloc _
 have row8:RowIs (w2.alloc (.cells #[.int .i64 r.fEpoch,.int .i64 r.fBase,.slice a8 r.fSpans.length c8,.int .i64 r.fMoving,.slice aD r.fCut.length cD] 53)) w2.heap.size 53 [.int .i64 r.fEpoch,.int .i64 r.fBase,.slice a8 r.fSpans.length c8,.int .i64 r.fMoving,.slice aD r.fCut.length cD]:=RowIs.alloc w2 _ _
 have hb8o:¬OwnB (.slice a8 r.fSpans.length c8) w2.heap.size:=fun h=>Nat.lt_irrefl _ (own.lt _ h).2
 have hbso:¬OwnB (.slice a8 r.fSpans.length c8) bs:=fun h=>by have:=(own.lt _ h).1;omega
 have hbro:¬OwnB (.slice a8 r.fSpans.length c8) (bs+1):=fun h=>by have:=(own.lt _ h).1;omega
 replace row0:=(row0.keep k2 id).keep k3 id
 replace rowR:=(rowR.keep k2 id).keep k3 id
 replace GR:=rGRoutes_lawful.nix GR k3
 replace own:=jad own k3 (fun _ _ h=>h)
 replace els:=els.keep rGOwner_lawful k3 (fun _ _ h=>h)
 replace LC:=LB.keep LC k3
 have hs2:=k2.size
 replace kk:=(kk.trans k2).trans k3
 clear ldR k2 k3
 go_upto_block 0 with fail
 generalize w2.alloc (.cells #[.int .i64 r.fEpoch,.int .i64 r.fBase,.slice a8 r.fSpans.length c8,.int .i64 r.fMoving,.slice aD r.fCut.length cD] 53)=w3 at *
 generalize hb8:w2.heap.size=b8 at *
 have hb81:bs+1<b8:=by omega
 by_cases hm:r.fMoving=0
 ·have hm1:(r.fMoving == 0)=true:=by simpa using hm
  have HQ:Hid (Y=(r,7)):=by show _=_;rw[←HY.out,jbS,if_pos hm]
  have y3:w3.cell? ⟨bs,3,none⟩=some (.int .i64 r.fMoving):=by rw[row0.cell,HCS.out];rfl
  clear hm
  have ld8:=Whole.run (P:=Tryz.prog) S_Routes rfl row8
  have z0:=rowR.cell 0
  (try simp only[List.getElem?_cons_zero]at z0)
  have z1:=rowR.cell 1
  (try simp only[List.getElem?_cons_succ]at z1);(try simp only[List.getElem?_cons_zero]at z1)
  have z2:=rowR.cell 2
  (try simp only[List.getElem?_cons_succ]at z2);(try simp only[List.getElem?_cons_zero]at z2)
  have z3:=rowR.cell 3
  (try simp only[List.getElem?_cons_succ]at z3);(try simp only[List.getElem?_cons_zero]at z3)
  have z4:=rowR.cell 4
  (try simp only[List.getElem?_cons_succ]at z4);(try simp only[List.getElem?_cons_zero]at z4)
  have g0:=rowR.frozen 0
  have g1:=rowR.frozen 1
  have g2:=rowR.frozen 2
  have g3:=rowR.frozen 3
  have g4:=rowR.frozen 4
  have hr8:=row8.lt
  have kS:=(((((Keep.refl (·=bs+1) w3).setCell (p:=⟨bs+1,0,none⟩) (fun _=>rfl) (.int .i64 r.fEpoch)).setCell (p:=⟨bs+1,1,none⟩) (fun _=>rfl) (.int .i64 r.fBase)).setCell (p:=⟨bs+1,2,none⟩) (fun _=>rfl) (.slice a8 r.fSpans.length c8)).setCell (p:=⟨bs+1,3,none⟩) (fun _=>rfl) (.int .i64 r.fMoving)).setCell (p:=⟨bs+1,4,none⟩) (fun _=>rfl) (.slice aD r.fCut.length cD)
  have rowF:=((((rowR.set 0 (.int .i64 r.fEpoch)).set 1 (.int .i64 r.fBase)).set 2 (.slice a8 r.fSpans.length c8)).set 3 (.int .i64 r.fMoving)).set 4 (.slice aD r.fCut.length cD)
  have k5:=kk.then kS (fun i hi e=>by omega)
  have GF:=rGRoutes_lawful.mono (rGRoutes_lawful.keep GR kS (fun b hb e=>by have:=hb.1;omega)) (q:=fun b=>w.heap.size≤b) (fun b hb=>by have:=hb.1;omega)
  clear row0 rowR row8 GR kS kk own els LC
  go_wp2_with fail
  refine bodyPost_ret (jag (by rfl) _ _ _ _ _ _ _ (by rfl) rowF Tryz.underlying53 (by rfl) hinfo) rfl ?_
  rw[HQ.out]
  exact⟨_,rfl,GF,k5⟩
 have hm1:(r.fMoving == 0)=false:=by simpa using hm
 obtain⟨kp,hkp,hkl⟩:=HPK.out hm
 have HPM:=Lib.hid hkp
 have HM:=Lib.hid hm
 clear hm hkp HPK
 obtain⟨pl,hpl⟩:∃y,jb2 g r.fSpans=y:=⟨_,rfl⟩
 have HPL:=Lib.hid hpl
 have hcall:=jdo r csr g w3 (rGRoutes_lawful.nix HR.out kk)
 rw[hpl]at hcall
 clear hpl
 have y3:w3.cell? ⟨bs,3,none⟩=some (.int .i64 r.fMoving):=by rw[row0.cell,HCS.out];rfl
 have ldR:=Whole.run (P:=Tryz.prog) S_Routes hlr row0
 go_wp2_with fail
 go_fit hcall
 clear hcall
 rintro e w4 ⟨rfl,k4⟩
 clear ldR y3
 replace row0:=row0.keep k4 id
 replace rowR:=rowR.keep k4 id
 replace row8:=row8.keep k4 id
 replace GR:=rGRoutes_lawful.nix GR k4
 replace own:=jad own k4 (fun _ _ h=>h)
 replace els:=els.keep rGOwner_lawful k4 (fun _ _ h=>h)
 replace LC:=LB.keep LC k4
 replace kk:=kk.trans k4
 clear k4
 have y1:w4.cell? ⟨bs,1,none⟩=some (.int .i64 r.fBase):=by rw[row0.cell,HCS.out];rfl
 have hw4:IntKind.i64.wrap (r.fBase+4)=r.fBase+4:=by unfold IntKind.wrap;simp[IntKind.bits,IntKind.signed];omega
 rcases Int.lt_or_le pl 0 with hp | hp
 rotate_left
 focus
  have HQ:Hid (Y=(r,1)):=by show _=_;rw[←HY.out,jbS,if_neg HM.out,HPL.out,if_pos (.inl hp)]
  refine ?h1a
 rotate_left
 focus
  rcases Int.lt_or_le r.fBase g with h2 | h2
  rotate_left
  focus
   have HQ:Hid (Y=(r,1)):=by show _=_;rw[←HY.out,jbS,if_neg HM.out,HPL.out,if_pos (.inr (.inl h2))]
   refine ?h1b
  rotate_left
  focus
   rcases Int.lt_or_le (r.fBase+4) g with h3 | h3
   focus
    have HQ:Hid (Y=(r,1)):=by show _=_;rw[←HY.out,jbS,if_neg HM.out,HPL.out,if_pos (.inr (.inr h3))]
    refine ?h1c
   rotate_left
   ·have HQ:Hid (Y=(jcH (jea r g),0)):=by show _=_;rw[←HY.out,jbS,if_neg HM.out,HPL.out,if_neg (by omega)]
    go_upto_region 6 with fail
    clear y1 hw4
    generalize w4=wN at *
    go_cut [] from 7 to 48 (fun wx=>∃aN cN,RowIs wx b8 53 [.int .i64 r.fEpoch,.int .i64 r.fBase,.slice aN (r.fSpans.length+1) cN,.int .i64 r.fMoving,.slice aD r.fCut.length cD]∧RowIs wx (bs+1) 53 [.int .i64 0,.int .i64 0,.slice none 0 0,.int .i64 0,.slice none 0 0]∧jaz wx (fun b=>w1.heap.size≤b∧b≠b8) [.int .i64 r.fEpoch,.int .i64 r.fBase,.slice aN (r.fSpans.length+1) cN,.int .i64 r.fMoving,.slice aD r.fCut.length cD] (jea r g)∧Keep Nix w wx)
    case first=>
     have hRc:∀w',Keep Nix wN w'→jaz w' p csr r:=fun w' k'=>rGRoutes_lawful.nix HR.out (kk.trans k')
     have HRc:=Lib.hid hRc
     have hO:∀w',Keep (OwnB (.slice a8 r.fSpans.length c8)) wN w'→(fun w'=>(ja1 53 (.pointer (some ⟨bs,0,none⟩))).run Tryz.prog w'=.ok (.value (.agg csr.toArray)) w'∧w'.cell? ⟨bs,3,none⟩=some (.int .i64 r.fMoving)∧w'.cell? ⟨b8,4,none⟩=some (.slice aD r.fCut.length cD)) w':=fun w' k'=>⟨Whole.run S_Routes hlr (row0.keep k' hbso),((row0.keep k' hbso).cell 3).trans (by rw[HCS.out];rfl),(row8.keep k' hb8o).cell 4⟩
     have HO:=Lib.hid hO
     have HB8:Hid (b8<wN.heap.size):=row8.lt
     have hn0:0<r.fSpans.length:=by omega
     have hwk:IntKind.i64.wrap ((kp:Int)+1)=(kp:Int)+1:=by unfold IntKind.wrap;simp[IntKind.bits,IntKind.signed];omega
     have kd:Keep Nix wN wN.drew:=(Keep.refl Nix wN).drew
     clear hRc hO HR HQ HY HPL
     refine wp_region_held_drew (S:=(fun w'=>(ja1 53 (.pointer (some ⟨bs,0,none⟩))).run Tryz.prog w'=.ok (.value (.agg csr.toArray)) w'∧w'.cell? ⟨bs,3,none⟩=some (.int .i64 r.fMoving)∧w'.cell? ⟨b8,4,none⟩=some (.slice aD r.fCut.length cD))) (by kernel_rfl) ((HO.out _ kd.nix)) (fun jaa=>?_)
     generalize wN.drew=wd at *
     refine tk 0 rfl jaa ?_
     refine tk 2 rfl jaa ?_
     refine tk 3 rfl jaa ?_
     refine tk 4 rfl jaa ?_
     refine tk 7 rfl jaa ?_
     refine tk 8 rfl jaa ?_
     refine tk 9 rfl jaa ?_
     refine tk 10 rfl jaa ?_
     refine wpAnyH_ready (rs:=[1,5,11]) (by kernel_rfl) (by simp) ?_
     refine AllReadyH.cons rfl (fun K hK=>?_) (AllReadyH.cons rfl (fun K hK=>?_) (AllReadyH.cons rfl (fun K hK=>?_) AllReadyH.nil))
     focus
      have y62:=(row8.keep kd id).cell 2
      (try simp only[List.getElem?_cons_succ]at y62)
      (try simp only[List.getElem?_cons_zero]at y62)
      go_simp
      clear y62
      refine hK.out _ _ ((HO.out _ kd.nix)) (fun jaa=>?_)
      clear hK K
      try simp only[Act.put,zz1,zz2,zz3,zz4,zz5,zz6]
      refine wpAnyH_ready (rs:=[5,11]) (by kernel_rfl) (by simp) ?_
      refine AllReadyH.cons rfl (fun K hK=>?_) (AllReadyH.cons rfl (fun K hK=>?_) AllReadyH.nil)
      focus
       go_simp
       go_fit (jdo r csr r.fMoving _ (HRc.out _ kd))
       rw[HPM.out]
       rintro e w5 ⟨rfl,k5⟩
       (try replace rowM:=rowM.keep k5 id)
       replace kd:=kd.trans k5
       clear k5
       go_wp2_with fail
       refine hK.out _ _ ((HO.out _ kd.nix)) (fun jaa=>?_)
       clear hK K
       try simp only[Act.put,zz1,zz2,zz3,zz4,zz5,zz6]
       refine tk 6 rfl jaa ?_
       refine wpAnyH_ready (rs:=[11]) (by kernel_rfl) (by simp) ?_
       refine AllReadyH.cons rfl (fun K hK=>?_) AllReadyH.nil
       go_simp
       obtain⟨rowM,kA,hgm,-⟩:=jeU kd #[.int .i64 g,.slice aD r.fCut.length cD] 97
       have HGM:=Lib.hid hgm
       replace kd:=kA
       clear kA hgm
       refine hK.out _ _ ((HO.out _ kd.nix)) (fun jaa=>?_)
       clear hK K
       try simp only[Act.put,zz1,zz2,zz3,zz4,zz5,zz6]
       first
        | generalize w5.alloc (.cells #[.int .i64 g,.slice aD r.fCut.length cD] 97)=wA at *
        | generalize wd.alloc (.cells #[.int .i64 g,.slice aD r.fCut.length cD] 97)=wA at *
       refine ?h2a
      rotate_left
      focus
       go_simp
       obtain⟨rowM,kA,hgm,-⟩:=jeU kd #[.int .i64 g,.slice aD r.fCut.length cD] 97
       have HGM:=Lib.hid hgm
       replace kd:=kA
       clear kA hgm
       refine hK.out _ _ ((HO.out _ kd.nix)) (fun jaa=>?_)
       clear hK K
       try simp only[Act.put,zz1,zz2,zz3,zz4,zz5,zz6]
       first
        | generalize w5.alloc (.cells #[.int .i64 g,.slice aD r.fCut.length cD] 97)=wA at *
        | generalize wd.alloc (.cells #[.int .i64 g,.slice aD r.fCut.length cD] 97)=wA at *
       refine wpAnyH_ready (rs:=[5]) (by kernel_rfl) (by simp) ?_
       refine AllReadyH.cons rfl (fun K hK=>?_) AllReadyH.nil
       go_simp
       go_fit (jdo r csr r.fMoving _ (HRc.out _ kd))
       rw[HPM.out]
       rintro e w5 ⟨rfl,k5⟩
       (try replace rowM:=rowM.keep k5 id)
       replace kd:=kd.trans k5
       clear k5
       go_wp2_with fail
       refine hK.out _ _ ((HO.out _ kd.nix)) (fun jaa=>?_)
       clear hK K
       try simp only[Act.put,zz1,zz2,zz3,zz4,zz5,zz6]
       refine tk 6 rfl jaa ?_
       refine ?h2b
      rotate_left
     rotate_left 2
     focus
      go_simp
      go_fit (jdo r csr r.fMoving _ (HRc.out _ kd))
      rw[HPM.out]
      rintro e w5 ⟨rfl,k5⟩
      (try replace rowM:=rowM.keep k5 id)
      replace kd:=kd.trans k5
      clear k5
      go_wp2_with fail
      refine hK.out _ _ ((HO.out _ kd.nix)) (fun jaa=>?_)
      clear hK K
      try simp only[Act.put,zz1,zz2,zz3,zz4,zz5,zz6]
      refine tk 6 rfl jaa ?_
      refine wpAnyH_ready (rs:=[1,11]) (by kernel_rfl) (by simp) ?_
      refine AllReadyH.cons rfl (fun K hK=>?_) (AllReadyH.cons rfl (fun K hK=>?_) AllReadyH.nil)
      focus
       have y62:=(row8.keep kd id).cell 2
       (try simp only[List.getElem?_cons_succ]at y62)
       (try simp only[List.getElem?_cons_zero]at y62)
       go_simp
       clear y62
       refine hK.out _ _ ((HO.out _ kd.nix)) (fun jaa=>?_)
       clear hK K
       try simp only[Act.put,zz1,zz2,zz3,zz4,zz5,zz6]
       refine wpAnyH_ready (rs:=[11]) (by kernel_rfl) (by simp) ?_
       refine AllReadyH.cons rfl (fun K hK=>?_) AllReadyH.nil
       go_simp
       obtain⟨rowM,kA,hgm,-⟩:=jeU kd #[.int .i64 g,.slice aD r.fCut.length cD] 97
       have HGM:=Lib.hid hgm
       replace kd:=kA
       clear kA hgm
       refine hK.out _ _ ((HO.out _ kd.nix)) (fun jaa=>?_)
       clear hK K
       try simp only[Act.put,zz1,zz2,zz3,zz4,zz5,zz6]
       first
        | generalize w5.alloc (.cells #[.int .i64 g,.slice aD r.fCut.length cD] 97)=wA at *
        | generalize wd.alloc (.cells #[.int .i64 g,.slice aD r.fCut.length cD] 97)=wA at *
       refine ?h2c
      rotate_left
      focus
       go_simp
       obtain⟨rowM,kA,hgm,-⟩:=jeU kd #[.int .i64 g,.slice aD r.fCut.length cD] 97
       have HGM:=Lib.hid hgm
       replace kd:=kA
       clear kA hgm
       refine hK.out _ _ ((HO.out _ kd.nix)) (fun jaa=>?_)
       clear hK K
       try simp only[Act.put,zz1,zz2,zz3,zz4,zz5,zz6]
       first
        | generalize w5.alloc (.cells #[.int .i64 g,.slice aD r.fCut.length cD] 97)=wA at *
        | generalize wd.alloc (.cells #[.int .i64 g,.slice aD r.fCut.length cD] 97)=wA at *
       refine wpAnyH_ready (rs:=[1]) (by kernel_rfl) (by simp) ?_
       refine AllReadyH.cons rfl (fun K hK=>?_) AllReadyH.nil
       have y62:=(row8.keep kd id).cell 2
       (try simp only[List.getElem?_cons_succ]at y62)
       (try simp only[List.getElem?_cons_zero]at y62)
       go_simp
       clear y62
       refine hK.out _ _ ((HO.out _ kd.nix)) (fun jaa=>?_)
       clear hK K
       try simp only[Act.put,zz1,zz2,zz3,zz4,zz5,zz6]
       refine ?h2d
      rotate_left
     rotate_left 2
     focus
      go_simp
      obtain⟨rowM,kA,hgm,-⟩:=jeU kd #[.int .i64 g,.slice aD r.fCut.length cD] 97
      have HGM:=Lib.hid hgm
      replace kd:=kA
      clear kA hgm
      refine hK.out _ _ ((HO.out _ kd.nix)) (fun jaa=>?_)
      clear hK K
      try simp only[Act.put,zz1,zz2,zz3,zz4,zz5,zz6]
      first
       | generalize w5.alloc (.cells #[.int .i64 g,.slice aD r.fCut.length cD] 97)=wA at *
       | generalize wd.alloc (.cells #[.int .i64 g,.slice aD r.fCut.length cD] 97)=wA at *
      refine wpAnyH_ready (rs:=[1,5]) (by kernel_rfl) (by simp) ?_
      refine AllReadyH.cons rfl (fun K hK=>?_) (AllReadyH.cons rfl (fun K hK=>?_) AllReadyH.nil)
      focus
       have y62:=(row8.keep kd id).cell 2
       (try simp only[List.getElem?_cons_succ]at y62)
       (try simp only[List.getElem?_cons_zero]at y62)
       go_simp
       clear y62
       refine hK.out _ _ ((HO.out _ kd.nix)) (fun jaa=>?_)
       clear hK K
       try simp only[Act.put,zz1,zz2,zz3,zz4,zz5,zz6]
       refine wpAnyH_ready (rs:=[5]) (by kernel_rfl) (by simp) ?_
       refine AllReadyH.cons rfl (fun K hK=>?_) AllReadyH.nil
       go_simp
       go_fit (jdo r csr r.fMoving _ (HRc.out _ kd))
       rw[HPM.out]
       rintro e w5 ⟨rfl,k5⟩
       (try replace rowM:=rowM.keep k5 id)
       replace kd:=kd.trans k5
       clear k5
       go_wp2_with fail
       refine hK.out _ _ ((HO.out _ kd.nix)) (fun jaa=>?_)
       clear hK K
       try simp only[Act.put,zz1,zz2,zz3,zz4,zz5,zz6]
       refine tk 6 rfl jaa ?_
       refine ?h2e
      rotate_left
      focus
       go_simp
       go_fit (jdo r csr r.fMoving _ (HRc.out _ kd))
       rw[HPM.out]
       rintro e w5 ⟨rfl,k5⟩
       (try replace rowM:=rowM.keep k5 id)
       replace kd:=kd.trans k5
       clear k5
       go_wp2_with fail
       refine hK.out _ _ ((HO.out _ kd.nix)) (fun jaa=>?_)
       clear hK K
       try simp only[Act.put,zz1,zz2,zz3,zz4,zz5,zz6]
       refine tk 6 rfl jaa ?_
       refine wpAnyH_ready (rs:=[1]) (by kernel_rfl) (by simp) ?_
       refine AllReadyH.cons rfl (fun K hK=>?_) AllReadyH.nil
       have y62:=(row8.keep kd id).cell 2
       (try simp only[List.getElem?_cons_succ]at y62)
       (try simp only[List.getElem?_cons_zero]at y62)
       go_simp
       clear y62
       refine hK.out _ _ ((HO.out _ kd.nix)) (fun jaa=>?_)
       clear hK K
       try simp only[Act.put,zz1,zz2,zz3,zz4,zz5,zz6]
       refine ?h2f
      rotate_left
     rotate_left 2
     case h2a | h2b | h2c | h2d | h2e | h2f=>
      refine wpAnyH_ready (rs:=[12]) (by kernel_rfl) (by simp) ?_
      refine AllReadyH.cons rfl (fun K hK=>?_) AllReadyH.nil
      go_simp
      go_fit (jnE _ w1.heap.size r.fSpans.length c8 (kp+1) _ _ a8 css.flatten [.int .i64 g,.slice aD r.fCut.length cD] (jad own kd (fun _ _ h=>h)) hn0 (jnU els) rowM rfl (fun u hu=>List.all_eq_true.1 (show([.int .i64 g,.slice aD r.fCut.length cD]:List Value).all Value.oneCell'=true from rfl) u hu) (fun h=>by have:=(own.lt _ h).2;have:=HGM.out;omega) (by omega) (by omega) (by have:=kd.size;have:=HB8.out;omega) (by omega))
      rintro e w6 ⟨aN,cN,rfl,LN,hcN,k6⟩
      have k6:Keep (OwnB (.slice a8 r.fSpans.length c8)) _ w6:=k6
      have kW:Keep (OwnB (.slice a8 r.fSpans.length c8)) wN w6:=kd.nix.trans k6
      go_wp2_with fail
      refine hK.out _ _ ((HO.out _ kW)) (fun jaa=>?_)
      clear hK K
      try simp only[Act.put,zz1,zz2,zz3,zz4,zz5,zz6]
      refine tk 13 rfl jaa ?_
      refine wpAnyH_ready (rs:=[14]) (by kernel_rfl) (by simp) ?_
      refine AllReadyH.cons rfl (fun K hK=>?_) AllReadyH.nil
      have row86:=row8.keep kW hb8o
      have f2:=row86.frozen 2
      have y2:=row86.cell 2
      (try simp only[List.getElem?_cons_succ]at y2)
      (try simp only[List.getElem?_cons_zero]at y2)
      go_simp
      clear f2 y2
      have kT:Keep (·=b8) w6 (w6.setCell ⟨b8,2,none⟩ (.slice aN (r.fSpans.length+1) cN)):=(Keep.refl (·=b8) w6).setCell (p:=⟨b8,2,none⟩) (fun _=>rfl) _
      have row87:RowIs (w6.setCell ⟨b8,2,none⟩ (.slice aN (r.fSpans.length+1) cN)) b8 53 [.int .i64 r.fEpoch,.int .i64 r.fBase,.slice aN (r.fSpans.length+1) cN,.int .i64 r.fMoving,.slice aD r.fCut.length cD]:=row86.set 2 _
      have row06:=(row0.keep kW hbso).keep kT (by omega)
      refine hK.out _ _ (⟨Whole.run S_Routes hlr row06,(row06.cell 3).trans (by rw[HCS.out];rfl),row87.cell 4⟩) (fun jaa=>?_)
      clear hK K
      try simp only[Act.put,zz1,zz2,zz3,zz4,zz5,zz6]
      refine wpAnyH_done (by kernel_rfl) ?_ _
      clear jaa
      have hk6:=k6.size
      have hkd:=kd.size
      have LN7:=(LN.keep kT (fun b hb e=>hb.elim (fun hb=>hb8o (by rw[←e];exact hb)) (fun hb=>by have:=HB8.out;omega))).mono (q:=fun b=>w1.heap.size≤b∧b≠b8) (fun b hb=>hb.elim (fun hb=>⟨(own.lt b hb).1,fun e=>hb8o (by rw[←e];exact hb)⟩) (fun hb=>by have:=HB8.out;exact⟨by omega,by omega⟩))
      have els7:=((els.keep rGOwner_lawful kW (fun b hb=>hb.2)).keep rGOwner_lawful kT (fun b hb e=>by have:=hb.1.2;omega)).mono (q:=fun b=>w1.heap.size≤b∧b≠b8) rGOwner_lawful (fun b hb=>⟨hb.1.1,by have:=hb.1.2;omega⟩)
      have LC7:=((LC.to (s':=fun b=>(w1.heap.size≤b∧b<b8)∧¬OwnB (.slice a8 r.fSpans.length c8) b) kW (fun b hb=>hb.2) (fun _ h=>h)).to (s':=fun b=>w1.heap.size≤b∧b≠b8) kT (fun b hb e=>by have:=hb.1.2;omega) (fun b hb=>⟨hb.1.1,by have:=hb.1.2;omega⟩))
      have rowR7:=(rowR.keep kW hbro).keep kT (by omega)
      have kk7:=(kk.then kW (fun i hi h=>by have:=(own.lt i h).1;omega)).then kT (fun i hi e=>by omega)
      have hX:jbv (w6.setCell ⟨b8,2,none⟩ (.slice aN (r.fSpans.length+1) cN)) (fun b=>w1.heap.size≤b∧b≠b8) [.int .i64 g,.slice aD r.fCut.length cD] ⟨g,r.fCut⟩:=jfJ (x:=⟨g,r.fCut⟩) _ _ HGI.out LC7
      have elsI:=els7.ins hX (kp+1)
      have hnn:(insG r.fSpans (kp+1) ⟨g,r.fCut⟩).length=r.fSpans.length+1:=by unfold insG;rw[List.length_append,List.length_take,List.length_cons,List.length_drop];omega
      have HNF:Hid (jea r g=⟨r.fEpoch,r.fBase,insG r.fSpans (kp+1) ⟨g,r.fCut⟩,r.fMoving,r.fCut⟩):=by show _=_;unfold jea;rw[HPM.out,show((kp:Int)+1).toNat=kp+1 by omega]
      have hlens:=els.lensR rGOwner_lawful
      have hL:jap jbv (w6.setCell ⟨b8,2,none⟩ (.slice aN (r.fSpans.length+1) cN)) (fun b=>w1.heap.size≤b∧b≠b8) [.slice aN (insG r.fSpans (kp+1) ⟨g,r.fCut⟩).length cN] (insG r.fSpans (kp+1) ⟨g,r.fCut⟩):=
       ⟨aN,cN,css.take (kp+1) ++ [.int .i64 g,.slice aD r.fCut.length cD] :: css.drop (kp+1),rfl,elsI.1,by rw[List.flatten_append,List.flatten_cons,←ji3 hlens,←ji2 hlens,←List.append_assoc];exact LN7,by rw[hnn];exact hcN,by rw[hnn];unfold far;omega,elsI.2⟩
      have GR7:=jc1 (x:=jea r g) (w6.setCell ⟨b8,2,none⟩ (.slice aN (r.fSpans.length+1) cN)) (fun b=>w1.heap.size≤b∧b≠b8) (aSpans:=aN) (cSpans:=cN) HI.out.1 HI.out.2.1 (by rw[HNF.out];exact hL) HI.out.2.2 LC7
      have GR8:jaz (w6.setCell ⟨b8,2,none⟩ (.slice aN (r.fSpans.length+1) cN)) (fun b=>w1.heap.size≤b∧b≠b8) [.int .i64 r.fEpoch,.int .i64 r.fBase,.slice aN (r.fSpans.length+1) cN,.int .i64 r.fMoving,.slice aD r.fCut.length cD] (jea r g):=by
       have e:((jea r g).fSpans).length=r.fSpans.length+1:=by rw[HNF.out];exact hnn
       rw[e]at GR7
       exact GR7
      clear GR7 hL hX elsI els7 LC7 LN7 LN k6 kW kT row86 row06 rowM kd
      go_wp2_with fail
      go_meet
      exact⟨aN,cN,row87,rowR7,GR8,kk7⟩
    case rest=>
    obtain⟨aN,cN,row87,rowR7,GR8,kk7⟩:=hcut
    have ld8:=Whole.run (P:=Tryz.prog) S_Routes rfl row87
    clear row0 rowR row8 GR kk own els LC
    go_wp2_with fail
    go_fit (jkT (jea r g) [.int .i64 r.fEpoch,.int .i64 r.fBase,.slice aN (r.fSpans.length+1) cN,.int .i64 r.fMoving,.slice aD r.fCut.length cD] wc GR8)
    rintro e w6 ⟨cs9,rfl,G9,k6⟩
    obtain⟨aX,cX,aY,cY,rfl,-⟩:=jav G9
    have rowR:=rowR7.keep k6 id
    have kk:=kk7.trans k6
    clear ld8 row87 rowR7 GR8 kk7 k6
    obtain⟨y,hy⟩:∃y,jcH (jea r g)=y:=⟨_,rfl⟩
    rw[hy]at G9 HQ
    rw[hy]
    clear hy
    have z0:=rowR.cell 0
    (try simp only[List.getElem?_cons_zero]at z0)
    have z1:=rowR.cell 1
    (try simp only[List.getElem?_cons_succ]at z1);(try simp only[List.getElem?_cons_zero]at z1)
    have z2:=rowR.cell 2
    (try simp only[List.getElem?_cons_succ]at z2);(try simp only[List.getElem?_cons_zero]at z2)
    have z3:=rowR.cell 3
    (try simp only[List.getElem?_cons_succ]at z3);(try simp only[List.getElem?_cons_zero]at z3)
    have z4:=rowR.cell 4
    (try simp only[List.getElem?_cons_succ]at z4);(try simp only[List.getElem?_cons_zero]at z4)
    have g0:=rowR.frozen 0
    have g1:=rowR.frozen 1
    have g2:=rowR.frozen 2
    have g3:=rowR.frozen 3
    have g4:=rowR.frozen 4
    have kS:=(((((Keep.refl (·=bs+1) w6).setCell (p:=⟨bs+1,0,none⟩) (fun _=>rfl) (.int .i64 y.fEpoch)).setCell (p:=⟨bs+1,1,none⟩) (fun _=>rfl) (.int .i64 y.fBase)).setCell (p:=⟨bs+1,2,none⟩) (fun _=>rfl) (.slice aX y.fSpans.length cX)).setCell (p:=⟨bs+1,3,none⟩) (fun _=>rfl) (.int .i64 y.fMoving)).setCell (p:=⟨bs+1,4,none⟩) (fun _=>rfl) (.slice aY y.fCut.length cY)
    have rowF:=((((rowR.set 0 (.int .i64 y.fEpoch)).set 1 (.int .i64 y.fBase)).set 2 (.slice aX y.fSpans.length cX)).set 3 (.int .i64 y.fMoving)).set 4 (.slice aY y.fCut.length cY)
    have k5:=kk.then kS (fun i hi e=>by omega)
    have GF:=rGRoutes_lawful.mono (rGRoutes_lawful.keep G9 kS (fun b hb e=>by have:=hb.1;omega)) (q:=fun b=>w.heap.size≤b) (fun b hb=>by have:=hb.1;omega)
    clear rowR G9 kS kk
    go_wp2_with fail
    refine bodyPost_ret (jag (by rfl) _ _ _ _ _ _ _ (by rfl) rowF Tryz.underlying53 (by rfl) hinfo) rfl ?_
    rw[HQ.out]
    exact⟨_,rfl,GF,k5⟩
  rotate_left
 rotate_left 2
 case h1a | h1b | h1c=>
  have ld8:=Whole.run (P:=Tryz.prog) S_Routes rfl row8
  have z0:=rowR.cell 0
  (try simp only[List.getElem?_cons_zero]at z0)
  have z1:=rowR.cell 1
  (try simp only[List.getElem?_cons_succ]at z1);(try simp only[List.getElem?_cons_zero]at z1)
  have z2:=rowR.cell 2
  (try simp only[List.getElem?_cons_succ]at z2);(try simp only[List.getElem?_cons_zero]at z2)
  have z3:=rowR.cell 3
  (try simp only[List.getElem?_cons_succ]at z3);(try simp only[List.getElem?_cons_zero]at z3)
  have z4:=rowR.cell 4
  (try simp only[List.getElem?_cons_succ]at z4);(try simp only[List.getElem?_cons_zero]at z4)
  have g0:=rowR.frozen 0
  have g1:=rowR.frozen 1
  have g2:=rowR.frozen 2
  have g3:=rowR.frozen 3
  have g4:=rowR.frozen 4
  have hr8:=row8.lt
  have kS:=(((((Keep.refl (·=bs+1) w4).setCell (p:=⟨bs+1,0,none⟩) (fun _=>rfl) (.int .i64 r.fEpoch)).setCell (p:=⟨bs+1,1,none⟩) (fun _=>rfl) (.int .i64 r.fBase)).setCell (p:=⟨bs+1,2,none⟩) (fun _=>rfl) (.slice a8 r.fSpans.length c8)).setCell (p:=⟨bs+1,3,none⟩) (fun _=>rfl) (.int .i64 r.fMoving)).setCell (p:=⟨bs+1,4,none⟩) (fun _=>rfl) (.slice aD r.fCut.length cD)
  have rowF:=((((rowR.set 0 (.int .i64 r.fEpoch)).set 1 (.int .i64 r.fBase)).set 2 (.slice a8 r.fSpans.length c8)).set 3 (.int .i64 r.fMoving)).set 4 (.slice aD r.fCut.length cD)
  have k5:=kk.then kS (fun i hi e=>by omega)
  have GF:=rGRoutes_lawful.mono (rGRoutes_lawful.keep GR kS (fun b hb e=>by have:=hb.1;omega)) (q:=fun b=>w.heap.size≤b) (fun b hb=>by have:=hb.1;omega)
  clear row0 rowR row8 GR kS kk own els LC
  go_wp2_with fail
  refine bodyPost_ret (jag (by rfl) _ _ _ _ _ _ _ (by rfl) rowF Tryz.underlying53 (by rfl) hinfo) rfl ?_
  rw[HQ.out]
  exact⟨_,rfl,GF,k5⟩
end
end Go.Proofs.YtibaehlfpgipfaaGreat
