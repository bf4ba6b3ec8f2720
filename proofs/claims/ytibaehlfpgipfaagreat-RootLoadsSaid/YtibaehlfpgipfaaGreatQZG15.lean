/- ROOT: Routes. Printed by mac.py. -/
import Derived.Test.YtibaehlfpgipfaaGreatQZG14
namespace Go.Proofs.YtibaehlfpgipfaaGreat
open Go.RowKit
set_option maxRecDepth 100000
set_option maxHeartbeats 4000000
set_option linter.unusedSimpArgs false
theorem OwnR.list{base:Nat}{w:World}{a:Option Addr}{c:Nat}{css:List (List Value)}{l:List GOwner}{p:Nat→Prop}(own:w.ownsRow base 97 2 (.slice a l.length c) l.length css.flatten)(els:Els jbv w p css l)(hp:∀b,OwnB (.slice a l.length c) b→p b)(hf:l.length≤far):jap jbv w p [.slice a l.length c] l:=
 ⟨a,c,css,rfl,els.1,fun hx=>by
  obtain⟨b,off,ha,h1,h2,h3⟩:=Lies.of_owned own hx
  exact⟨b,off,ha,hp b h1.2,h2,h3⟩,(jbu own).2.1,hf,els.2⟩
theorem OwnR.routes{base:Nat}{w:World}{cs:List Value}{r:GRoutes}(h:OwnR base w cs r)(hE:jae r.fEpoch)(hB:jae r.fBase)(hM:jae r.fMoving)(hf:r.fSpans.length≤30):jaz w (fun b=>base≤b∧b<w.heap.size) cs r:=by
 obtain⟨a,c,aC,cC,css,rfl,own,els,LC⟩:=h
 refine jc1 _ _ hE hB (OwnR.list own (els.mono rGOwner_lawful (fun b hb=>hb.1)) (fun b hb=>own.lt b hb) (by unfold far;omega)) hM (LC.mono (fun b hb=>hb.1))
theorem jfa(O:Nat→Prop)(g n:Nat)(R:RootS)(w:World)(H:IsRoot w O g n R) :
  Calls Tryz.prog 15 #[.pointer (some ⟨g,0,none⟩)] w (Ret jaz w R.routes):=by
 have hinfo:(Tryz.prog.info? 53).map (·.size)=some 5:=by kernel_rfl
 have kA:Keep Nix w (w.alloc (.cells #[.int .i64 0,.int .i64 0,.slice none 0 0,.int .i64 0,.slice none 0 0] 53)):=(Keep.refl Nix w).alloc _
 have rowZ:RowIs (w.alloc (.cells #[.int .i64 0,.int .i64 0,.slice none 0 0,.int .i64 0,.slice none 0 0] 53)) w.heap.size 53 [.int .i64 0,.int .i64 0,.slice none 0 0,.int .i64 0,.slice none 0 0]:=RowIs.alloc w _ _
 obtain⟨lt,og,ok,bM,aC,cC,aO,cO,aS,cS,aU,cU,cssC,D,B⟩:=H.nix kA
 have rowX:=B.row
 have hr:=B.rts
 have hsp:=ok.spans
 generalize R.routes=r at *
 obtain⟨_,_,_,_,-,h64E,h64B,-,h64M,-⟩:=jav hr
 have HO:=Lib.hid (jfx r [.int .i64 r.fEpoch,.int .i64 r.fBase,.slice aS r.fSpans.length cS,.int .i64 r.fMoving,.slice aU r.fCut.length cU] (w.alloc (.cells #[.int .i64 0,.int .i64 0,.slice none 0 0,.int .i64 0,.slice none 0 0] 53)) hr hsp)
 have x2:((w.alloc (.cells #[.int .i64 0,.int .i64 0,.slice none 0 0,.int .i64 0,.slice none 0 0] 53))).cell? ⟨g,2,none⟩=some (.int .i64 r.fEpoch):=by simpa using rowX.cell 2
 have x3:((w.alloc (.cells #[.int .i64 0,.int .i64 0,.slice none 0 0,.int .i64 0,.slice none 0 0] 53))).cell? ⟨g,3,none⟩=some (.int .i64 r.fBase):=by simpa using rowX.cell 3
 have x4:((w.alloc (.cells #[.int .i64 0,.int .i64 0,.slice none 0 0,.int .i64 0,.slice none 0 0] 53))).cell? ⟨g,4,none⟩=some (.slice aS r.fSpans.length cS):=by simpa using rowX.cell 4
 have x5:((w.alloc (.cells #[.int .i64 0,.int .i64 0,.slice none 0 0,.int .i64 0,.slice none 0 0] 53))).cell? ⟨g,5,none⟩=some (.int .i64 r.fMoving):=by simpa using rowX.cell 5
 have x6:((w.alloc (.cells #[.int .i64 0,.int .i64 0,.slice none 0 0,.int .i64 0,.slice none 0 0] 53))).cell? ⟨g,6,none⟩=some (.slice aU r.fCut.length cU):=by simpa using rowX.cell 6
 have HRZ:=Lib.hid rowZ
 have hsz:Hid (((w.alloc (.cells #[.int .i64 0,.int .i64 0,.slice none 0 0,.int .i64 0,.slice none 0 0] 53))).heap.size=w.heap.size+1):=by show _=_;simp
 clear B rowX hr rowZ
 go_enter Tryz.func15,Tryz.ntmps15
 go_wp2_with fail
 go_fit HO.out
 rintro e w3 ⟨cn,rfl,hn,k3⟩
 have rn:=OwnR.routes hn h64E h64B h64M hsp
 obtain⟨bS,dS,bU,dU,css,rfl,-⟩:=hn
 have rowZ:=HRZ.out.keep k3 id
 have z0:=rowZ.cell 0
 (try simp only[List.getElem?_cons_zero]at z0)
 have z1:=rowZ.cell 1
 (try simp only[List.getElem?_cons_succ]at z1);(try simp only[List.getElem?_cons_zero]at z1)
 have z2:=rowZ.cell 2
 (try simp only[List.getElem?_cons_succ]at z2);(try simp only[List.getElem?_cons_zero]at z2)
 have z3:=rowZ.cell 3
 (try simp only[List.getElem?_cons_succ]at z3);(try simp only[List.getElem?_cons_zero]at z3)
 have z4:=rowZ.cell 4
 (try simp only[List.getElem?_cons_succ]at z4);(try simp only[List.getElem?_cons_zero]at z4)
 have zf0:=rowZ.frozen 0
 have zf1:=rowZ.frozen 1
 have zf2:=rowZ.frozen 2
 have zf3:=rowZ.frozen 3
 have zf4:=rowZ.frozen 4
 have kS:Keep (·=w.heap.size) w3 (((((w3.setCell ⟨w.heap.size,0,none⟩ (.int .i64 r.fEpoch)).setCell ⟨w.heap.size,1,none⟩ (.int .i64 r.fBase)).setCell ⟨w.heap.size,2,none⟩ (.slice bS r.fSpans.length dS)).setCell ⟨w.heap.size,3,none⟩ (.int .i64 r.fMoving)).setCell ⟨w.heap.size,4,none⟩ (.slice bU r.fCut.length dU)):=(((((Keep.refl (·=w.heap.size) w3).setCell (p:=⟨w.heap.size,0,none⟩) (fun _=>rfl) _).setCell (p:=⟨w.heap.size,1,none⟩) (fun _=>rfl) _).setCell (p:=⟨w.heap.size,2,none⟩) (fun _=>rfl) _).setCell (p:=⟨w.heap.size,3,none⟩) (fun _=>rfl) _).setCell (p:=⟨w.heap.size,4,none⟩) (fun _=>rfl) _
 have rowR:RowIs (((((w3.setCell ⟨w.heap.size,0,none⟩ (.int .i64 r.fEpoch)).setCell ⟨w.heap.size,1,none⟩ (.int .i64 r.fBase)).setCell ⟨w.heap.size,2,none⟩ (.slice bS r.fSpans.length dS)).setCell ⟨w.heap.size,3,none⟩ (.int .i64 r.fMoving)).setCell ⟨w.heap.size,4,none⟩ (.slice bU r.fCut.length dU)) w.heap.size 53 [.int .i64 r.fEpoch,.int .i64 r.fBase,.slice bS r.fSpans.length dS,.int .i64 r.fMoving,.slice bU r.fCut.length dU]:=((((rowZ.set 0 (.int .i64 r.fEpoch)).set 1 (.int .i64 r.fBase)).set 2 (.slice bS r.fSpans.length dS)).set 3 (.int .i64 r.fMoving)).set 4 (.slice bU r.fCut.length dU)
 have HZR:=Lib.hid rowR
 have HRN:=Lib.hid rn
 clear rn rowR rowZ HO x2 x3 x4 x5 x6
 go_wp2_with fail
 refine bodyPost_ret (results_cell_row (by rfl) _ _ _ _ _ _ _ (by rfl) HZR.out Tryz.underlying53 (by rfl) hinfo) rfl ?_
 have hsS:=kS.size
 have hs1:=hsz.out
 exact⟨[.int .i64 r.fEpoch,.int .i64 r.fBase,.slice bS r.fSpans.length dS,.int .i64 r.fMoving,.slice bU r.fCut.length dU],rfl,rGRoutes_lawful.mono (rGRoutes_lawful.keep HRN.out kS (fun b hb e=>by have:=hb.1;omega)) (fun b hb=>⟨by have:=hb.1;omega,by have:=hb.2;omega⟩),(kA.trans k3).then kS (fun i hi e=>by omega)⟩
section
theorem T_u64:SliceT Tryz.prog 46 28 1 8:=SliceT.mk' Tryz.underlying46 (z:=.int .u64 0) (by kernel_rfl) rfl (by decide)
theorem IsRoot.more{w:World}{O:Nat→Prop}{g n n':Nat}{R:RootS}(h:IsRoot w O g n R)(hn:n≤n'):IsRoot w O g n' R:=by
 obtain⟨lt,og,ok,bM,aC,cC,aO,cO,aS,cS,aU,cU,cssC,D,B⟩:=h
 exact⟨lt,og,ok,bM,aC,cC,aO,cO,aS,cS,aU,cU,cssC,D,⟨B.row,B.oM,B.ne,B.oC,B.oO,B.co,B.rowC,B.els,B.rts,B.rowO,⟨B.dec.1.mono hn,B.dec.2⟩⟩⟩
theorem RootAt.turn{w wf:World}{O O':Nat→Prop}{g n n':Nat}{R:RootS}{bM cC cO cS cU cO':Nat}{aC aO aS aU aO':Option Addr}{cssC:List (List Value)}{D D':DataW Value}{begun':Int}{dec':Int→Option Int}{order':List Int}
  (B:RootAt w O g n R bM aC cC aO cO aS cS aU cU cssC D) (og:O g) (hO:∀b,O b→O' b) (k:Keep (fun b=>b=g∨b=bM∨OwnB (.slice aO R.order.length cO) b∨¬O b) w wf)
  (row:RowIs wf g 79 [.int .i64 R.spare,.slice aC R.cats.length cC,.int .i64 R.routes.fEpoch,.int .i64 R.routes.fBase,.slice aS R.routes.fSpans.length cS,.int .i64 R.routes.fMoving,.slice aU R.routes.fCut.length cU,.int .u64 begun',.map (some bM),.slice aO' order'.length cO'])
  (own:wf.ownsRow 0 28 1 (.slice aO' order'.length cO') order'.length (order'.map ivU)) (hv:∀b,OwnB (.slice aO' order'.length cO') b→OwnB (.slice aO R.order.length cO) b∨(¬O b∧O' b)) (dec:DecIs wf bM n' D' dec') :
  RootAt wf O' g n' ⟨R.spare,R.cats,R.routes,begun',dec',order'⟩ bM aC cC aO' cO' aS cS aU cU cssC D':=by
 have hdeep:∀b,Deep O g bM (.slice aC R.cats.length cC) (.slice aO R.order.length cO) b→¬(b=g∨b=bM∨OwnB (.slice aO R.order.length cO) b∨¬O b):=fun b hb h=>by
  rcases h with h | h | h | h
  ·exact hb.2.1 h
  ·exact hb.2.2.1 h
  ·exact hb.2.2.2.2 h
  ·exact h hb.1
 have hdeep2:∀b,Deep O g bM (.slice aC R.cats.length cC) (.slice aO R.order.length cO) b→Deep O' g bM (.slice aC R.cats.length cC) (.slice aO' order'.length cO') b:=fun b hb=>
  ⟨hO b hb.1,hb.2.1,hb.2.2.1,hb.2.2.2.1,fun h=>by
   rcases hv b h with h | h
   ·exact hb.2.2.2.2 h
   ·exact h.1 hb.1⟩
 refine⟨row,hO _ B.oM,B.ne,fun b hb=>⟨hO b (B.oC b hb).1,(B.oC b hb).2⟩,fun b hb=>?_,fun b hb h=>?_,jad B.rowC k (fun b hb h=>?_),(B.els.keep rGCatalog_lawful k hdeep).mono rGCatalog_lawful hdeep2,rGRoutes_lawful.mono (rGRoutes_lawful.keep B.rts k hdeep) hdeep2,own,dec⟩
 ·rcases hv b hb with h | h
  ·exact⟨hO b (B.oO b h).1,(B.oO b h).2⟩
  ·exact⟨h.2,fun e=>h.1 (e ▸ og),fun e=>h.1 (e ▸ B.oM)⟩
 ·rcases hv b h with h | h
  ·exact B.co b hb h
  ·exact h.1 (B.oC b hb).1
 ·have:=B.oC b hb
  rcases h with h | h | h | h
  ·exact this.2.1 h
  ·exact this.2.2 h
  ·exact B.co b hb h
  ·exact h this.1
def updD(dec:Int→Option Int)(k x:Int):Int→Option Int:=fun i=>if i=k then some x else dec i
def jaB(R:RootS)(txn:Int)(commit:Bool):Int×Int×RootS:=
 if txn=0∨R.begun<txn then(5,0,R) else
 match R.dec txn with
 | some p=>if p=0 then(16,0,R) else(0,p,R)
 | none=>if commit then(0,(R.order.length:Int)+1,{R with dec:=updD R.dec txn ((R.order.length:Int)+1),order:=R.order ++ [txn]}) else(16,0,{R with dec:=updD R.dec txn 0})
def repG(e t n:Int):GReply:=⟨e,t,n,false,[],[],⟨0,0,[],[]⟩,⟨0,0,[],0,[]⟩⟩
def repV(e t n:Int):List Value:=[.int .i64 e,.int .u64 t,.int .i64 n,.bool false,.slice none 0 0,.slice none 0 0,.int .i64 0,.int .i64 0,.slice none 0 0,.slice none 0 0,.int .i64 0,.int .i64 0,.slice none 0 0,.int .i64 0,.slice none 0 0]
theorem jch(w:World)(p:Nat→Prop){e t n:Int}(he:jae e)(ht:jaw t)(hn:jae n):jc4 w p (repV e t n) (repG e t n):=
 jd8 w p (x:=repG e t n) he ht hn (jbW _ _) (jbW _ _) (jcs _ _ (x:=⟨0,0,[],[]⟩) ⟨by show _≤(0:Int);decide,by show(0:Int)≤_;decide⟩ ⟨by show _≤(0:Int);decide,by show(0:Int)≤_;decide⟩ (jbW _ _) (jbW _ _))
  (jc1 _ _ (x:=⟨0,0,[],0,[]⟩) ⟨by show _≤(0:Int);decide,by show(0:Int)≤_;decide⟩ ⟨by show _≤(0:Int);decide,by show(0:Int)≤_;decide⟩ (jbW _ _) ⟨by show _≤(0:Int);decide,by show(0:Int)≤_;decide⟩ ⟨Lies.nil _ _ _,Nat.le_refl _,Nat.zero_le _⟩)
def RunPost(w:World)(O:Nat→Prop)(g n:Nat)(y:GReply×RootS)(e:Ending)(w':World):Prop:=∃(cs:List Value) (O' R':Nat→Prop),e=.returned (.agg cs.toArray)∧jc4 w' R' cs y.1∧(∀b,R' b→w.heap.size≤b∧b<w'.heap.size∧¬O' b)∧IsRoot w' O' g (n+1) y.2∧(∀b,O' b→O b∨w.heap.size≤b)∧(∀b,O b→O' b)∧Keep O w w'
section
attribute [local go_sem ↓] jct
theorem jeO(O:Nat→Prop)(g n:Nat)(R:RootS)(txn:Int)(commit:Bool)(w:World)(H:IsRoot w O g n R)(hn:n<1000000)(ht:jaw txn)(ho:R.order.length≤90000) :
  Calls Tryz.prog 24 #[.pointer (some ⟨g,0,none⟩),.int .u64 txn,.bool commit] w (RunPost w O g n (repG (jaB R txn commit).1 0 (jaB R txn commit).2.1,(jaB R txn commit).2.2)):=by
 have hinfo:(Tryz.prog.info? 55).map (·.size)=some 15:=by kernel_rfl
 have H0:=Lib.hid H.lt
 have kA:Keep Nix w (w.alloc (.cells #[.int .i64 0,.int .u64 0,.int .i64 0,.bool false,.slice none 0 0,.slice none 0 0,.int .i64 0,.int .i64 0,.slice none 0 0,.slice none 0 0,.int .i64 0,.int .i64 0,.slice none 0 0,.int .i64 0,.slice none 0 0] 55)):=(Keep.refl Nix w).alloc _
 have rowZ:RowIs (w.alloc (.cells #[.int .i64 0,.int .u64 0,.int .i64 0,.bool false,.slice none 0 0,.slice none 0 0,.int .i64 0,.int .i64 0,.slice none 0 0,.slice none 0 0,.int .i64 0,.int .i64 0,.slice none 0 0,.int .i64 0,.slice none 0 0] 55)) w.heap.size 55 [.int .i64 0,.int .u64 0,.int .i64 0,.bool false,.slice none 0 0,.slice none 0 0,.int .i64 0,.int .i64 0,.slice none 0 0,.slice none 0 0,.int .i64 0,.int .i64 0,.slice none 0 0,.int .i64 0,.slice none 0 0]:=RowIs.alloc w _ _
 have HA:=Lib.hid (H.nix kA)
 obtain⟨lt,og,ok,bM,aC,cC,aO,cO,aS,cS,aU,cU,cssC,D,B⟩:=H.nix kA
 have hgw:g≠w.heap.size:=by have:=H0.out g og;omega
 have hMw:bM≠w.heap.size:=by have:=H0.out bM B.oM;omega
 have x7:((w.alloc (.cells #[.int .i64 0,.int .u64 0,.int .i64 0,.bool false,.slice none 0 0,.slice none 0 0,.int .i64 0,.int .i64 0,.slice none 0 0,.slice none 0 0,.int .i64 0,.int .i64 0,.slice none 0 0,.int .i64 0,.slice none 0 0] 55))).cell? ⟨g,7,none⟩=some (.int .u64 R.begun):=by simpa using B.row.cell 7
 have x8:((w.alloc (.cells #[.int .i64 0,.int .u64 0,.int .i64 0,.bool false,.slice none 0 0,.slice none 0 0,.int .i64 0,.int .i64 0,.slice none 0 0,.slice none 0 0,.int .i64 0,.int .i64 0,.slice none 0 0,.int .i64 0,.slice none 0 0] 55))).cell? ⟨g,8,none⟩=some (.map (some bM)):=by simpa using B.row.cell 8
 have hsz:Hid (((w.alloc (.cells #[.int .i64 0,.int .u64 0,.int .i64 0,.bool false,.slice none 0 0,.slice none 0 0,.int .i64 0,.int .i64 0,.slice none 0 0,.slice none 0 0,.int .i64 0,.int .i64 0,.slice none 0 0,.int .i64 0,.slice none 0 0] 55))).heap.size=w.heap.size+1):=by show _=_;simp
 have HBB:=Lib.hid B
 have hlk:=jnS B.dec ht
 clear B
 obtain⟨Y,HY⟩:∃Y,Hid (jaB R txn commit=Y):=⟨_,rfl⟩
 rw[HY.out]
 have hbg:jaw R.begun:=ok.u64
 have i0:jae 0:=⟨by decide,by decide⟩
 have u0:jaw 0:=⟨by decide,by decide⟩
 by_cases hbad:txn=0∨R.begun<txn
 focus
  have e:Hid ((5,0,R)=Y):=by show _=_;rw[←HY.out];unfold jaB;rw[if_pos hbad]
  clear hlk
  by_cases h0:txn=0
  focus
   have q0:(txn == 0)=true:=by simp[h0]
   refine ?h1a
  rotate_left
  focus
   have q0:(txn == 0)=false:=by simp[h0]
   have hlt:R.begun<txn:=by omega
   refine ?h1b
  rotate_left
 rotate_left 2
 ·have h0:txn≠0:=fun h=>hbad (.inl h)
  have hle:¬R.begun<txn:=fun h=>hbad (.inr h)
  have q0:(txn == 0)=false:=by simp[h0]
  cases hd:R.dec txn with
  | some p=>
   have hp:=ok.place txn p hd
   rw[hd]at hlk
   replace hlk:(Instr.lookup 77 (.map (some bM)) (.int .u64 txn) true).run Tryz.prog (w.alloc (.cells #[.int .i64 0,.int .u64 0,.int .i64 0,.bool false,.slice none 0 0,.slice none 0 0,.int .i64 0,.int .i64 0,.slice none 0 0,.slice none 0 0,.int .i64 0,.int .i64 0,.slice none 0 0,.int .i64 0,.slice none 0 0] 55))=.ok (.tuple #[.int .i64 p,.bool true]) (w.alloc (.cells #[.int .i64 0,.int .u64 0,.int .i64 0,.bool false,.slice none 0 0,.slice none 0 0,.int .i64 0,.int .i64 0,.slice none 0 0,.slice none 0 0,.int .i64 0,.int .i64 0,.slice none 0 0,.int .i64 0,.slice none 0 0] 55)):=hlk
   have hol:=ok.len.2
   by_cases hp0:p=0
   ·have e:Hid ((16,0,R)=Y):=by show _=_;rw[←HY.out];unfold jaB;rw[if_neg hbad,hd];simp[hp0]
    subst hp0
    clear hbad hp hd
    go_enter Tryz.func24,Tryz.ntmps24
    have hst:=jaf (P:=Tryz.prog) (cs:=repV 16 0 0) S_Reply rowZ rfl rfl rfl
    unfold repV at hst
    have kS:Keep (·=w.heap.size) (w.alloc (.cells #[.int .i64 0,.int .u64 0,.int .i64 0,.bool false,.slice none 0 0,.slice none 0 0,.int .i64 0,.int .i64 0,.slice none 0 0,.slice none 0 0,.int .i64 0,.int .i64 0,.slice none 0 0,.int .i64 0,.slice none 0 0] 55)) ((w.alloc (.cells #[.int .i64 0,.int .u64 0,.int .i64 0,.bool false,.slice none 0 0,.slice none 0 0,.int .i64 0,.int .i64 0,.slice none 0 0,.slice none 0 0,.int .i64 0,.int .i64 0,.slice none 0 0,.int .i64 0,.slice none 0 0] 55)).setRow w.heap.size (repV 16 0 0).toArray):=(Keep.refl (·=w.heap.size) (w.alloc (.cells #[.int .i64 0,.int .u64 0,.int .i64 0,.bool false,.slice none 0 0,.slice none 0 0,.int .i64 0,.int .i64 0,.slice none 0 0,.slice none 0 0,.int .i64 0,.int .i64 0,.slice none 0 0,.int .i64 0,.slice none 0 0] 55))).setRow (fun _=>rfl) _
    have HZR:=Lib.hid (rowZ.setRow (repV 16 0 0))
    have HKS:=Lib.hid kS
    clear kS
    go_wp2_with fail
    refine bodyPost_ret (results_cell_row (by rfl) _ _ _ _ _ _ _ (by rfl) HZR.out Tryz.underlying55 (by rfl) hinfo) rfl ?_
    have kS:=HKS.out
    rw[←e.out]
    exact⟨repV 16 0 0,O,fun _=>False,rfl,jch _ _ ⟨by decide,by decide⟩ u0 i0,fun b h=>h.elim,(HA.out.keep kS (fun b hb e=>by have:=H0.out b hb;omega)).more (Nat.le_succ n),fun b h=>.inl h,fun b h=>h,(kA.then kS (fun i hi e=>by omega)).nix⟩
   ·have e:Hid ((0,p,R)=Y):=by show _=_;rw[←HY.out];unfold jaB;rw[if_neg hbad,hd];simp[hp0]
    have qp:(p == 0)=false:=by simp[hp0]
    have ip:jae p:=⟨by omega,by omega⟩
    clear hbad hp hd hp0
    go_enter Tryz.func24,Tryz.ntmps24
    have hst:=jaf (P:=Tryz.prog) (cs:=repV 0 0 p) S_Reply rowZ rfl rfl rfl
    unfold repV at hst
    have kS:Keep (·=w.heap.size) (w.alloc (.cells #[.int .i64 0,.int .u64 0,.int .i64 0,.bool false,.slice none 0 0,.slice none 0 0,.int .i64 0,.int .i64 0,.slice none 0 0,.slice none 0 0,.int .i64 0,.int .i64 0,.slice none 0 0,.int .i64 0,.slice none 0 0] 55)) ((w.alloc (.cells #[.int .i64 0,.int .u64 0,.int .i64 0,.bool false,.slice none 0 0,.slice none 0 0,.int .i64 0,.int .i64 0,.slice none 0 0,.slice none 0 0,.int .i64 0,.int .i64 0,.slice none 0 0,.int .i64 0,.slice none 0 0] 55)).setRow w.heap.size (repV 0 0 p).toArray):=(Keep.refl (·=w.heap.size) (w.alloc (.cells #[.int .i64 0,.int .u64 0,.int .i64 0,.bool false,.slice none 0 0,.slice none 0 0,.int .i64 0,.int .i64 0,.slice none 0 0,.slice none 0 0,.int .i64 0,.int .i64 0,.slice none 0 0,.int .i64 0,.slice none 0 0] 55))).setRow (fun _=>rfl) _
    have HZR:=Lib.hid (rowZ.setRow (repV 0 0 p))
    have HKS:=Lib.hid kS
    clear kS
    go_wp2_with fail
    refine bodyPost_ret (results_cell_row (by rfl) _ _ _ _ _ _ _ (by rfl) HZR.out Tryz.underlying55 (by rfl) hinfo) rfl ?_
    have kS:=HKS.out
    rw[←e.out]
    exact⟨repV 0 0 p,O,fun _=>False,rfl,jch _ _ i0 u0 ip,fun b h=>h.elim,(HA.out.keep kS (fun b hb e=>by have:=H0.out b hb;omega)).more (Nat.le_succ n),fun b h=>.inl h,fun b h=>h,(kA.then kS (fun i hi e=>by omega)).nix⟩
  | none=>
   rw[hd]at hlk
   replace hlk:(Instr.lookup 77 (.map (some bM)) (.int .u64 txn) true).run Tryz.prog (w.alloc (.cells #[.int .i64 0,.int .u64 0,.int .i64 0,.bool false,.slice none 0 0,.slice none 0 0,.int .i64 0,.int .i64 0,.slice none 0 0,.slice none 0 0,.int .i64 0,.int .i64 0,.slice none 0 0,.int .i64 0,.slice none 0 0] 55))=.ok (.tuple #[.int .i64 0,.bool false]) (w.alloc (.cells #[.int .i64 0,.int .u64 0,.int .i64 0,.bool false,.slice none 0 0,.slice none 0 0,.int .i64 0,.int .i64 0,.slice none 0 0,.slice none 0 0,.int .i64 0,.int .i64 0,.slice none 0 0,.int .i64 0,.slice none 0 0] 55)):=hlk
   cases commit with
   | false=>
    have e:Hid ((16,0,{R with dec:=updD R.dec txn 0})=Y):=by show _=_;rw[←HY.out];unfold jaB;rw[if_neg hbad,hd];rfl
    obtain⟨w1,hU,m1,k1⟩:=jg0 (x:=0) HBB.out.dec hn ht
    replace rowZ:=rowZ.keep k1 (fun e=>hMw e.symm)
    clear hbad hd
    go_enter Tryz.func24,Tryz.ntmps24
    have hst:=jaf (P:=Tryz.prog) (cs:=repV 16 0 0) S_Reply rowZ rfl rfl rfl
    unfold repV at hst
    have kS:Keep (·=w.heap.size) w1 (w1.setRow w.heap.size (repV 16 0 0).toArray):=(Keep.refl (·=w.heap.size) w1).setRow (fun _=>rfl) _
    have HZR:=Lib.hid (rowZ.setRow (repV 16 0 0))
    have HKS:=Lib.hid kS
    clear kS
    go_wp2_with fail
    refine bodyPost_ret (results_cell_row (by rfl) _ _ _ _ _ _ _ (by rfl) HZR.out Tryz.underlying55 (by rfl) hinfo) rfl ?_
    have kS:=HKS.out
    rw[←e.out]
    have hsz1:=hsz.out
    have hk1:=k1.size
    have hkS:=kS.size
    have row9:=(HBB.out.row.keep k1 (fun e=>HBB.out.ne e.symm)).keep kS hgw
    have own9:=jad (jad HBB.out.rowO k1 (fun b hb e=>(HBB.out.oO b hb).2.2 e)) kS (fun b hb e=>by have:=H0.out b (HBB.out.oO b hb).1;omega)
    have kT:Keep (fun b=>b=g∨b=bM∨OwnB (.slice aO R.order.length cO) b∨¬O b) (w.alloc (.cells #[.int .i64 0,.int .u64 0,.int .i64 0,.bool false,.slice none 0 0,.slice none 0 0,.int .i64 0,.int .i64 0,.slice none 0 0,.slice none 0 0,.int .i64 0,.int .i64 0,.slice none 0 0,.int .i64 0,.slice none 0 0] 55)) (w1.setRow w.heap.size (repV 16 0 0).toArray):=(k1.mono (fun b hb=>.inr (.inl hb))).trans (kS.mono (fun b hb=>.inr (.inr (.inr (fun ho=>by have:=H0.out b ho;omega)))))
    have B2:=RootAt.turn HBB.out og (fun b h=>h) kT row9 own9 (fun b hb=>.inl hb) (m1.keep kS hMw)
    refine⟨repV 16 0 0,O,fun _=>False,rfl,jch _ _ ⟨by decide,by decide⟩ u0 i0,fun b h=>h.elim,⟨fun b hb=>Nat.lt_of_lt_of_le (Nat.lt_of_lt_of_le (H0.out b hb) (by omega)) kS.size,og,⟨ok.ex,ok.len,ok.small,ok.ver,ok.spans,ok.u64,fun k p hk=>?_⟩,bM,aC,cC,aO,cO,aS,cS,aU,cU,cssC,_,B2⟩,fun b h=>.inl h,fun b h=>h,((kA.nix (S:=O)).then k1 (fun i hi e=>by rw[e];exact HBB.out.oM)).then kS (fun i hi e=>by omega)⟩
    by_cases hkt:k=txn
    ·have:updD R.dec txn 0 k=some p:=hk
     unfold updD at this
     rw[if_pos hkt]at this
     cases this
     exact⟨by omega,by omega⟩
    ·have:updD R.dec txn 0 k=some p:=hk
     unfold updD at this
     rw[if_neg hkt]at this
     exact ok.place k p this
   | true=>
    have e:Hid ((0,(R.order.length:Int)+1,{R with dec:=updD R.dec txn ((R.order.length:Int)+1),order:=R.order ++ [txn]})=Y):=by show _=_;rw[←HY.out];unfold jaB;rw[if_neg hbad,hd];rfl
    have x9:((w.alloc (.cells #[.int .i64 0,.int .u64 0,.int .i64 0,.bool false,.slice none 0 0,.slice none 0 0,.int .i64 0,.int .i64 0,.slice none 0 0,.slice none 0 0,.int .i64 0,.int .i64 0,.slice none 0 0,.int .i64 0,.slice none 0 0] 55))).cell? ⟨g,9,none⟩=some (.slice aO R.order.length cO):=by simpa using HBB.out.row.cell 9
    have ownO:=HBB.out.rowO
    have HRZ:=Lib.hid rowZ
    clear hbad hd rowZ
    go_enter Tryz.func24,Tryz.ntmps24
    go_wp2_with (at_builtin;refine jbi (c:=1) T_u64 ?hgd (.tmp 37) (.tmp 39) ?ho 0 ?hs ownO ?hx ?c0 ?c1 ?c2 ?c3 ?c4 ?_)
    case hgd=>rfl
    case ho=>rfl
    (try case hs=>rfl)
    (try case hx=>rfl)
    (try case c0=>rfl)
    case c1=>simp[Value.oneCell']
    case c2=>unfold maxLen;omega
    case c3=>omega
    (try case c4=>omega)
    intro a' cap' w6 own6 k6 jax
    clear x7 x8 x9 hlk
    have hoO:=HBB.out.oO
    have rowg:=HBB.out.row.keep k6 (fun h=>(hoO g h).2.1 rfl)
    have g9:w6.cell? ⟨g,9,none⟩=some (.slice aO R.order.length cO):=by simpa using rowg.cell 9
    have gf9:=rowg.frozen 9
    have kg:Keep (·=g) w6 (w6.setCell ⟨g,9,none⟩ (.slice a' (R.order.length+1) cap')):=(Keep.refl (·=g) w6).setCell (p:=⟨g,9,none⟩) (fun _=>rfl) _
    have g8:w6.cell? ⟨g,8,none⟩=some (.map (some bM)):=by simpa using rowg.cell 8
    have hMO:¬OwnB (.slice aO R.order.length cO) bM:=fun h=>(hoO bM h).2.2 rfl
    have hlO:∀b,OwnB (.slice aO R.order.length cO) b→b<w.heap.size:=fun b hb=>H0.out b (hoO b hb).1
    have m7:=(HBB.out.dec.keep k6 hMO).keep kg HBB.out.ne
    obtain⟨w8,hU,m8,k8⟩:=jg0 (x:=(R.order.length:Int)+1) m7 hn ht
    have rowg7:=rowg.set 9 (.slice a' (R.order.length+1) cap')
    simp only[List.set_cons_succ,List.set_cons_zero]at rowg7
    have rowg8:=rowg7.keep k8 (fun e=>HBB.out.ne e.symm)
    have rowZ:=((HRZ.out.keep k6 (fun h=>by have:=hlO _ h;omega)).keep kg (fun e=>hgw e.symm)).keep k8 (fun e=>hMw e.symm)
    have hvO:∀b,OwnB (.slice a' (R.order.length+1) cap') b→b≠g∧b≠bM∧b≠w.heap.size:=fun b hb=>by
     have h1:=H0.out g og
     have h2:=H0.out bM HBB.out.oM
     rcases jax b hb with h | h
     ·have h3:=hoO b h
      have h4:=hlO b h
      exact⟨h3.2.1,h3.2.2,by omega⟩
     ·exact⟨by omega,by omega,by omega⟩
    have own8:=Lib.hid (jad (jad own6 kg (fun b hb=>(hvO b hb).1)) k8 (fun b hb=>(hvO b hb).2.1))
    have HROWG:=Lib.hid rowg8
    have HM8:=Lib.hid m8
    have K6:=Lib.hid k6
    have K8:=Lib.hid k8
    have HFR:=Lib.hid jax
    have HVO:=Lib.hid hvO
    have HLO:=Lib.hid hlO
    have qn:(((R.order.length:Int)+1) == 0)=false:=by simp only[beq_eq_false_iff_ne];omega
    have hol:=ok.len.2
    clear ownO own6 k6 k8 m7 m8 rowg rowg7 rowg8 jax hvO hlO hMO hoO
    have hst:=jaf (P:=Tryz.prog) (cs:=repV 0 0 ((R.order.length:Int)+1)) S_Reply rowZ rfl rfl rfl
    unfold repV at hst
    have kS:Keep (·=w.heap.size) w8 (w8.setRow w.heap.size (repV 0 0 ((R.order.length:Int)+1)).toArray):=(Keep.refl (·=w.heap.size) w8).setRow (fun _=>rfl) _
    have HZR:=Lib.hid (rowZ.setRow (repV 0 0 ((R.order.length:Int)+1)))
    have HKS:=Lib.hid kS
    clear kS
    go_wp2_with fail
    refine bodyPost_ret (results_cell_row (by rfl) _ _ _ _ _ _ _ (by rfl) HZR.out Tryz.underlying55 (by rfl) hinfo) rfl ?_
    have kS:=HKS.out
    rw[←e.out]
    have hsz1:=hsz.out
    have hk6:=K6.out.size
    have hk8:=K8.out.size
    have hkg:=kg.size
    have hl:(R.order ++ [txn]).length=R.order.length+1:=by simp
    have hvo:=HBB.out.oO
    have row9:=HROWG.out.keep kS hgw
    have own9:=jad own8.out kS (fun b hb e=>(HVO.out b hb).2.2 e)
    have kT:Keep (fun b=>b=g∨b=bM∨OwnB (.slice aO R.order.length cO) b∨¬O b) (w.alloc (.cells #[.int .i64 0,.int .u64 0,.int .i64 0,.bool false,.slice none 0 0,.slice none 0 0,.int .i64 0,.int .i64 0,.slice none 0 0,.slice none 0 0,.int .i64 0,.int .i64 0,.slice none 0 0,.int .i64 0,.slice none 0 0] 55)) (w8.setRow w.heap.size (repV 0 0 ((R.order.length:Int)+1)).toArray):=(((K6.out.mono (fun b hb=>.inr (.inr (.inl hb)))).trans (kg.mono (fun b hb=>.inl hb))).trans (K8.out.mono (fun b hb=>.inr (.inl hb)))).trans (kS.mono (fun b hb=>.inr (.inr (.inr (fun ho=>by have:=H0.out b ho;omega)))))
    have B2:=RootAt.turn (O':=fun b=>O b∨OwnB (.slice a' (R.order.length+1) cap') b) (order':=R.order ++ [txn]) HBB.out og (fun b h=>.inl h) kT (by rw[hl];exact row9) (by rw[hl,List.map_append];exact own9) (fun b hb=>by
     rw[hl]at hb
     rcases HFR.out b hb with h | h
     ·exact .inl h
     ·exact .inr ⟨fun ho=>by have:=H0.out b ho;omega,.inr hb⟩) (HM8.out.keep kS hMw)
    refine⟨repV 0 0 ((R.order.length:Int)+1),_,fun _=>False,rfl,jch _ _ i0 u0 ⟨by omega,by omega⟩,fun b h=>h.elim,⟨fun b hb=>?_,.inl og,⟨ok.ex,⟨ok.len.1,by show(R.order ++ [txn]).length≤_;rw[hl];omega⟩,ok.small,ok.ver,ok.spans,ok.u64,fun k p hk=>?_⟩,bM,aC,cC,a',cap',aS,cS,aU,cU,cssC,_,B2⟩,fun b h=>?_,fun b h=>.inl h,((((kA.nix (S:=O)).then K6.out (fun i hi h=>(hvo i h).1)).then kg (fun i hi e=>by rw[e];exact og)).then K8.out (fun i hi e=>by rw[e];exact HBB.out.oM)).then kS (fun i hi e=>by omega)⟩
    ·rcases hb with hb | hb
     ·exact Nat.lt_of_lt_of_le (Nat.lt_of_lt_of_le (H0.out b hb) (by omega)) kS.size
     ·exact Nat.lt_of_lt_of_le (own8.out.lt b hb).2 kS.size
    ·show 0≤p∧p≤(((R.order ++ [txn]).length:Nat):Int)
     rw[hl]
     by_cases hkt:k=txn
     ·have:updD R.dec txn ((R.order.length:Int)+1) k=some p:=hk
      unfold updD at this
      rw[if_pos hkt]at this
      cases this
      exact⟨by omega,by omega⟩
     ·have:updD R.dec txn ((R.order.length:Int)+1) k=some p:=hk
      unfold updD at this
      rw[if_neg hkt]at this
      have:=ok.place k p this
      exact⟨by omega,by omega⟩
    ·rcases h with h | h
     ·exact .inl h
     ·rcases HFR.out b h with h2 | h2
      ·exact .inl (hvo b h2).1
      ·exact .inr (by omega)
 case h1a | h1b=>
  clear hbad h0
  go_enter Tryz.func24,Tryz.ntmps24
  have hst:=jaf (P:=Tryz.prog) (cs:=repV 5 0 0) S_Reply rowZ rfl rfl rfl
  unfold repV at hst
  have kS:Keep (·=w.heap.size) (w.alloc (.cells #[.int .i64 0,.int .u64 0,.int .i64 0,.bool false,.slice none 0 0,.slice none 0 0,.int .i64 0,.int .i64 0,.slice none 0 0,.slice none 0 0,.int .i64 0,.int .i64 0,.slice none 0 0,.int .i64 0,.slice none 0 0] 55)) ((w.alloc (.cells #[.int .i64 0,.int .u64 0,.int .i64 0,.bool false,.slice none 0 0,.slice none 0 0,.int .i64 0,.int .i64 0,.slice none 0 0,.slice none 0 0,.int .i64 0,.int .i64 0,.slice none 0 0,.int .i64 0,.slice none 0 0] 55)).setRow w.heap.size (repV 5 0 0).toArray):=(Keep.refl (·=w.heap.size) (w.alloc (.cells #[.int .i64 0,.int .u64 0,.int .i64 0,.bool false,.slice none 0 0,.slice none 0 0,.int .i64 0,.int .i64 0,.slice none 0 0,.slice none 0 0,.int .i64 0,.int .i64 0,.slice none 0 0,.int .i64 0,.slice none 0 0] 55))).setRow (fun _=>rfl) _
  have HZR:=Lib.hid (rowZ.setRow (repV 5 0 0))
  have HKS:=Lib.hid kS
  clear kS
  go_wp2_with fail
  refine bodyPost_ret (results_cell_row (by rfl) _ _ _ _ _ _ _ (by rfl) HZR.out Tryz.underlying55 (by rfl) hinfo) rfl ?_
  have kS:=HKS.out
  rw[←e.out]
  exact⟨repV 5 0 0,O,fun _=>False,rfl,jch _ _ ⟨by decide,by decide⟩ u0 i0,fun b h=>h.elim,(HA.out.keep kS (fun b hb e=>by have:=H0.out b hb;omega)).more (Nat.le_succ n),fun b h=>.inl h,fun b h=>h,(kA.then kS (fun i hi e=>by omega)).nix⟩
end
end
section
def bump(R:RootS):RootS:=⟨R.spare,R.cats,R.routes,R.begun+1,R.dec,R.order⟩
def repL(t n:Int)(c:GCatalog)(r:GRoutes):GReply:=⟨0,t,n,false,[],[],c,r⟩
theorem lf0(w:World)(ccs:List Value):Keep Nix w (((w.alloc (.cells ccs.toArray 43))).alloc (.cells #[.int .i64 0,.int .u64 0,.int .i64 0,.bool false,.slice none 0 0,.slice none 0 0,.int .i64 0,.int .i64 0,.slice none 0 0,.slice none 0 0,.int .i64 0,.int .i64 0,.slice none 0 0,.int .i64 0,.slice none 0 0] 55)):=((Keep.refl Nix w).alloc _).alloc _
theorem lf1(w:World)(ccs:List Value):RowIs (((w.alloc (.cells ccs.toArray 43))).alloc (.cells #[.int .i64 0,.int .u64 0,.int .i64 0,.bool false,.slice none 0 0,.slice none 0 0,.int .i64 0,.int .i64 0,.slice none 0 0,.slice none 0 0,.int .i64 0,.int .i64 0,.slice none 0 0,.int .i64 0,.slice none 0 0] 55)) w.heap.size 43 ccs:=by have:=(RowIs.alloc w ccs.toArray 43).keep ((Keep.refl Nix _).alloc (.cells #[.int .i64 0,.int .u64 0,.int .i64 0,.bool false,.slice none 0 0,.slice none 0 0,.int .i64 0,.int .i64 0,.slice none 0 0,.slice none 0 0,.int .i64 0,.int .i64 0,.slice none 0 0,.int .i64 0,.slice none 0 0] 55)) id;simpa using this
theorem lf2(w:World)(ccs:List Value):RowIs (((w.alloc (.cells ccs.toArray 43))).alloc (.cells #[.int .i64 0,.int .u64 0,.int .i64 0,.bool false,.slice none 0 0,.slice none 0 0,.int .i64 0,.int .i64 0,.slice none 0 0,.slice none 0 0,.int .i64 0,.int .i64 0,.slice none 0 0,.int .i64 0,.slice none 0 0] 55)) (w.heap.size+1) 55 [.int .i64 0,.int .u64 0,.int .i64 0,.bool false,.slice none 0 0,.slice none 0 0,.int .i64 0,.int .i64 0,.slice none 0 0,.slice none 0 0,.int .i64 0,.int .i64 0,.slice none 0 0,.int .i64 0,.slice none 0 0]:=RowIs.alloc_at (w.alloc (.cells ccs.toArray 43)) _ (by simp) _ _
theorem lf3(w:World)(ccs:List Value):Hid (((((w.alloc (.cells ccs.toArray 43))).alloc (.cells #[.int .i64 0,.int .u64 0,.int .i64 0,.bool false,.slice none 0 0,.slice none 0 0,.int .i64 0,.int .i64 0,.slice none 0 0,.slice none 0 0,.int .i64 0,.int .i64 0,.slice none 0 0,.int .i64 0,.slice none 0 0] 55))).heap.size=w.heap.size+1+1):=by show _=_;simp
section
attribute [local go_sem ↓] jct
theorem jiK(O:Nat→Prop)(g n:Nat)(R:RootS)(ccs:List Value)(w:World)(H:IsRoot w O g n R)(hk:ccs[0]?=some (.int .i64 11))(hbg:R.begun≤1000000) :
  Calls Tryz.prog 9 #[.pointer (some ⟨g,0,none⟩),.agg ccs.toArray] w (RunPost w O g n (repL (R.begun+1) 0 (jah R) R.routes,bump R)):=by
 have hinfo:(Tryz.prog.info? 55).map (·.size)=some 15:=by kernel_rfl
 have H0:=Lib.hid H.lt
 have kB:=lf0 w ccs
 have row0:=lf1 w ccs
 have rowZ:=lf2 w ccs
 have x0:((((w.alloc (.cells ccs.toArray 43))).alloc (.cells #[.int .i64 0,.int .u64 0,.int .i64 0,.bool false,.slice none 0 0,.slice none 0 0,.int .i64 0,.int .i64 0,.slice none 0 0,.slice none 0 0,.int .i64 0,.int .i64 0,.slice none 0 0,.int .i64 0,.slice none 0 0] 55))).cell? ⟨w.heap.size,0,none⟩=some (.int .i64 11):=(row0.cell 0).trans hk
 obtain⟨lt,og,ok,bM,aC,cC,aO,cO,aS,cS,aU,cU,cssC,D,B⟩:=H.nix kB
 have hg:=H0.out g og
 have x7:((((w.alloc (.cells ccs.toArray 43))).alloc (.cells #[.int .i64 0,.int .u64 0,.int .i64 0,.bool false,.slice none 0 0,.slice none 0 0,.int .i64 0,.int .i64 0,.slice none 0 0,.slice none 0 0,.int .i64 0,.int .i64 0,.slice none 0 0,.int .i64 0,.slice none 0 0] 55))).cell? ⟨g,7,none⟩=some (.int .u64 R.begun):=by simpa using B.row.cell 7
 have f7:=B.row.frozen 7
 have hb0:=ok.u64.1
 have hw:IntKind.u64.wrap (R.begun+1)=R.begun+1:=by rw[IntKind.wrap_u64];omega
 have kG:Keep (·=g) (((w.alloc (.cells ccs.toArray 43))).alloc (.cells #[.int .i64 0,.int .u64 0,.int .i64 0,.bool false,.slice none 0 0,.slice none 0 0,.int .i64 0,.int .i64 0,.slice none 0 0,.slice none 0 0,.int .i64 0,.int .i64 0,.slice none 0 0,.int .i64 0,.slice none 0 0] 55)) (((((w.alloc (.cells ccs.toArray 43))).alloc (.cells #[.int .i64 0,.int .u64 0,.int .i64 0,.bool false,.slice none 0 0,.slice none 0 0,.int .i64 0,.int .i64 0,.slice none 0 0,.slice none 0 0,.int .i64 0,.int .i64 0,.slice none 0 0,.int .i64 0,.slice none 0 0] 55))).setCell ⟨g,7,none⟩ (.int .u64 (R.begun+1))):=(Keep.refl (·=g) _).setCell (p:=⟨g,7,none⟩) (fun _=>rfl) _
 have hsz:=lf3 w ccs
 have rowG:=B.row.set 7 (.int .u64 (R.begun+1))
 (try simp only[List.set_cons_succ]at rowG);(try simp only[List.set_cons_zero]at rowG)
 have B3:=RootAt.turn (O':=O) (order':=R.order) B og (fun _ h=>h) (kG.mono (fun b hb=>.inl hb)) rowG (jad B.rowO kG (fun b hb e=>(B.oO b hb).2.1 e)) (fun b hb=>.inl hb) (B.dec.keep kG B.ne)
 have H3:IsRoot (((((w.alloc (.cells ccs.toArray 43))).alloc (.cells #[.int .i64 0,.int .u64 0,.int .i64 0,.bool false,.slice none 0 0,.slice none 0 0,.int .i64 0,.int .i64 0,.slice none 0 0,.slice none 0 0,.int .i64 0,.int .i64 0,.slice none 0 0,.int .i64 0,.slice none 0 0] 55))).setCell ⟨g,7,none⟩ (.int .u64 (R.begun+1))) O g n (bump R):=⟨fun b hb=>Nat.lt_of_lt_of_le (Nat.lt_of_lt_of_le (H0.out b hb) kB.size) kG.size,og,⟨ok.ex,ok.len,ok.small,ok.ver,ok.spans,⟨by show(0:Int)≤R.begun+1;omega,by show R.begun+1≤_;omega⟩,ok.place⟩,bM,aC,cC,aO,cO,aS,cS,aU,cU,cssC,D,B3⟩
 have HZ:=Lib.hid (rowZ.keep kG (fun e=>by omega))
 have k3:Keep (·=g) w (((((w.alloc (.cells ccs.toArray 43))).alloc (.cells #[.int .i64 0,.int .u64 0,.int .i64 0,.bool false,.slice none 0 0,.slice none 0 0,.int .i64 0,.int .i64 0,.slice none 0 0,.slice none 0 0,.int .i64 0,.int .i64 0,.slice none 0 0,.int .i64 0,.slice none 0 0] 55))).setCell ⟨g,7,none⟩ (.int .u64 (R.begun+1))):=(kB.nix (S:=(·=g))).trans kG
 have hs3:Hid (w.heap.size+1+1≤(((((w.alloc (.cells ccs.toArray 43))).alloc (.cells #[.int .i64 0,.int .u64 0,.int .i64 0,.bool false,.slice none 0 0,.slice none 0 0,.int .i64 0,.int .i64 0,.slice none 0 0,.slice none 0 0,.int .i64 0,.int .i64 0,.slice none 0 0,.int .i64 0,.slice none 0 0] 55))).setCell ⟨g,7,none⟩ (.int .u64 (R.begun+1))).heap.size):=by show _≤_;have:=kG.size;rw[hsz.out]at this;exact this
 have hpast:Hid ((((((w.alloc (.cells ccs.toArray 43))).alloc (.cells #[.int .i64 0,.int .u64 0,.int .i64 0,.bool false,.slice none 0 0,.slice none 0 0,.int .i64 0,.int .i64 0,.slice none 0 0,.slice none 0 0,.int .i64 0,.int .i64 0,.slice none 0 0,.int .i64 0,.slice none 0 0] 55))).setCell ⟨g,7,none⟩ (.int .u64 (R.begun+1)))=(((w.setCell ⟨g,7,none⟩ (.int .u64 (R.begun+1))).alloc (.cells ccs.toArray 43)).alloc (.cells #[.int .i64 0,.int .u64 0,.int .i64 0,.bool false,.slice none 0 0,.slice none 0 0,.int .i64 0,.int .i64 0,.slice none 0 0,.slice none 0 0,.int .i64 0,.int .i64 0,.slice none 0 0,.int .i64 0,.slice none 0 0] 55))):=by
  show _=_
  rw[World.setCell_alloc_past _ _ _ _ (by simp;omega),World.setCell_alloc_past _ _ _ _ (by omega)]
 have HX:=Lib.hid rowG
 have HH:=Lib.hid H3
 have K3:=Lib.hid k3
 have K0:=Lib.hid hk
 clear B rowG B3 H3 rowZ row0 kG k3 kB hk
 go_enter Tryz.func9,Tryz.ntmps9
 go_upto_region 6 with fail
 clear x0 x7 f7 hw
 rw[←hpast.out]
 generalize (((((w.alloc (.cells ccs.toArray 43))).alloc (.cells #[.int .i64 0,.int .u64 0,.int .i64 0,.bool false,.slice none 0 0,.slice none 0 0,.int .i64 0,.int .i64 0,.slice none 0 0,.slice none 0 0,.int .i64 0,.int .i64 0,.slice none 0 0,.int .i64 0,.slice none 0 0] 55))).setCell ⟨g,7,none⟩ (.int .u64 (R.begun+1)))=w3 at *
 have kd:Keep Nix w3 w3.drew:=(Keep.refl Nix _).drew
 have HSS:Hid (∀w',Keep Nix w3 w'→w'.cell? ⟨g,7,none⟩=some (.int .u64 (R.begun+1))):=fun w' k=>by
  have r1:=HX.out.keep k id
  simpa using r1.cell 7
 refine wp_region_held_drew (S:=(fun w'=>w'.cell? ⟨g,7,none⟩=some (.int .u64 (R.begun+1)))) (by kernel_rfl) (HSS.out _ kd) (fun jaa=>?_)
 have HSS:=Lib.hid (fun w' (k:Keep Nix (w3).drew w')=>HSS.out w' (kd.trans k))
 have HZ:=Lib.hid (HZ.out.keep kd id)
 have HH:=Lib.hid (HH.out.nix kd)
 have K3:=Lib.hid (K3.out.then kd (fun _ _ h=>h.elim))
 have hs3:Hid (w.heap.size+1+1≤w3.drew.heap.size):=Nat.le_trans hs3.out kd.size
 clear kd HX
 generalize w3.drew=w4 at *
 refine tk 0 rfl jaa ?_
 refine tk 1 rfl jaa ?_
 refine tk 2 rfl jaa ?_
 refine tk 3 rfl jaa ?_
 refine tk 4 rfl jaa ?_
 refine tk 6 rfl jaa ?_
 have HC:=Lib.hid (jdu O g n (bump R) w4 HH.out)
 refine wpAnyH_ready (rs:=[5]) (by kernel_rfl) (by simp) ?_
 refine AllReadyH.cons rfl (fun K hK=>?_) AllReadyH.nil
 try simp only[zz1,zz2,zz3]
 go_simp
 go_fit HC.out
 rintro e w5 ⟨cn,rfl,rn,k5⟩
 clear HC
 go_wp2_with fail
 refine hK.out _ _ ((HSS.out _ k5)) (fun jaa=>?_)
 clear hK K
 try simp only[Act.put,zz1,zz2,zz3,zz4,zz5,zz6]
 replace rn:jat w5 _ cn (jah R):=rn
 have HN:=Lib.hid rn
 obtain⟨aT,cT,aI,cI,rfl,-⟩:=jau rn
 have HC:=Lib.hid (jfa O g n (bump R) w5 (HH.out.nix k5))
 clear rn
 refine wpAnyH_ready (rs:=[7]) (by kernel_rfl) (by simp) ?_
 refine AllReadyH.cons rfl (fun K hK=>?_) AllReadyH.nil
 try simp only[zz1,zz2,zz3]
 go_simp
 go_fit HC.out
 rintro e w6 ⟨cr,rfl,rr,k6⟩
 clear HC
 go_wp2_with fail
 refine hK.out _ _ ((HSS.out _ (k5.trans k6))) (fun jaa=>?_)
 clear hK K
 try simp only[Act.put,zz1,zz2,zz3,zz4,zz5,zz6]
 replace rr:jaz w6 _ cr R.routes:=rr
 have HR:=Lib.hid rr
 obtain⟨aP,cP,aV,cV,rfl,-⟩:=jav rr
 clear rr
 refine tk 8 rfl jaa ?_
 have rowZ:=(HZ.out.keep k5 id).keep k6 id
 have hst:=jaf (P:=Tryz.prog) (cs:=[.int .i64 0,.int .u64 (R.begun+1),.int .i64 0,.bool false,.slice none 0 0,.slice none 0 0,.int .i64 (jah R).fVersion,.int .i64 (jah R).fNext,.slice aT (jah R).fTables.length cT,.slice aI (jah R).fIndexes.length cI,.int .i64 R.routes.fEpoch,.int .i64 R.routes.fBase,.slice aP R.routes.fSpans.length cP,.int .i64 R.routes.fMoving,.slice aV R.routes.fCut.length cV]) S_Reply rowZ rfl rfl rfl
 have kS:Keep (·=w.heap.size+1) w6 (w6.setRow (w.heap.size+1) #[.int .i64 0,.int .u64 (R.begun+1),.int .i64 0,.bool false,.slice none 0 0,.slice none 0 0,.int .i64 (jah R).fVersion,.int .i64 (jah R).fNext,.slice aT (jah R).fTables.length cT,.slice aI (jah R).fIndexes.length cI,.int .i64 R.routes.fEpoch,.int .i64 R.routes.fBase,.slice aP R.routes.fSpans.length cP,.int .i64 R.routes.fMoving,.slice aV R.routes.fCut.length cV]):=(Keep.refl (·=w.heap.size+1) w6).setRow (fun _=>rfl) _
 have HZR:=Lib.hid (rowZ.setRow [.int .i64 0,.int .u64 (R.begun+1),.int .i64 0,.bool false,.slice none 0 0,.slice none 0 0,.int .i64 (jah R).fVersion,.int .i64 (jah R).fNext,.slice aT (jah R).fTables.length cT,.slice aI (jah R).fIndexes.length cI,.int .i64 R.routes.fEpoch,.int .i64 R.routes.fBase,.slice aP R.routes.fSpans.length cP,.int .i64 R.routes.fMoving,.slice aV R.routes.fCut.length cV])
 have HKS:=Lib.hid kS
 clear kS rowZ
 refine wpAnyH_ready (rs:=[9]) (by kernel_rfl) (by simp) ?_
 refine AllReadyH.cons rfl (fun K hK=>?_) AllReadyH.nil
 try simp only[zz1,zz2,zz3]
 go_simp
 have h1:=hs3.out
 have h2:=k5.size
 have h3:=k6.size
 refine hK.out _ _ (((HKS.out.cell (by show g<_;omega) (by show ¬g=_;omega)).trans (HSS.out _ (k5.trans k6)))) (fun jaa=>?_)
 clear hK K
 try simp only[Act.put,zz1,zz2,zz3,zz4,zz5,zz6]
 refine wpAnyH_done (by kernel_rfl) ?_ _
 clear jaa hst
 go_wp2_with fail
 refine bodyPost_ret (results_cell_row (by rfl) _ _ _ _ _ _ _ (by rfl) HZR.out Tryz.underlying55 (by rfl) hinfo) rfl ?_
 have h1:=hs3.out
 have h2:=k5.size
 have h3:=k6.size
 have h4:=HKS.out.size
 have rn:=rGCatalog_lawful.keep (rGCatalog_lawful.nix HN.out k6) HKS.out (fun b hb e=>by have:=hb.1;omega)
 have rr:=rGRoutes_lawful.keep HR.out HKS.out (fun b hb e=>by have:=hb.1;omega)
 have hu:jaw (R.begun+1):=HH.out.ok.u64
 have i0:jae 0:=⟨by decide,by decide⟩
 refine⟨[.int .i64 0,.int .u64 (R.begun+1),.int .i64 0,.bool false,.slice none 0 0,.slice none 0 0,.int .i64 (jah R).fVersion,.int .i64 (jah R).fNext,.slice aT (jah R).fTables.length cT,.slice aI (jah R).fIndexes.length cI,.int .i64 R.routes.fEpoch,.int .i64 R.routes.fBase,.slice aP R.routes.fSpans.length cP,.int .i64 R.routes.fMoving,.slice aV R.routes.fCut.length cV],O,fun b=>w4.heap.size≤b∧b<(w6.setRow (w.heap.size+1) #[.int .i64 0,.int .u64 (R.begun+1),.int .i64 0,.bool false,.slice none 0 0,.slice none 0 0,.int .i64 (jah R).fVersion,.int .i64 (jah R).fNext,.slice aT (jah R).fTables.length cT,.slice aI (jah R).fIndexes.length cI,.int .i64 R.routes.fEpoch,.int .i64 R.routes.fBase,.slice aP R.routes.fSpans.length cP,.int .i64 R.routes.fMoving,.slice aV R.routes.fCut.length cV]).heap.size,rfl,jd8 _ _ (x:=repL (R.begun+1) 0 (jah R) R.routes) i0 hu i0 (jbW _ _) (jbW _ _) (rGCatalog_lawful.mono rn (fun b hb=>⟨hb.1,by have:=hb.2;omega⟩)) (rGRoutes_lawful.mono rr (fun b hb=>⟨by have:=hb.1;omega,by have:=hb.2;omega⟩)),fun b hb=>⟨by have:=hb.1;omega,hb.2,fun ho=>by have:=H0.out b ho;have:=hb.1;omega⟩,((HH.out.nix (k5.trans k6)).keep HKS.out (fun b hb e=>by have:=H0.out b hb;omega)).more (Nat.le_succ n),fun b h=>.inl h,fun b h=>h,?_⟩
 exact((K3.out.mono (fun b hb=>by rw[hb];exact og)).then (k5.trans k6) (fun _ _ h=>h.elim)).then HKS.out (fun i hi e=>by omega)
end
end
section
theorem IsRoot.last{w:World}{O:Nat→Prop}{g n:Nat}{R:RootS}(H:IsRoot w O g n R):(jah R).fVersion+1=(R.cats.length:Int):=by
 have hpos:0<R.cats.length:=List.length_pos_iff.2 H.ok.ex
 obtain⟨m,hm⟩:∃m,R.cats.length=m+1:=⟨R.cats.length - 1,by omega⟩
 have hmlt:m<R.cats.length:=by omega
 have hlast:jah R=R.cats[m]:=by
  unfold jah
  rw[List.getLast?_eq_getElem?,hm,Nat.add_sub_cancel,List.getElem?_eq_getElem hmlt]
  rfl
 have:=H.ok.ver m _ (List.getElem?_eq_getElem hmlt)
 rw[hlast,this,hm]
 omega
def jfn(R:RootS)(x:Int)(f:Bool):Bool:=f && (decide (x=(jah R).fVersion) || decide (x=(jah R).fVersion - 1))
theorem RunPost.stored{w w3 w4:World}{O O' R':Nat→Prop}{g n b0:Nat}{y:GReply×RootS}{cs:List Value}(k:Keep Nix w w3)(hO:∀b,O b→b<w.heap.size)(hb0:w.heap.size≤b0)(hb1:b0<w3.heap.size)
  (hr:jc4 w4 R' cs y.1) (hR:∀b,R' b→w3.heap.size≤b∧b<w4.heap.size∧¬O' b) (H4:IsRoot w4 O' g (n+1) y.2) (h5:∀b,O' b→O b∨w3.heap.size≤b) (h6:∀b,O b→O' b) (k4:Keep O w3 w4) :
  RunPost w O g n y (.returned (.agg cs.toArray)) (w4.setRow b0 cs.toArray):=by
 have kS:Keep (·=b0) w4 (w4.setRow b0 cs.toArray):=(Keep.refl (·=b0) w4).setRow (fun _=>rfl) _
 have h1:=k.size
 have h2:=k4.size
 have h3:=kS.size
 refine⟨cs,O',R',rfl,rGReply_lawful.keep hr kS (fun b hb e=>by have:=(hR b hb).1;omega),fun b hb=>⟨by have:=(hR b hb).1;omega,by have:=(hR b hb).2.1;omega,(hR b hb).2.2⟩,H4.keep kS (fun b hb e=>?_),fun b hb=>(h5 b hb).imp id (fun h=>by omega),h6,((k.nix (S:=O)).then k4 (fun _ _ h=>h)).then kS (fun i hi e=>by omega)⟩
 rcases h5 b hb with h | h
 ·have:=hO b h;omega
 ·omega
theorem jpc(v:Int)(a b c:Value)(w:World):(Instr.field 50 (.agg #[.int .i64 v,a,b,c]) 0).run Tryz.prog w=.ok (.int .i64 v) w:=by kernel_rfl
section
attribute [local go_sem ↓] jct
attribute [local go_sem] jpc
theorem jhH(O:Nat→Prop)(g n:Nat)(R:RootS)(ccs:List Value)(txn x:Int)(f:Bool)(w:World)(H:IsRoot w O g n R)(hk:ccs[0]?=some (.int .i64 12))(hk2:ccs[2]?=some (.int .u64 txn))(hk3:ccs[3]?=some (.int .i64 x))(hk6:ccs[6]?=some (.bool f))(hn:n<1000000)(ht:jaw txn)(ho:R.order.length≤90000) :
  Calls Tryz.prog 9 #[.pointer (some ⟨g,0,none⟩),.agg ccs.toArray] w (RunPost w O g n (repG (jaB R txn (jfn R x f)).1 0 (jaB R txn (jfn R x f)).2.1,(jaB R txn (jfn R x f)).2.2)):=by
 have hinfo:(Tryz.prog.info? 55).map (·.size)=some 15:=by kernel_rfl
 have H0:=Lib.hid H.lt
 have hlast:=H.last
 have hlen:=H.ok.len.1
 have hpos:0<R.cats.length:=List.length_pos_iff.2 H.ok.ex
 have kB:=lf0 w ccs
 have row0:=lf1 w ccs
 have rowZ:=lf2 w ccs
 have x0:((((w.alloc (.cells ccs.toArray 43))).alloc (.cells #[.int .i64 0,.int .u64 0,.int .i64 0,.bool false,.slice none 0 0,.slice none 0 0,.int .i64 0,.int .i64 0,.slice none 0 0,.slice none 0 0,.int .i64 0,.int .i64 0,.slice none 0 0,.int .i64 0,.slice none 0 0] 55))).cell? ⟨w.heap.size,0,none⟩=some (.int .i64 12):=(row0.cell 0).trans hk
 have HZ:=Lib.hid rowZ
 have HR0:=Lib.hid row0
 have HK:=Lib.hid hk2
 have HK3:=Lib.hid hk3
 have HK6:=Lib.hid hk6
 have hsz:=lf3 w ccs
 have HC:=Lib.hid (jdu O g n R (((w.alloc (.cells ccs.toArray 43))).alloc (.cells #[.int .i64 0,.int .u64 0,.int .i64 0,.bool false,.slice none 0 0,.slice none 0 0,.int .i64 0,.int .i64 0,.slice none 0 0,.slice none 0 0,.int .i64 0,.int .i64 0,.slice none 0 0,.int .i64 0,.slice none 0 0] 55)) (H.nix kB))
 have H2:=Lib.hid (H.nix kB)
 clear rowZ row0 hk hk2 hk3 hk6 H
 go_enter Tryz.func9,Tryz.ntmps9
 go_wp2_with fail
 go_fit HC.out
 rintro e w3 ⟨cn,rfl,rn,k3⟩
 clear HC x0
 have row0:=HR0.out.keep k3 id
 have HZ:=Lib.hid (HZ.out.keep k3 id)
 have H3:=Lib.hid (H2.out.nix k3)
 have K3:=Lib.hid (kB.trans k3)
 have hlt3:Hid (w.heap.size+1<w3.heap.size):=by show _<_;have:=k3.size;have:=hsz.out;omega
 obtain⟨aT,cT,aI,cI,rfl,-⟩:=jau rn
 have x2:w3.cell? ⟨w.heap.size,2,none⟩=some (.int .u64 txn):=(row0.cell 2).trans HK.out
 have x3:w3.cell? ⟨w.heap.size,3,none⟩=some (.int .i64 x):=(row0.cell 3).trans HK3.out
 have x6:w3.cell? ⟨w.heap.size,6,none⟩=some (.bool f):=(row0.cell 6).trans HK6.out
 clear HR0 row0 rn k3 kB
 obtain⟨Y,hY⟩:∃Y,Hid (jaB R txn (jfn R x f)=Y):=⟨_,rfl⟩
 have hG:Hid (jfn R x f=(f && (decide (x=(jah R).fVersion) || decide (x=(jah R).fVersion - 1)))):=rfl
 generalize jfn R x f=q at *
 have hw:IntKind.i64.wrap ((jah R).fVersion - 1)=(jah R).fVersion - 1:=by rw[IntKind.wrap_i64];omega
 generalize (jah R).fVersion=v at *
 clear hlast
 cases f
 focus
  have e:q=false:=by rw[hG.out];rfl
  subst e
  have HC:=Lib.hid (jeO O g n R txn false w3 H3.out hn ht ho)
  refine ?h1a
 rotate_left
 focus
  by_cases hx:x=v
  focus
   have e:q=true:=by rw[hG.out];simp[hx]
   subst e
   have q1:(x == v)=true:=by simp[hx]
   clear hx
   have HC:=Lib.hid (jeO O g n R txn true w3 H3.out hn ht ho)
   refine ?h1b
  rotate_left
  focus
   have q1:(x == v)=false:=by simp[hx]
   by_cases hx2:x=v - 1
   focus
    have e:q=true:=by rw[hG.out];simp[hx2]
    subst e
    have q2:(x == v - 1)=true:=by simp[hx2]
    clear hx hx2
    have HC:=Lib.hid (jeO O g n R txn true w3 H3.out hn ht ho)
    refine ?h1c
   rotate_left
   focus
    have e:q=false:=by rw[hG.out];simp[hx,hx2]
    subst e
    have q2:(x == v - 1)=false:=by simp[hx2]
    clear hx hx2
    have HC:=Lib.hid (jeO O g n R txn false w3 H3.out hn ht ho)
    refine ?h1d
   rotate_left
  rotate_left 2
 rotate_left 3
 case h1a | h1b | h1c | h1d=>
  rw[hY.out]at HC
  go_wp2_with fail
  go_fit HC.out
  rintro e w4 ⟨cs,O',R',rfl,hr,hR,H4,h5,h6,k4⟩
  have rowZ4:=HZ.out.keep k4 (fun h=>by have:=H0.out _ h;omega)
  have hst:=jaf (P:=Tryz.prog) (cs:=cs) S_Reply rowZ4 rfl (rGReply_lawful.len hr) (jcU hr)
  have HZR:=Lib.hid (rowZ4.setRow cs)
  have HR:=Lib.hid hr
  have HRR:=Lib.hid hR
  have H4':=Lib.hid H4
  have H5:=Lib.hid h5
  have H6:=Lib.hid h6
  have K4:=Lib.hid k4
  clear hr hR H4 h5 h6 k4 rowZ4 HC
  go_wp2_with fail
  refine bodyPost_ret (results_cell_row (by rfl) _ _ _ _ _ _ _ (by rfl) HZR.out Tryz.underlying55 (by rfl) (hinfo.trans (by rw[List.size_toArray,rGReply_lawful.len HR.out]))) rfl ?_
  rw[hY.out]
  exact RunPost.stored K3.out H0.out (by omega) hlt3.out HR.out HRR.out H4'.out H5.out H6.out K4.out
end
end
theorem jj0{P:Program}{t e sz bytes:Nat}(T:SliceT P t e sz bytes){w:World}{cs:List Value}(t' ty:TypeId)(base:Nat){v:Value}{n:Nat}{xs:List Value}(hown:w.ownsRow base e sz v n xs)(hl:cs.length=sz)(h1:ones cs=true)
  (h63:n+1≤maxLen) (hbytes:(n+1)*bytes≤140737488355328) (hbase:base≤w.heap.size) :
  ∃a' cap' w',(Builtin.append_ #[t,t] ty #[v,.slice (some ⟨w.heap.size,0,none⟩) 1 1]).run P (w.alloc (.cells cs.toArray t'))=.ok (.slice a' (n+1) cap') w'∧w'.ownsRow base e sz (.slice a' (n+1) cap') (n+1) (xs ++ cs)∧Keep (OwnB v) w w'∧(∀b,OwnB (.slice a' (n+1) cap') b→OwnB v b∨w.heap.size≤b):=by
 obtain⟨i,z,hi,hz,hsz,hby,hzs⟩:=T.info
 obtain⟨v',w',hrun,hown',hg,-,hf⟩:=run_append_own_at (P:=P) (w.alloc (.cells cs.toArray t')) base t ty e i z sz bytes T.under hi hz hsz hby hzs T.pos v n xs (hown.alloc _) ⟨w.heap.size,0,none⟩ 1 1 cs (by omega) (fun j u hu=>by
   rw[Addr.add_lit,World.cell?_alloc_at _ _ _ _ rfl,Nat.zero_add];simpa using hu) (fun u hu=>List.all_eq_true.1 h1 u hu) h63 hbytes (by simp;omega)
 obtain⟨a',cap',rfl⟩:=jdn hown'
 refine⟨a',cap',w',hrun,hown',((Keep.refl _ w).alloc _).grown hg (fun _ hk _=>hk),fun b hb=>?_⟩
 rcases hf with h | h
 ·have hb':(Value.slice a' (n+1) cap').ownBlock=some b:=hb
  exact .inl (h.symm.trans hb')
 ·right
  have hb':(Value.slice a' (n+1) cap').ownBlock=some b:=hb
  rw[h]at hb'
  simp at hb'
  omega
theorem jdk{P:Program}{t e sz bytes:Nat}(T:SliceT P t e sz bytes){ops:Array Oper}{o:Oper}{a:Act}{K:Act→World→Prop}{Q:Exit→Act→World→Prop}{E:Prop}{w:World}{cs:List Value}{t':TypeId}(hgd:o.guard=none)(s x:Operand)
  (ho:o.op=.call {callee:=.builtin .append,args:=#[s,x],argTypes:=#[t,t]})
  (base:Nat) {v:Value} {n:Nat} {xs:List Value} (hs:a.eval s=v) (hx:a.eval x=.slice (some ⟨w.heap.size,0,none⟩) 1 1) (hown:w.ownsRow base e sz v n xs) (hl:cs.length=sz) (h1:ones cs=true)
  (h63:n+1≤maxLen) (hbytes:(n+1)*bytes≤140737488355328) (hbase:base≤w.heap.size)
  (h:∀a' cap' w',w'.ownsRow base e sz (.slice a' (n+1) cap') (n+1) (xs ++ cs)→Keep (OwnB v) w w'→(∀b,OwnB (.slice a' (n+1) cap') b→OwnB v b∨w.heap.size≤b)→K (a.put o.dst (.slice a' (n+1) cap')) w') :
  if Region.wanted o (yielded ops a.tmps)=true then Oper.wp P o a (w.alloc (.cells cs.toArray t')) K Q else E:=by
 rw[if_pos (by simp[Region.wanted,hgd])]
 obtain⟨a',cap',w',hrun,h2,h3,h4⟩:=jj0 T t' o.type base hown hl h1 h63 hbytes hbase
 unfold Oper.wp
 simp only[execOp,ho,resolve,invoke,builtin,List.map_toArray,List.map_cons,List.map_nil,hs,hx,hrun,Sem.run_bind,Sem.run_pure,Result.andThen_ok]
 exact h _ _ _ h2 h3 h4
theorem RootAt.turnC{w wf:World}{O O' Pn:Nat→Prop}{g n:Nat}{R:RootS}{bM cC cO cS cU cC':Nat}{aC aO aS aU aC':Option Addr}{cssC:List (List Value)}{D:DataW Value}{cy:List Value}{c:GCatalog}
  (B:RootAt w O g n R bM aC cC aO cO aS cS aU cU cssC D) (og:O g) (hO:∀b,O b→O' b) (k:Keep (fun b=>b=g∨OwnB (.slice aC R.cats.length cC) b∨¬O b) w wf)
  (row:RowIs wf g 79 [.int .i64 R.spare,.slice aC' (R.cats.length+1) cC',.int .i64 R.routes.fEpoch,.int .i64 R.routes.fBase,.slice aS R.routes.fSpans.length cS,.int .i64 R.routes.fMoving,.slice aU R.routes.fCut.length cU,.int .u64 R.begun,.map (some bM),.slice aO R.order.length cO])
  (own:wf.ownsRow 0 50 4 (.slice aC' (R.cats.length+1) cC') (R.cats.length+1) (cssC.flatten ++ cy)) (hv:∀b,OwnB (.slice aC' (R.cats.length+1) cC') b→OwnB (.slice aC R.cats.length cC) b∨(¬O b∧O' b))
  (hcy:jat wf Pn cy c) (hPn:∀b,Pn b→¬O b∧O' b∧¬OwnB (.slice aC' (R.cats.length+1) cC') b) :
  RootAt wf O' g n ⟨R.spare,R.cats ++ [c],R.routes,R.begun,R.dec,R.order⟩ bM aC' cC' aO cO aS cS aU cU (cssC ++ [cy]) D:=by
 have hl:(R.cats ++ [c]).length=R.cats.length+1:=by simp
 have hdeep:∀b,Deep O g bM (.slice aC R.cats.length cC) (.slice aO R.order.length cO) b→¬(b=g∨OwnB (.slice aC R.cats.length cC) b∨¬O b):=fun b hb h=>by
  rcases h with h | h | h
  ·exact hb.2.1 h
  ·exact hb.2.2.2.1 h
  ·exact h hb.1
 have hdeep2:∀b,Deep O g bM (.slice aC R.cats.length cC) (.slice aO R.order.length cO) b→Deep O' g bM (.slice aC' (R.cats.length+1) cC') (.slice aO R.order.length cO) b:=fun b hb=>
  ⟨hO b hb.1,hb.2.1,hb.2.2.1,fun h=>by
   rcases hv b h with h | h
   ·exact hb.2.2.2.1 h
   ·exact h.1 hb.1,hb.2.2.2.2⟩
 have hnew:∀b,Pn b→Deep O' g bM (.slice aC' (R.cats.length+1) cC') (.slice aO R.order.length cO) b:=fun b hb=>by
  have h:=hPn b hb
  exact⟨h.2.1,fun e=>h.1 (e ▸ og),fun e=>h.1 (e ▸ B.oM),h.2.2,fun ho=>h.1 (B.oO b ho).1⟩
 have els0:=(B.els.keep rGCatalog_lawful k hdeep).mono rGCatalog_lawful hdeep2
 refine⟨by rw[hl];exact row,hO _ B.oM,B.ne,fun b hb=>?_,fun b hb=>⟨hO b (B.oO b hb).1,(B.oO b hb).2⟩,fun b hb h=>?_,by rw[hl,List.flatten_append];simpa using own,?_,?_,jad B.rowO k (fun b hb h=>?_),B.dec.keep k (fun h=>?_)⟩
 ·rw[hl]at hb
  rcases hv b hb with h | h
  ·exact⟨hO b (B.oC b h).1,(B.oC b h).2⟩
  ·exact⟨h.2,fun e=>h.1 (e ▸ og),fun e=>h.1 (e ▸ B.oM)⟩
 ·rw[hl]at hb
  rcases hv b hb with h1 | h1
  ·exact B.co b h1 h
  ·exact h1.1 (B.oO b h).1
 ·rw[hl]
  refine⟨by rw[List.length_append,List.length_append,els0.1];rfl,fun i d x hd hx=>?_⟩
  by_cases hi:i<cssC.length
  ·rw[List.getElem?_append_left hi]at hd
   have hi':i<R.cats.length:=by rw[←els0.1];exact hi
   have hx':(R.cats ++ [c])[i]?=some x:=hx
   rw[List.getElem?_append_left hi']at hx'
   exact els0.2 i d x hd hx'
  ·have hx':(R.cats ++ [c])[i]?=some x:=hx
   have he:=els0.1
   have hi2:i=cssC.length:=by
    have:=(List.getElem?_eq_some_iff.1 hd).1
    rw[List.length_append,List.length_singleton]at this
    omega
   rw[hi2,List.getElem?_append_right (Nat.le_refl _),Nat.sub_self]at hd
   rw[hi2,he,List.getElem?_append_right (Nat.le_refl _),Nat.sub_self]at hx'
   cases hd
   cases hx'
   exact rGCatalog_lawful.mono hcy hnew
 ·rw[hl]
  exact rGRoutes_lawful.mono (rGRoutes_lawful.keep B.rts k hdeep) hdeep2
 ·have:=B.oO b hb
  rcases h with h | h | h
  ·exact this.2.1 h
  ·exact B.co b h hb
  ·exact h this.1
 ·rcases h with h | h | h
  ·exact B.ne h
  ·exact(B.oC bM h).2.2 rfl
  ·exact h B.oM
def addC(R:RootS)(c:GCatalog):RootS:=⟨R.spare,R.cats ++ [c],R.routes,R.begun,R.dec,R.order⟩
def jbs(R:RootS)(id:Int)(y:GCatalog×Int):GReply×RootS:=if y.2=0 then(repG 0 id y.1.fVersion,addC R y.1) else(repG y.2 0 0,R)
theorem okC{R:RootS}(ok:RootOk R){c:GCatalog}(hl:R.cats.length≤90000)(hs:jb4 c)(hv:c.fVersion=(jah R).fVersion+1)(hlast:(jah R).fVersion+1=(R.cats.length:Int)):RootOk (addC R c):=by
 have h100:=ok.len
 refine⟨by simp[addC],⟨by show(R.cats ++ [c]).length≤_;rw[List.length_append,List.length_singleton];omega,h100.2⟩,fun d hd=>?_,fun i d hd=>?_,ok.spans,ok.u64,ok.place⟩
 ·rcases List.mem_append.1 hd with h | h
  ·exact ok.small d h
  ·have:d=c:=by simpa using h
   subst this
   exact⟨hs,by omega⟩
 ·have hd':(R.cats ++ [c])[i]?=some d:=hd
  by_cases hi:i<R.cats.length
  ·rw[List.getElem?_append_left hi]at hd'
   exact ok.ver i d hd'
  ·have hi2:i=R.cats.length:=by
    have:=(List.getElem?_eq_some_iff.1 hd').1
    rw[List.length_append,List.length_singleton]at this
    omega
   rw[hi2,List.getElem?_append_right (Nat.le_refl _),Nat.sub_self]at hd'
   cases hd'
   omega
end Go.Proofs.YtibaehlfpgipfaaGreat
