/- ROOT: Load. Printed by mac.py. -/
import Derived.Test.YtibaehlfpgipfaaGreatQZG49
import Derived.Test.YtibaehlfpgipfaaGreatQZG19
import Derived.Test.YtibaehlfpgipfaaGreatQZG46
import Derived.Test.YtibaehlfpgipfaaGreatQZG23
namespace Go.Proofs.YtibaehlfpgipfaaGreat
open Go.RowKit
set_option linter.unusedSimpArgs false
section
def jjt(w:World)(O:Nat→Prop)(g:Nat)(l:List UInt8)(e:Ending)(w':World):Prop:=
 (e=.returned (.bool false)∧(∀R',¬jjl l R')∧Keep Nix w w')∨
 ∃(R':RootS) (O':Nat→Prop) (n':Nat),e=.returned (.bool true)∧jjl l R'∧IsRoot w' O' g n' R'∧SaveOk R' n'∧(∀b,O' b→O b∨w.heap.size≤b)∧Keep O w w'
theorem jcS{w w':World}{O:Nat→Prop}{g:Nat}{l:List UInt8}(h:jbr l=none)(k:Keep Nix w w'):jjt w O g l (.returned (.bool false)) w':=
 .inl ⟨rfl,fun R' hT=>(by have:=hT.1;rw[h]at this;cases this),k⟩
theorem jlv{P:Program}{T T' n b:Nat}{w:World}{pre mid post:List Value}(S:StructT P T n)(row:RowIs w b T' (pre ++ (mid ++ post)))(hn:mid.length=n):Whole P w T b pre.length mid:=Whole.at S hn (fun j u hu=>by
 rw[row.cell,List.getElem?_append_right (by omega),Nat.add_sub_cancel_left,List.getElem?_append_left (List.getElem?_eq_some_iff.1 hu).1];exact hu)
theorem jmQ{PL:List (Int×Int)}{j:Nat}{u:Int}(h:jbp PL ((j:Int)+1)=some u):ordL PL (j+1)=ordL PL j ++ [u]:=by
 unfold ordL;rw[List.range_succ,List.map_append];simp[h]
section
attribute [local go_sem ↓] jct jbC jhP joh joG
set_option maxRecDepth 100000 in
set_option maxHeartbeats 8000000 in
theorem jmH{p:Nat→Prop}(O:Nat→Prop)(g n:Nat)(R:RootS)(a:Option Addr)(nn ca:Nat)(l:List UInt8)(w:World)(H:IsRoot w O g n R)(hn:l.length=nn)(ha:Lies w p a (l.map bv))(hr:nn≤900000)(hN:∀R',jbr l=some R'→R'.cats.length≤5000∧R'.order.length≤100000) :
  Calls Tryz.prog 16 #[.pointer (some ⟨g,0,none⟩),.slice a nn ca] w (jjt w O g l):=by
 subst hn
 have HN:=Lib.hid (jju a l.length ca l w rfl ha (by omega))
 have hmm:=@run_makeMap Tryz.prog
 have HH:=Lib.hid H
 have HNN:=Lib.hid hN
 have hgw:=H.lt g H.og
 have HA:=Lib.hid ha
 clear ha H hN
 go_enter Tryz.func16,Tryz.ntmps16
 go_wp2_with fail
 go_fit HN.out
 rintro e w1 ⟨r,rfl,hr1,rd1,k1⟩
 have hr2:=rd1.lt
 have hz1:=k1.size
 have rd1:=(rd1.tight).mono (q:=fun b=>w.heap.size≤b∧b<w1.heap.size∧b≠r) (fun b hb=>⟨hb.1.1,hb.2,hb.1.2⟩) (fun h=>h.2.2 rfl)
 have HC:=jci r _ _ w1 rd1 4 ⟨by decide,by decide⟩
 replace HC:Calls Tryz.prog 43 #[.pointer (some ⟨r,0,none⟩),.int .i64 4] w1 fun e w'=>e=.returned (.int .i64 (numS 4 ⟨l,0,0,[]⟩).1)∧IsRd w' 151 r (fun b=>w.heap.size≤b∧b<w1.heap.size∧b≠r) (numS 4 ⟨l,0,0,[]⟩).2∧Keep (·=r) w1 w':=HC
 have hv4:=jcc 4 ⟨l,0,0,[]⟩
 obtain⟨v,s1,hs1⟩:∃v s1,Hid (numS 4 ⟨l,0,0,[]⟩=(v,s1)):=⟨_,_,rfl⟩
 have hB1:Hid (s1.B=l):=by show _=_;have:=jcT 4 ⟨l,0,0,[]⟩;rw[hs1.out]at this;exact this
 rw[hs1.out]at HC hv4
 replace HC:=Lib.hid HC
 replace hv4:v≤4:=hv4
 have K1:=Lib.hid k1
 clear HN rd1 k1
 go_wp2_with fail
 go_fit HC.out
 rintro e w2 ⟨rfl,rd2,k2⟩
 clear HC
 have hz2:=k2.size
 have kA:Keep Nix w2 ((w2.alloc (.map #[] 0)).alloc (.cells #[.int .i64 (v:Int),.slice none 0 0,.int .i64 0,.int .i64 0,.slice none 0 0,.int .i64 0,.slice none 0 0,.int .u64 0,.map (some w2.heap.size),.slice none 0 0] 79)):=((Keep.refl Nix w2).alloc _).alloc _
 have rowY:RowIs ((w2.alloc (.map #[] 0)).alloc (.cells #[.int .i64 (v:Int),.slice none 0 0,.int .i64 0,.int .i64 0,.slice none 0 0,.int .i64 0,.slice none 0 0,.int .u64 0,.map (some w2.heap.size),.slice none 0 0] 79)) (w2.heap.size+1) 79 [.int .i64 (v:Int),.slice none 0 0,.int .i64 0,.int .i64 0,.slice none 0 0,.int .i64 0,.slice none 0 0,.int .u64 0,.map (some w2.heap.size),.slice none 0 0]:=RowIs.alloc_at (w2.alloc (.map #[] 0)) _ (by simp) _ _
 have dec0:=(DecIs.made w2).keep ((Keep.refl Nix (w2.alloc (.map #[] 0))).alloc (.cells #[.int .i64 (v:Int),.slice none 0 0,.int .i64 0,.int .i64 0,.slice none 0 0,.int .i64 0,.slice none 0 0,.int .u64 0,.map (some w2.heap.size),.slice none 0 0] 79)) id
 have rdA:=rd2.nix kA
 have hzA:((w2.alloc (.map #[] 0)).alloc (.cells #[.int .i64 (v:Int),.slice none 0 0,.int .i64 0,.int .i64 0,.slice none 0 0,.int .i64 0,.slice none 0 0,.int .u64 0,.map (some w2.heap.size),.slice none 0 0] 79)).heap.size=w2.heap.size+2:=by simp
 have KA:=Lib.hid ((K1.out.then k2 (fun i hi (e:i=r)=>by omega)).trans kA)
 clear k2 kA rd2 K1
 go_wp2_with fail
 generalize (w2.alloc (.map #[] 0)).alloc (.cells #[.int .i64 (v:Int),.slice none 0 0,.int .i64 0,.int .i64 0,.slice none 0 0,.int .i64 0,.slice none 0 0,.int .u64 0,.map (some w2.heap.size),.slice none 0 0] 79)=wA at *
 obtain⟨bM,hbM⟩:∃b,b=w2.heap.size:=⟨_,rfl⟩
 have HC:=jhV r _ s1 wA rdA 1073741824 ⟨by decide,by decide⟩
 replace HC:Calls Tryz.prog 45 #[.pointer (some ⟨r,0,none⟩),.int .i64 1073741824] wA fun e w'=>∃a' cap',e=.returned (.slice a' (ja4 M30 s1).1.length cap')∧w'.ownsRow wA.heap.size 5 1 (.slice a' (ja4 M30 s1).1.length cap') (ja4 M30 s1).1.length ((ja4 M30 s1).1.map bv)∧IsRd w' 151 r (fun b=>w.heap.size≤b∧b<w1.heap.size∧b≠r) (ja4 M30 s1).2∧Keep (·=r) wA w':=HC
 have htl:=jdU M30 s1
 obtain⟨t,s2,ht⟩:∃t s2,Hid (ja4 M30 s1=(t,s2)):=⟨_,_,rfl⟩
 have hB2:Hid (s2.B=l):=by show _=_;have:=jf6 M30 s1;rw[ht.out]at this;exact this.trans hB1.out
 rw[ht.out]at HC htl
 replace HC:=Lib.hid HC
 replace htl:t.length≤1073741824:=htl
 have hF0:Hid (jbr l=stB v t s2):=by
  show _=_
  unfold jbr
  rw[hs1.out]
  simp only
  rw[ht.out]
 clear hs1 ht rdA
 go_wp2_with fail
 go_fit HC.out
 rintro e w3 ⟨a3,c3,rfl,own3,rd3,k3⟩
 have HT:=jkr a3 t.length c3 t w3 rfl (Lies.of_owned own3) (by omega)
 obtain⟨o,ec,ho⟩:∃o ec,Hid (jcP jbE jc5 t=(o,ec)):=⟨_,_,rfl⟩
 rw[ho.out]at HT
 replace HT:=Lib.hid HT
 have RD3:=Lib.hid rd3
 have K3:=Lib.hid k3
 have hz3:=k3.size
 clear HC own3 rd3 k3
 go_wp2_with fail
 go_fit HT.out
 rintro e w4 ⟨cs,rfl,hw,hones,k4⟩
 have hg:jc4 w4 (jai w3 w4) cs o:=jmf hw
 obtain⟨aP,cP,aQ,cQ,aT,cT,aX,cX,aS,cS,aU,cU,rfl,-,-,-,-,-,-,hG,-⟩:=jee hg
 obtain⟨G,hGe⟩:∃G,o.fRoutes=G:=⟨_,rfl⟩
 have hF1:Hid (jbr l=if ec≠0∨jcA G=false∨(v:Int)<1 then none else stC v G s2):=by
  show _=_
  rw[hF0.out]
  unfold stB
  rw[ho.out,←hGe]
 rw[hGe]at hG hg hw
 rw[hGe]
 obtain⟨hst,rowO,kX⟩:=jds (P:=Tryz.prog) (zs:=[.int .i64 0,.int .u64 0,.int .i64 0,.bool false,.slice none 0 0,.slice none 0 0,.int .i64 0,.int .i64 0,.slice none 0 0,.slice none 0 0,.int .i64 0,.int .i64 0,.slice none 0 0,.int .i64 0,.slice none 0 0]) (cs:=[.int .i64 o.fErr,.int .u64 o.fTxn,.int .i64 o.fN,.bool o.fFlag,.slice aP o.fPairs.length cP,.slice aQ o.fTxns.length cQ,.int .i64 o.fCatalog.fVersion,.int .i64 o.fCatalog.fNext,.slice aT o.fCatalog.fTables.length cT,.slice aX o.fCatalog.fIndexes.length cX,.int .i64 G.fEpoch,.int .i64 G.fBase,.slice aS G.fSpans.length cS,.int .i64 G.fMoving,.slice aU G.fCut.length cU]) S_Reply w4 rfl rfl rfl
 generalize (w4.alloc (.cells ([.int .i64 0,.int .u64 0,.int .i64 0,.bool false,.slice none 0 0,.slice none 0 0,.int .i64 0,.int .i64 0,.slice none 0 0,.slice none 0 0,.int .i64 0,.int .i64 0,.slice none 0 0,.int .i64 0,.slice none 0 0]:List Value).toArray 55)).setRow w4.heap.size ([.int .i64 o.fErr,.int .u64 o.fTxn,.int .i64 o.fN,.bool o.fFlag,.slice aP o.fPairs.length cP,.slice aQ o.fTxns.length cQ,.int .i64 o.fCatalog.fVersion,.int .i64 o.fCatalog.fNext,.slice aT o.fCatalog.fTables.length cT,.slice aX o.fCatalog.fIndexes.length cX,.int .i64 G.fEpoch,.int .i64 G.fBase,.slice aS G.fSpans.length cS,.int .i64 G.fMoving,.slice aU G.fCut.length cU]:List Value).toArray=w5 at *
 have hld:(ja1 53 (.pointer (some ⟨w4.heap.size,10,none⟩))).run Tryz.prog w5=.ok (.value (.agg ([.int .i64 G.fEpoch,.int .i64 G.fBase,.slice aS G.fSpans.length cS,.int .i64 G.fMoving,.slice aU G.fCut.length cU]:List Value).toArray)) w5:=jlv (P:=Tryz.prog) (pre:=[.int .i64 o.fErr,.int .u64 o.fTxn,.int .i64 o.fN,.bool o.fFlag,.slice aP o.fPairs.length cP,.slice aQ o.fTxns.length cQ,.int .i64 o.fCatalog.fVersion,.int .i64 o.fCatalog.fNext,.slice aT o.fCatalog.fTables.length cT,.slice aX o.fCatalog.fIndexes.length cX]) (mid:=[.int .i64 G.fEpoch,.int .i64 G.fBase,.slice aS G.fSpans.length cS,.int .i64 G.fMoving,.slice aU G.fCut.length cU]) (post:=[]) S_Routes rowO rfl
 have hz4:=k4.size
 have hzX:=kX.size
 have k35:=(K3.out.trans k4.nix).trans kX.nix
 have HGR:=Lib.hid (rGRoutes_lawful.mono (q:=jai wA w5) (rGRoutes_lawful.nix hG kX) (fun b hb=>⟨by have:=hb.1;omega,by have:=hb.2;omega⟩))
 have RD5:=Lib.hid ((RD3.out.nix k4).nix kX)
 have K5:=Lib.hid (KA.out.then k35 (fun i hi (e:i=r)=>by omega))
 have ROWY:=Lib.hid (rowY.keep k35 (fun(e:w2.heap.size+1=r)=>by omega))
 have DM:=Lib.hid (dec0.keep k35 (fun(e:w2.heap.size=r)=>by omega))
 have ROWO:=Lib.hid rowO
 have y0:=ROWY.out.cell 0
 (try simp only[List.getElem?_cons_zero]at y0)
 have HR:=Lib.hid (jow G [.int .i64 G.fEpoch,.int .i64 G.fBase,.slice aS G.fSpans.length cS,.int .i64 G.fMoving,.slice aU G.fCut.length cU] w5 HGR.out)
 obtain⟨pb,hpb⟩:∃x,Hid (jcA G=x):=⟨_,rfl⟩
 rw[hpb.out]at HR
 clear HT hw hones k4 hg hG kX rowO RD3 K3 hF0 ho hGe k35 rowY dec0
 by_cases hec:ec=0
 ·have tec:(ec != 0)=false:=by simp[hec]
  go_wp2_with fail
  clear hst
  go_fit HR.out
  rintro e w6 ⟨rfl,k6⟩
  have hz6:=k6.size
  have K6:=Lib.hid (K5.out.trans k6)
  have RD6:=Lib.hid (RD5.out.nix k6)
  have ROWY6:=Lib.hid (ROWY.out.keep k6 id)
  have DM6:=Lib.hid (DM.out.keep k6 id)
  have HGR6:=Lib.hid (rGRoutes_lawful.mono (q:=jai wA w6) (rGRoutes_lawful.nix HGR.out k6) (fun b hb=>⟨hb.1,by have:=hb.2;omega⟩))
  have y0':=ROWY6.out.cell 0
  (try simp only[List.getElem?_cons_zero]at y0')
  have hld6:(ja1 53 (.pointer (some ⟨w4.heap.size,10,none⟩))).run Tryz.prog w6=.ok (.value (.agg ([.int .i64 G.fEpoch,.int .i64 G.fBase,.slice aS G.fSpans.length cS,.int .i64 G.fMoving,.slice aU G.fCut.length cU]:List Value).toArray)) w6:=jlv (P:=Tryz.prog) (pre:=[.int .i64 o.fErr,.int .u64 o.fTxn,.int .i64 o.fN,.bool o.fFlag,.slice aP o.fPairs.length cP,.slice aQ o.fTxns.length cQ,.int .i64 o.fCatalog.fVersion,.int .i64 o.fCatalog.fNext,.slice aT o.fCatalog.fTables.length cT,.slice aX o.fCatalog.fIndexes.length cX]) (mid:=[.int .i64 G.fEpoch,.int .i64 G.fBase,.slice aS G.fSpans.length cS,.int .i64 G.fMoving,.slice aU G.fCut.length cU]) (post:=[]) S_Routes (ROWO.out.keep k6 id) rfl
  clear hld y0 HR K5 RD5 ROWY DM HGR ROWO k6
  cases pb with
  | false=>
   have hno:Hid (jbr l=none):=by show _=_;rw[hF1.out,if_pos (.inr (.inl hpb.out))]
   go_wp2_with fail
   go_ret
   exact jcS (hno.out) (K6.out)
  | true=>
   by_cases hv1:v<1
   ·have hno:Hid (jbr l=none):=by show _=_;rw[hF1.out,if_pos (.inr (.inr (by omega)))]
    have tv1:decide ((v:Int)<1)=true:=decide_eq_true (by omega)
    have tv2:(v:Int)<1:=by omega
    go_wp2_with fail
    go_ret
    exact jcS (hno.out) (K6.out)
   ·have tv1:decide ((v:Int)<1)=false:=decide_eq_false (by omega)
    have tv2:¬(v:Int)<1:=by omega
    have hF2:Hid (jbr l=stC v G s2):=by
     show _=_
     rw[hF1.out,if_neg]
     rintro(h | h | h)
     ·exact h hec
     ·rw[hpb.out]at h;cases h
     ·exact tv2 h
    have hst8:=jhk (P:=Tryz.prog) (w:=w6) (b:=w2.heap.size+1) (o:=2) S_Routes (cs:=[.int .i64 G.fEpoch,.int .i64 G.fBase,.slice aS G.fSpans.length cS,.int .i64 G.fMoving,.slice aU G.fCut.length cU]) rfl (fun j hj=>⟨by
     rw[ROWY6.out.cell]
     match j,hj with
     | 0,_=>rfl
     | 1,_=>rfl
     | 2,_=>rfl
     | 3,_=>rfl
     | 4,_=>rfl
     | j+5,hj=>exact absurd hj (by omega),ROWY6.out.frozen _⟩) rfl
    have kG:=Keep.setCells (w2.heap.size+1) [.int .i64 G.fEpoch,.int .i64 G.fBase,.slice aS G.fSpans.length cS,.int .i64 G.fMoving,.slice aU G.fCut.length cU] w6 2
    have rowG:=RowIs.setCells [.int .i64 G.fEpoch,.int .i64 G.fBase,.slice aS G.fSpans.length cS,.int .i64 G.fMoving,.slice aU G.fCut.length cU] ROWY6.out (o:=2) (by show 2+5≤10;decide)
    obtain⟨w7,hw7⟩:∃x,Hid (w6.setCells (w2.heap.size+1) 2 [.int .i64 G.fEpoch,.int .i64 G.fBase,.slice aS G.fSpans.length cS,.int .i64 G.fMoving,.slice aU G.fCut.length cU]=x):=⟨_,rfl⟩
    rw[hw7.out]at hst8 kG rowG
    replace rowG:RowIs w7 (w2.heap.size+1) 79 [.int .i64 (v:Int),.slice none 0 0,.int .i64 G.fEpoch,.int .i64 G.fBase,.slice aS G.fSpans.length cS,.int .i64 G.fMoving,.slice aU G.fCut.length cU,.int .u64 0,.map (some bM),.slice none 0 0]:=by rw[hbM];exact rowG
    have RD7:=RD6.out.keep kG (fun(e:r=w2.heap.size+1)=>by omega) (fun b hb (e:b=w2.heap.size+1)=>by have:=hb.2.1;omega)
    have DM7:=Lib.hid (DM6.out.keep kG (fun(e:w2.heap.size=w2.heap.size+1)=>by omega))
    have HGR7:=Lib.hid (rGRoutes_lawful.keep HGR6.out kG (fun b hb (e:b=w2.heap.size+1)=>by have:=hb.1;omega))
    have K7:=Lib.hid (K6.out.then kG (fun i hi (e:i=w2.heap.size+1)=>by omega))
    have hz7:=kG.size
    have HC:=jl2 r s2 w7 RD7 (fun b hb=>by have:=hb.2.1;omega)
    obtain⟨yC,hyC⟩:∃x,Hid (jbn (numS M30 s2).1 0 (numS M30 s2).2=x):=⟨_,rfl⟩
    unfold jej at HC
    rw[hyC.out]at HC
    have y1:=rowG.cell 1
    have f1:=rowG.frozen 1
    (try simp only[List.getElem?_cons_succ]at y1);(try simp only[List.getElem?_cons_zero]at y1)
    have ROWG:=Lib.hid rowG
    clear hF1 hpb hec RD6 ROWY6 DM6 HGR6 K6 kG rowG RD7
    cases yC with
    | none=>
     have hno:Hid (jbr l=none):=by
      show _=_
      rw[hF2.out]
      unfold stC
      rw[hyC.out]
     dsimp only at HC
     replace HC:=Lib.hid HC
     clear hyC hF2
     go_wp2_with fail
     clear hst8 hld6 y0'
     go_fit HC.out
     rintro e w8 ⟨rfl,k8⟩
     have y1':=(ROWG.out.keep k8 (fun e=>by omega)).cell 1
     have f1':=(ROWG.out.keep k8 (fun e=>by omega)).frozen 1
     (try simp only[List.getElem?_cons_succ]at y1');(try simp only[List.getElem?_cons_zero]at y1')
     have K9:Hid (Keep Nix w (w8.setCell ⟨w2.heap.size+1,1,none⟩ (.slice none 0 0))):=(K7.out.then k8 (fun i hi e=>by omega)).then ((Keep.refl (·=w2.heap.size+1) w8).setCell (p:=⟨w2.heap.size+1,1,none⟩) (fun _=>rfl) _) (fun i hi e=>by omega)
     clear y1 f1 HC
     go_wp2_with fail
     go_ret
     exact jcS (hno.out) (K9.out)
    | some y=>
     obtain⟨L,s3⟩:=y
     have hF3:Hid (jbr l=if L=[] then none else stD v G L s3):=by
      show _=_
      rw[hF2.out]
      unfold stC
      rw[hyC.out]
     have hB3:Hid (s3.B=l):=by show _=_;have:=jj5 _ _ _ _ hyC.out;rw[jcT]at this;exact this.trans hB2.out
     obtain⟨tb,htb⟩:∃b,Hid (decide (0<L.length)=b):=⟨_,rfl⟩
     dsimp only at HC
     rw[htb.out]at HC
     replace HC:=Lib.hid HC
     clear hF2
     go_wp2_with fail
     clear hst8 hld6 y0'
     go_fit HC.out
     rintro e w8 ⟨aC,cC,css,rfl,ownC,elsC,rd8,k8⟩
     have hz8:=k8.size
     have rowG8:=ROWG.out.keep k8 (fun e=>by omega)
     have y1':=rowG8.cell 1
     have f1':=rowG8.frozen 1
     (try simp only[List.getElem?_cons_succ]at y1');(try simp only[List.getElem?_cons_zero]at y1')
     have kS:Keep (·=w2.heap.size+1) w8 (w8.setCell ⟨w2.heap.size+1,1,none⟩ (.slice aC L.length cC)):=(Keep.refl (·=w2.heap.size+1) w8).setCell (p:=⟨w2.heap.size+1,1,none⟩) (fun _=>rfl) _
     have rowS:=rowG8.set 1 (.slice aC L.length cC)
     (try simp only[List.set_cons_succ]at rowS);(try simp only[List.set_cons_zero]at rowS)
     have hz9:=kS.size
     have K9:=Lib.hid ((K7.out.then k8 (fun i hi e=>by omega)).then kS (fun i hi e=>by omega))
     have K79:=Lib.hid ((k8.mono (fun b (e:b=r)=>(Or.inl e:b=r∨b=w2.heap.size+1))).trans (kS.mono (fun b e=>Or.inr e)))
     have OWC:=Lib.hid (jad ownC kS (fun b hb (e:b=w2.heap.size+1)=>by have:=(ownC.lt b hb).1;omega))
     have hCl:Hid (∀b,OwnB (.slice aC L.length cC) b→w7.heap.size≤b∧b<w8.heap.size):=fun b hb=>ownC.lt b hb
     have ELC:=Lib.hid (elsC.keep rGCatalog_lawful kS (fun b hb (e:b=w2.heap.size+1)=>by have:=hb.1.1;omega))
     have DM9:=Lib.hid ((DM7.out.keep k8 (fun(e:w2.heap.size=r)=>by omega)).keep kS (fun(e:w2.heap.size=w2.heap.size+1)=>by omega))
     have HGR9:=Lib.hid (rGRoutes_lawful.keep (rGRoutes_lawful.keep HGR7.out k8 (fun b hb (e:b=r)=>by have:=hb.1;omega)) kS (fun b hb (e:b=w2.heap.size+1)=>by have:=hb.1;omega))
     have RD9:=Lib.hid (rd8.keep kS (fun(e:r=w2.heap.size+1)=>by omega) (fun b hb (e:b=w2.heap.size+1)=>by have:=hb.2.1;omega))
     have ROW9:=Lib.hid rowS
     clear y1 f1 HC rowG8 k8 kS rowS ownC elsC rd8 ROWG DM7 HGR7 K7 hyC
     cases tb with
     | false=>
      have hno:Hid (jbr l=none):=by
       show _=_
       rw[hF3.out,if_pos]
       have:=of_decide_eq_false htb.out
       exact List.eq_nil_of_length_eq_zero (by omega)
      go_wp2_with fail
      go_ret
      exact jcS (hno.out) (K9.out)
     | true=>
      have hF4:Hid (jbr l=stD v G L s3):=by
       show _=_
       rw[hF3.out,if_neg]
       intro e
       have:=of_decide_eq_true htb.out
       rw[e]at this
       exact Nat.lt_irrefl _ this
      clear hF3 htb
      go_wp2_with fail
      clear y1' f1'
      generalize w8.setCell ⟨w2.heap.size+1,1,none⟩ (.slice aC L.length cC)=w9 at *
      have HC:=jhl r _ s3 w9 RD9.out
      obtain⟨bg,s4,h4⟩:∃bg s4,Hid (numS maxU s3=(bg,s4)):=⟨_,_,rfl⟩
      have hB4:Hid (s4.B=l):=by show _=_;have:=jcT maxU s3;rw[h4.out]at this;exact this.trans hB3.out
      have hbu:bg<2 ^ 64:=by have:=jbt maxU s3;rw[h4.out]at this;exact this
      rw[h4.out]at HC
      replace HC:=Lib.hid HC
      go_fit HC.out
      rintro e w10 ⟨rfl,rd10,k10⟩
      have hz10:=k10.size
      have rowG10:=ROW9.out.keep k10 (fun e=>by omega)
      have y7:=rowG10.cell 7
      have f7:=rowG10.frozen 7
      (try simp only[List.getElem?_cons_succ]at y7);(try simp only[List.getElem?_cons_zero]at y7)
      have kS:Keep (·=w2.heap.size+1) w10 (w10.setCell ⟨w2.heap.size+1,7,none⟩ (.int .u64 (bg:Int))):=(Keep.refl (·=w2.heap.size+1) w10).setCell (p:=⟨w2.heap.size+1,7,none⟩) (fun _=>rfl) _
      have rowS:=rowG10.set 7 (.int .u64 (bg:Int))
      (try simp only[List.set_cons_succ]at rowS);(try simp only[List.set_cons_zero]at rowS)
      have rdS:=rd10.keep kS (fun(e:r=w2.heap.size+1)=>by omega) (fun b hb (e:b=w2.heap.size+1)=>by have:=hb.2.1;omega)
      have hz11:=kS.size
      have HC:=jci r _ s4 _ rdS 1073741824 ⟨by decide,by decide⟩
      replace HC:Calls Tryz.prog 43 #[.pointer (some ⟨r,0,none⟩),.int .i64 1073741824] (w10.setCell ⟨w2.heap.size+1,7,none⟩ (.int .u64 (bg:Int))) fun e w'=>e=.returned (.int .i64 (numS M30 s4).1)∧IsRd w' 151 r (fun b=>w.heap.size≤b∧b<w1.heap.size∧b≠r) (numS M30 s4).2∧Keep (·=r) (w10.setCell ⟨w2.heap.size+1,7,none⟩ (.int .u64 (bg:Int))) w':=HC
      have hNle:=jcc M30 s4
      obtain⟨N,s5,h5⟩:∃N s5,Hid (numS M30 s4=(N,s5)):=⟨_,_,rfl⟩
      have hB5:Hid (s5.B=l):=by show _=_;have:=jcT M30 s4;rw[h5.out]at this;exact this.trans hB4.out
      rw[h5.out]at HC hNle
      replace HC:=Lib.hid HC
      replace hNle:N≤1073741824:=hNle
      have hF5:Hid (jbr l=match jbM bg N s5 (fun _=>none) []with | none=>none | some x=>stE v G L bg x):=by
       show _=_
       rw[hF4.out]
       unfold stD
       rw[h4.out]
       simp only
       rw[h5.out]
       rfl
      have K10:=Lib.hid (k10.mono (fun b (e:b=r)=>(Or.inl e:b=r∨b=w2.heap.size+1)))
      have KS:=Lib.hid (kS.mono (fun b e=>(Or.inr e:b=r∨b=w2.heap.size+1)))
      have ROWS:=Lib.hid rowS
      clear k10 rowG10 kS rowS rdS rd10 RD9 ROW9 h4 h5 hF4
      go_wp2_with fail
      clear y7 f7
      generalize w10.setCell ⟨w2.heap.size+1,7,none⟩ (.int .u64 (bg:Int))=w11 at *
      go_fit HC.out
      rintro e w12 ⟨rfl,rd12,k12⟩
      have hz12:=k12.size
      have kP:Keep Nix w12 (w12.alloc (.map #[] 0)):=(Keep.refl Nix w12).alloc _
      have pl0:=PlIs.made w12
      have KT:=Lib.hid ((((K10.out.trans KS.out).trans (k12.mono (fun b (e:b=r)=>(Or.inl e:b=r∨b=w2.heap.size+1)))).trans (kP.mono (fun b h=>h.elim))))
      have ROWP:=Lib.hid ((ROWS.out.keep k12 (fun e=>by omega)).keep kP id)
      have RDP:=Lib.hid (rd12.nix kP)
      have PL0:=Lib.hid pl0
      have hzP:(w12.alloc (.map #[] 0)).heap.size=w12.heap.size+1:=by simp
      clear HC k12 kP pl0 rd12 K10 KS ROWS
      go_wp2_with fail
      generalize w12.alloc (.map #[] 0)=wP at *
      have FAR0:Hid (Far l.length 0 s5):=by
       have hp:=RDP.out.place
       rw[hB5.out]at hp
       exact⟨by rw[hB5.out],hp,Nat.zero_le _,fun _=>Nat.zero_le _⟩
      have DMP:Hid (DecIs wP w2.heap.size 0 (.map []) fun _=>none):=DM9.out.keep KT.out (fun h=>by rcases h with h | h <;> omega)
      have hbM2:w2.heap.size<w12.heap.size:=by omega
      clear hB5 hB4 hB3 hB2 hB1 DM9
      go_loopw [12] (fun i wr=>∃(k:Nat) (s:RdS) (dec:Int→Option Int) (PL:List (Int×Int)) (D DP:DataW Value),k≤N∧i=.int .i64 (k:Int)∧Hid (jbM bg N s5 (fun _=>none) []=jbM bg (N - k) s dec PL)∧IsRd wr 151 r (fun b=>w.heap.size≤b∧b<w1.heap.size∧b≠r) s∧DecIs wr w2.heap.size k D dec∧PlIs wr w12.heap.size DP PL∧Keep (fun b=>b=r∨b=w2.heap.size∨b=w12.heap.size) wP wr∧Hid (Far l.length k s)∧Hid (PL.length≤k∧∀p u,jbp PL p=some u→0<u∧u<2 ^ 64)) (fun i _=>N - (intOf i).toNat)
      case atStart=>exact⟨0,s5,_,[],_,_,Nat.zero_le _,rfl,rfl,RDP.out,DMP.out,PL0.out,Keep.refl _ _,FAR0.out,Nat.le_refl _,fun p u h=>by cases h⟩
      case round=>
       clear RDP DMP PL0 FAR0
       obtain⟨k,s,dec,PL,D,DP,hk,rfl,hq,rd,dm,pl,kk,hfar,hpl⟩:=hrel
       have hsw:=kk.size
       have RDr:=Lib.hid rd
       have DMr:=Lib.hid dm
       have PLr:=Lib.hid pl
       have HKK:=Lib.hid kk
       clear rd dm pl kk
       by_cases hlt:k<N
       focus
        have hi1:(k:Int)<(N:Int):=by omega
        have hwk:IntKind.i64.wrap ((k:Int)+1)=(k:Int)+1:=by rw[IntKind.wrap_i64];omega
        have HCE:=Lib.hid (jmk r _ s wr RDr.out)
        by_cases he:s.e=0
        ·have te:(s.e == 0)=true:=by simp[he]
         have HE:=Lib.hid he
         have HC1:=jhl r _ s wr RDr.out
         obtain⟨c1,s6,h6⟩:∃c1 s6,Hid (numS maxU s=(c1,s6)):=⟨_,_,rfl⟩
         have hcu:c1<2 ^ 64:=by have:=jbt maxU s;rw[h6.out]at this;exact this
         rw[h6.out]at HC1
         replace HC1:=Lib.hid HC1
         clear he
         go_wp2_with fail
         go_fit HCE.out
         rintro e w2' ⟨rfl,rfl⟩
         clear HCE
         go_wp2_with fail
         go_fit HC1.out
         rintro e w13 ⟨rfl,rd13,k13⟩
         have HC2:=jci r _ s6 w13 rd13 1073741824 ⟨by decide,by decide⟩
         replace HC2:Calls Tryz.prog 43 #[.pointer (some ⟨r,0,none⟩),.int .i64 1073741824] w13 fun e w'=>e=.returned (.int .i64 (numS M30 s6).1)∧IsRd w' 151 r (fun b=>w.heap.size≤b∧b<w1.heap.size∧b≠r) (numS M30 s6).2∧Keep (·=r) w13 w':=HC2
         obtain⟨p1,s7,h7⟩:∃p1 s7,Hid (numS M30 s6=(p1,s7)):=⟨_,_,rfl⟩
         have hpu:p1≤1073741824:=by have:=jcc M30 s6;rw[h7.out]at this;exact this
         have hEnt:Hid (entT s=(c1:Int)∧entN s=(p1:Int)∧entS s=s7):=by
          refine⟨?_,?_,?_⟩
          ·unfold entT;rw[h6.out]
          ·unfold entN;rw[h6.out];simp only;rw[h7.out]
          ·unfold entS;rw[h6.out];simp only;rw[h7.out]
         rw[h7.out]at HC2
         replace HC2:=Lib.hid HC2
         have K13:=Lib.hid k13
         clear rd13 k13 HC1 h6 h7
         go_wp2_with fail
         go_fit HC2.out
         rintro e w14 ⟨rfl,rd14,k14⟩
         have k134:=K13.out.trans k14
         have hz14:=k134.size
         have KR14:Hid (Keep (fun b=>b=r∨b=w2.heap.size∨b=w12.heap.size) wP w14):=HKK.out.trans (k134.mono (fun b e=>.inl e))
         have ROW14:Hid (RowIs w14 _ _ _):=ROWP.out.keep KR14.out (fun h=>by rcases h with h | h | h <;> omega)
         have DM14:=Lib.hid (DMr.out.keep k134 (fun(e:w2.heap.size=r)=>by omega))
         have PL14:=Lib.hid (PLr.out.keep k134 (fun(e:w12.heap.size=r)=>by omega))
         have RD14:=Lib.hid rd14
         have KALL:Hid (Keep Nix w w14):=(K9.out.then KT.out (fun i hi h=>by rcases h with h | h <;> omega)).then KR14.out (fun i hi h=>by rcases h with h | h | h <;> omega)
         have y7:=ROW14.out.cell 7
         have y8:=ROW14.out.cell 8
         (try simp only[List.getElem?_cons_succ]at y7 y8);(try simp only[List.getElem?_cons_zero]at y7 y8)
         have hpI:jae (p1:Int):=⟨by omega,by omega⟩
         have hcU:jaw (c1:Int):=⟨by omega,by omega⟩
         have hlk:=jio PL14.out hpI
         clear rd14 k14 k134 K13 HC2 HKK RDr DMr PLr
         by_cases hc0:c1=0
         ·have tq:((c1:Int) == 0)=true:=by simp[hc0]
          have hno:Hid (jbr l=none):=by
           show _=_
           rw[hF5.out,hq.out,show N - k=(N - (k+1))+1 by omega,jif HE.out (by unfold jdh;rw[hEnt.out.1,hEnt.out.2.1];exact(.inl (by omega)))]
          go_wp2_with fail
          go_ret
          exact jcS (hno.out) (KALL.out)
         ·have tq:((c1:Int) == 0)=false:=by simp[hc0]
          by_cases hcb:bg<c1
          ·have tb1:decide ((c1:Int)>(bg:Int))=true:=decide_eq_true (by omega)
           have tb2:(bg:Int)<(c1:Int):=by omega
           have hno:Hid (jbr l=none):=by
            show _=_
            rw[hF5.out,hq.out,show N - k=(N - (k+1))+1 by omega,jif HE.out (by unfold jdh;rw[hEnt.out.1,hEnt.out.2.1];exact(.inr (.inl tb2)))]
           go_wp2_with fail
           go_ret
           exact jcS (hno.out) (KALL.out)
          ·have tb1:decide ((c1:Int)>(bg:Int))=false:=decide_eq_false (by omega)
           have tb2:¬(bg:Int)<(c1:Int):=by omega
           by_cases hp0:p1=0
           ·have tp1:decide ((p1:Int)>0)=false:=decide_eq_false (by omega)
            have tp2:¬(0:Int)<(p1:Int):=by omega
            have hfar2:=Lib.hid (hfar.out.next HE.out)
            rw[hEnt.out.2.2]at hfar2
            have hnext:Hid (jbM bg N s5 (fun _=>none) []=jbM bg (N - (k+1)) s7 (updD dec (c1:Int) (p1:Int)) PL):=by
             show _=_
             rw[hq.out,show N - k=(N - (k+1))+1 by omega,jig HE.out (by unfold jdh;rw[hEnt.out.1,hEnt.out.2.1];exact(by rintro(h | h | h);omega;exact tb2 h;exact tp2 h.1))]
             unfold putP
             rw[hEnt.out.1,hEnt.out.2.1,hEnt.out.2.2,if_neg tp2]
            obtain⟨wU,hU,dmU,kU⟩:=jg0 (x:=(p1:Int)) DM14.out (by have:=hfar.out;unfold Far at this;omega) hcU
            have hzU:=kU.size
            have KU:Hid (Keep (fun b=>b=r∨b=w2.heap.size∨b=w12.heap.size) wP wU):=KR14.out.trans (kU.mono (fun b e=>.inr (.inl e)))
            have RDU:=Lib.hid (RD14.out.keep kU (fun(e:r=w2.heap.size)=>by omega) (fun b hb (e:b=w2.heap.size)=>by have:=hb.2.1;omega))
            have PLU:=Lib.hid (PL14.out.keep kU (fun(e:w12.heap.size=w2.heap.size)=>by omega))
            have DMU:=Lib.hid dmU
            have hplU:Hid (PL.length≤k+1∧∀p u,jbp PL p=some u→0<u∧u<2 ^ 64):=⟨by have:=hpl.out.1;omega,hpl.out.2⟩
            clear hp0
            clear dmU kU PL14 RD14 DM14 KR14 hlk hpl
            go_wp2_with fail
            clear hU y7 y8
            go_roundw
            case rel=>exact⟨k+1,s7,_,PL,_,_,by omega,by go_num,hnext,RDU.out,DMU.out,PLU.out,KU.out,hfar2,hplU⟩
            case measure=>simp[intOf];omega
           ·have tp1:decide ((p1:Int)>0)=true:=decide_eq_true (by omega)
            have tp2:(0:Int)<(p1:Int):=by omega
            cases hf:jbp PL (p1:Int)with
            | some u=>
             have hu:=hpl.out.2 _ _ hf
             rw[hf]at hlk
             have tu1:decide (u>0)=true:=decide_eq_true hu.1
             have tu2:0<u:=hu.1
             replace hlk:(Instr.lookup 110 (.map (some w12.heap.size)) (.int .i64 (p1:Int)) false).run Tryz.prog w14=.ok (.int .u64 u) w14:=hlk
             have HF:=Lib.hid hf
             clear hf hu
             have hno:Hid (jbr l=none):=by
              show _=_
              rw[hF5.out,hq.out,show N - k=(N - (k+1))+1 by omega,jif HE.out (by unfold jdh;rw[hEnt.out.1,hEnt.out.2.1];exact(.inr (.inr ⟨tp2,by rw[HF.out];rfl⟩)))]
             go_wp2_with fail
             go_ret
             exact jcS (hno.out) (KALL.out)
            | none=>
             have hfar2:=Lib.hid (hfar.out.next HE.out)
             rw[hEnt.out.2.2]at hfar2
             have hnext:Hid (jbM bg N s5 (fun _=>none) []=jbM bg (N - (k+1)) s7 (updD dec (c1:Int) (p1:Int)) (PL ++ [((p1:Int),(c1:Int))])):=by
              show _=_
              rw[hq.out,show N - k=(N - (k+1))+1 by omega,jig HE.out (by unfold jdh;rw[hEnt.out.1,hEnt.out.2.1];exact(by rintro(h | h | h);omega;exact tb2 h;rw[hf]at h;cases h.2))]
              unfold putP
              rw[hEnt.out.1,hEnt.out.2.1,hEnt.out.2.2,if_pos tp2]
             obtain⟨wU,hU,dmU,kU⟩:=jg0 (x:=(p1:Int)) DM14.out (by have:=hfar.out;unfold Far at this;omega) hcU
             have hzU:=kU.size
             obtain⟨wV,DV,hV,plV,kV⟩:=pl_put (t:=(c1:Int)) (PL14.out.keep kU (fun(e:w12.heap.size=w2.heap.size)=>by omega)) (by have:=hpl.out.1;have:=hfar.out;unfold Far at this;omega) hpI hf
             rw[hf]at hlk
             replace hlk:(Instr.lookup 110 (.map (some w12.heap.size)) (.int .i64 (p1:Int)) false).run Tryz.prog w14=.ok (.int .u64 0) w14:=hlk
             have KU:Hid (Keep (fun b=>b=r∨b=w2.heap.size∨b=w12.heap.size) wP wV):=(KR14.out.trans (kU.mono (fun b e=>.inr (.inl e)))).trans (kV.mono (fun b e=>.inr (.inr e)))
             have RDU:=Lib.hid ((RD14.out.keep kU (fun(e:r=w2.heap.size)=>by omega) (fun b hb (e:b=w2.heap.size)=>by have:=hb.2.1;omega)).keep kV (fun(e:r=w12.heap.size)=>by omega) (fun b hb (e:b=w12.heap.size)=>by have:=hb.2.1;omega))
             have PLU:=Lib.hid plV
             have DMU:=Lib.hid (dmU.keep kV (fun(e:w2.heap.size=w12.heap.size)=>by omega))
             have hplU:Hid ((PL ++ [((p1:Int),(c1:Int))]).length≤k+1∧∀p u,jbp (PL ++ [((p1:Int),(c1:Int))]) p=some u→0<u∧u<2 ^ 64):=by
              refine⟨by rw[List.length_append,List.length_singleton];have:=hpl.out.1;omega,fun p u h=>?_⟩
              rw[jeB PL _ _ _ hf]at h
              split at h
              ·cases h;exact⟨by omega,by omega⟩
              ·exact hpl.out.2 p u h
             clear dmU kU plV kV PL14 RD14 DM14 KR14 hpl hf
             go_wp2_with fail
             clear hU hV hlk y7 y8
             go_roundw
             case rel=>exact⟨k+1,s7,_,_,_,_,by omega,by go_num,hnext,RDU.out,DMU.out,PLU.out,KU.out,hfar2,hplU⟩
             case measure=>simp[intOf];omega
        have te:(s.e == 0)=false:=by simp[he]
        go_wp2_with fail
        go_fit HCE.out
        rintro e w2' ⟨rfl,rfl⟩
        clear HCE
        have hF6:Hid (jbr l=stE v G L bg (dec,PL,s)):=by
         show _=_
         rw[hF5.out,hq.out,jiz he]
        refine ?h1a
       rotate_left
       focus
        obtain rfl:k=N:=by omega
        have hF6:Hid (jbr l=stE v G L bg (dec,PL,s)):=by
         show _=_
         rw[hF5.out,hq.out,Nat.sub_self,jbM]
        refine ?h1b
       rotate_left
       case h1a | h1b=>
        have hPLn:PL.length≤1000000:=by have h1:=hpl.out.1;have h2:=hfar.out;unfold Far at h2;omega
        have hlen:=pl_len PLr.out 3
        have ROWR:=Lib.hid (ROWP.out.keep HKK.out (fun h=>by rcases h with h | h | h <;> omega))
        have KR:Hid (Keep Nix w wr):=(K9.out.then KT.out (fun i hi h=>by rcases h with h | h <;> omega)).then HKK.out (fun i hi h=>by rcases h with h | h | h <;> omega)
        have hk1:k≤1000000:=by have h2:=hfar.out;unfold Far at h2;omega
        clear hfar hF5 hq
        obtain⟨wL,hwL⟩:∃x,x=wr:=⟨_,rfl⟩
        subst hwL
        go_wp2_with fail
        clear hlen
        go_loopw [116] (fun i wr=>∃(j:Nat) (aO:Option Addr) (cO:Nat),j≤PL.length∧i=.int .i64 (j:Int)∧Hid (∀i:Nat,i<j→(jbp PL ((i:Int)+1)).isSome=true)∧RowIs wr (w2.heap.size+1) 79 [.int .i64 (v:Int),.slice aC L.length cC,.int .i64 G.fEpoch,.int .i64 G.fBase,.slice aS G.fSpans.length cS,.int .i64 G.fMoving,.slice aU G.fCut.length cU,.int .u64 (bg:Int),.map (some bM),.slice aO j cO]∧wr.ownsRow wL.heap.size 28 1 (.slice aO j cO) j ((ordL PL j).map ivU)∧Keep (fun b=>b=w2.heap.size+1) wL wr) (fun i _=>PL.length - (intOf i).toNat)
        case atStart=>exact⟨0,none,0,Nat.zero_le _,rfl,fun i h=>absurd h (Nat.not_lt_zero _),ROWR.out,World.ownsRow_nil _ _ _ _,Keep.refl _ _⟩
        case round=>
         clear ROWR
         obtain⟨j,aO,cO,hj,rfl,hall,rowx,ownx,kx⟩:=hrel
         have hsx:=kx.size
         by_cases hjl:j<PL.length
         focus
          have hj1:(j:Int)<(PL.length:Int):=by omega
          have hwj:IntKind.i64.wrap ((j:Int)+1)=(j:Int)+1:=by rw[IntKind.wrap_i64];omega
          have hlk:=jio (PLr.out.keep kx (fun(e:w12.heap.size=w2.heap.size+1)=>by omega)) (p:=(j:Int)+1) ⟨by omega,by omega⟩
          cases hf:jbp PL ((j:Int)+1)
          ·have hno:Hid (jbr l=none):=by
            show _=_
            rw[hF6.out]
            unfold stE
            rw[if_neg]
            intro h
            have:=h.1 j hjl
            rw[hf]at this
            cases this
           rw[hf]at hlk
           replace hlk:(Instr.lookup 110 (.map (some w12.heap.size)) (.int .i64 ((j:Int)+1)) false).run Tryz.prog wr=.ok (.int .u64 0) wr:=hlk
           have KX:=Lib.hid (KR.out.then kx (fun i hi (e:i=w2.heap.size+1)=>by omega))
           clear hf
           go_wp2_with fail
           go_ret
           exact jcS (hno.out) (KX.out)
          rename_i u
          have hu:=hpl.out.2 _ _ hf
          rw[hf]at hlk
          replace hlk:(Instr.lookup 110 (.map (some w12.heap.size)) (.int .i64 ((j:Int)+1)) false).run Tryz.prog wr=.ok (.int .u64 u) wr:=hlk
          have tu:(u == 0)=false:=by simp;omega
          have HSS:Hid (∀(S:Nat→Prop) w',Keep S wL w'→¬S w12.heap.size→(Instr.lookup 110 (.map (some w12.heap.size)) (.int .i64 ((j:Int)+1)) false).run Tryz.prog w'=.ok (.int .u64 u) w'):=fun S w' k hS=>by
           have:=jio (PLr.out.keep k hS) (p:=(j:Int)+1) ⟨by omega,by omega⟩
           rw[hf]at this
           exact this
          have HF:=Lib.hid hf
          have rowG:=rowx.keep ((Keep.refl Nix wr).drew) id
          have OWX:=Lib.hid (jad ownx ((Keep.refl Nix wr).drew) (fun _ _ h=>h))
          have KX:=Lib.hid (kx.trans ((Keep.refl (fun b=>b=w2.heap.size+1) wr).drew))
          clear hf hu rowx ownx kx
          go_upto_region 30 with fail
          clear hlk
          refine wp_region_held_drew (S:=(fun w'=>(Instr.lookup 110 (.map (some w12.heap.size)) (.int .i64 ((j:Int)+1)) false).run Tryz.prog w'=.ok (.int .u64 u) w')) (by kernel_rfl) ((HSS.out _ _ KX.out (fun(e:w12.heap.size=w2.heap.size+1)=>by omega))) (fun jaa=>?_)
          have rowG0:=Lib.hid rowG
          have hsd:wL.heap.size≤wr.drew.heap.size:=hsx
          generalize wr.drew=wd at *
          refine tk 0 rfl jaa ?_
          refine tk 1 rfl jaa ?_
          refine tk 2 rfl jaa ?_
          refine tk 3 rfl jaa ?_
          refine tk 5 rfl jaa ?_
          refine tk 6 rfl jaa ?_
          refine tk 7 rfl jaa ?_
          refine tk 8 rfl jaa ?_
          refine wpAnyH_ready (rs:=[4,9]) (by kernel_rfl) (by simp) ?_
          refine AllReadyH.cons rfl (fun K hK=>?_) (AllReadyH.cons rfl (fun K hK=>?_) AllReadyH.nil)
          focus
           have x9:=rowG.cell 9
           (try simp only[List.getElem?_cons_succ]at x9);(try simp only[List.getElem?_cons_zero]at x9)
           go_simp
           clear x9
           refine hK.out _ _ (jaa) (fun jaa=>?_)
           clear hK K
           try simp only[Act.put,zz1,zz2,zz3,zz4,zz5,zz6]
           refine wpAnyH_ready (rs:=[9]) (by kernel_rfl) (by simp) ?_
           refine AllReadyH.cons rfl (fun K hK=>?_) AllReadyH.nil
           try simp only[zz1,zz2,zz3]
           go_simp
           have kA:Keep Nix wd (wd.alloc (.cells ([.int .u64 u]:List Value).toArray 28)):=(Keep.refl Nix _).alloc _
           replace rowG:=rowG.keep kA id
           refine hK.out _ _ ((HSS.out _ _ (KX.out.trans kA.nix) (fun(e:w12.heap.size=w2.heap.size+1)=>by omega))) (fun jaa=>?_)
           refine ?h2a
          rotate_left
          focus
           try simp only[zz1,zz2,zz3]
           go_simp
           have kA:Keep Nix wd (wd.alloc (.cells ([.int .u64 u]:List Value).toArray 28)):=(Keep.refl Nix _).alloc _
           replace rowG:=rowG.keep kA id
           refine hK.out _ _ ((HSS.out _ _ (KX.out.trans kA.nix) (fun(e:w12.heap.size=w2.heap.size+1)=>by omega))) (fun jaa=>?_)
           clear hK K
           try simp only[Act.put,zz1,zz2,zz3,zz4,zz5,zz6]
           refine wpAnyH_ready (rs:=[4]) (by kernel_rfl) (by simp) ?_
           refine AllReadyH.cons rfl (fun K hK=>?_) AllReadyH.nil
           have x9:=rowG.cell 9
           (try simp only[List.getElem?_cons_succ]at x9);(try simp only[List.getElem?_cons_zero]at x9)
           go_simp
           clear x9
           refine hK.out _ _ (jaa) (fun jaa=>?_)
           refine ?h2b
          rotate_left
         rotate_left 2
         ·obtain rfl:j=PL.length:=by omega
          have ROWX:=Lib.hid rowx
          have OWX:=Lib.hid ownx
          have KX:=Lib.hid kx
          have RDX:=RDr.out.keep kx (fun(e:r=w2.heap.size+1)=>by omega) (fun b hb (e:b=w2.heap.size+1)=>by have:=hb.2.1;omega)
          have HCE:=Lib.hid (jjs r _ s wr RDX)
          have KA:=Lib.hid (KR.out.then kx (fun i hi (e:i=w2.heap.size+1)=>by omega))
          have hE:Hid (jbr l=if endS s=0∧(bg:Int)≤1073741824 then some (⟨(v:Int),L,G,(bg:Int),dec,ordL PL PL.length⟩:RootS) else none):=by
           show _=_
           rw[hF6.out]
           unfold stE
           have h0:allP PL:=hall.out
           by_cases h:endS s=0∧(bg:Int)≤1073741824
           ·rw[if_pos h,if_pos ⟨h0,h⟩]
           ·rw[if_neg h,if_neg (fun q=>h q.2)]
          clear rowx ownx kx RDX hF6 RDr
          by_cases hend:endS s=0
          ·have te2:(endS s != 0)=false:=by simp[hend]
           by_cases hb30:bg≤1073741824
           ·have tb30:decide ((bg:Int)>1073741824)=false:=decide_eq_false (by omega)
            have tb31:¬(1073741824:Int)<(bg:Int):=by omega
            have hsome:Hid (jbr l=some (⟨(v:Int),L,G,(bg:Int),dec,ordL PL PL.length⟩:RootS)):=by show _=_;rw[hE.out,if_pos ⟨hend,by omega⟩]
            have RX0:=Lib.hid (fun(w':World) (k:Keep Nix wr w')=>(ROWX.out.keep k id).cell 7)
            clear hend hb30 hE
            go_wp2_with fail
            go_fit HCE.out
            rintro e w22 ⟨rfl,k22⟩
            have y7:=RX0.out w22 k22
            (try simp only[List.getElem?_cons_succ]at y7);(try simp only[List.getElem?_cons_zero]at y7)
            have hz22:=k22.size
            subst hbM
            have hok:=jpw hsome.out (HNN.out _ hsome.out)
            have hol:Hid ((ordL PL PL.length).length=PL.length):=by show _=_;simp[ordL]
            have KXX:=Lib.hid (KX.out.trans (k22.mono (fun b h=>h.elim)))
            have ROWY:=ROWX.out.keep k22 id
            have HB:RootAt w22 (fun b=>w2.heap.size≤b∧b<w22.heap.size) (w2.heap.size+1) k (⟨(v:Int),L,G,(bg:Int),dec,ordL PL PL.length⟩:RootS) w2.heap.size aC cC aO cO aS cS aU cU css D:=by
             have kC:Keep (fun b=>b=r∨b=w2.heap.size∨b=w12.heap.size∨b=w2.heap.size+1) w9 w22:=((KT.out.mono (fun b h=>h.elim .inl (fun h=>.inr (.inr (.inr h))))).trans (HKK.out.mono (fun b h=>h.elim .inl (fun h=>h.elim (fun h=>.inr (.inl h)) (fun h=>.inr (.inr (.inl h))))))).trans (KXX.out.mono (fun b h=>.inr (.inr (.inr h))))
             have hCb:∀b,OwnB (.slice aC L.length cC) b→w7.heap.size≤b∧b<w8.heap.size:=hCl.out
             have hOb:∀b,OwnB (.slice aO PL.length cO) b→wL.heap.size≤b∧b<wr.heap.size:=fun b hb=>OWX.out.lt b hb
             have hdC:∀b,(jai w7 w8 b∧¬OwnB (.slice aC L.length cC) b)→Deep (fun b=>w2.heap.size≤b∧b<w22.heap.size) (w2.heap.size+1) w2.heap.size (.slice aC L.length cC) (.slice aO (ordL PL PL.length).length cO) b:=fun b hb=>by
              have h1:=hb.1.1
              have h2:=hb.1.2
              refine⟨⟨by omega,by omega⟩,by omega,by omega,hb.2,fun h=>?_⟩
              rw[hol.out]at h
              have:=hOb b h
              omega
             have hdR:∀b,jai wA w6 b→Deep (fun b=>w2.heap.size≤b∧b<w22.heap.size) (w2.heap.size+1) w2.heap.size (.slice aC L.length cC) (.slice aO (ordL PL PL.length).length cO) b:=fun b hb=>by
              have h1:=hb.1
              have h2:=hb.2
              refine⟨⟨by omega,by omega⟩,by omega,by omega,fun h=>?_,fun h=>?_⟩
              ·have:=hCb b h;omega
              ·rw[hol.out]at h
               have:=hOb b h
               omega
             refine⟨by rw[hol.out];exact ROWY,⟨by omega,by omega⟩,by omega,fun b hb=>?_,fun b hb=>?_,fun b hb h=>?_,jbY (jad OWC.out kC (fun b hb h=>?_)) (Nat.zero_le _),(ELC.out.keep rGCatalog_lawful kC (fun b hb h=>?_)).mono rGCatalog_lawful hdC,rGRoutes_lawful.mono (rGRoutes_lawful.keep HGR9.out kC (fun b hb h=>?_)) hdR,?_,?_⟩
             ·have:=hCb b hb
              exact⟨⟨by omega,by omega⟩,by omega,by omega⟩
             ·rw[hol.out]at hb
              have:=hOb b hb
              exact⟨⟨by omega,by omega⟩,by omega,by omega⟩
             ·rw[hol.out]at h
              have h1:=hCb b hb
              have h2:=hOb b h
              omega
             ·have:=hCb b hb
              rcases h with h | h | h | h <;> omega
             ·have:=hb.1.1
              have:=hb.1.2
              rcases h with h | h | h | h <;> omega
             ·have:=hb.1
              have:=hb.2
              rcases h with h | h | h | h <;> omega
             ·rw[hol.out]
              exact jbY (jad OWX.out k22 (fun _ _ h=>h)) (Nat.zero_le _)
             ·exact DMr.out.keep KXX.out (fun(e:w2.heap.size=w2.heap.size+1)=>by omega)
            have HY:IsRoot w22 (fun b=>w2.heap.size≤b∧b<w22.heap.size) (w2.heap.size+1) k (⟨(v:Int),L,G,(bg:Int),dec,ordL PL PL.length⟩:RootS):=⟨fun b hb=>hb.2,⟨by omega,by omega⟩,hok.root,w2.heap.size,aC,cC,aO,cO,aS,cS,aU,cU,css,D,HB⟩
            have HSO:SaveOk (⟨(v:Int),L,G,(bg:Int),dec,ordL PL PL.length⟩:RootS) k:=⟨hok.fit,hok.sp,hok.rt,(HNN.out _ hsome.out).1,hk1⟩
            have HS:=Lib.hid (jf2 _ _ _ _ w22 HY HSO)
            have HBB:=Lib.hid HB
            have HSOO:=Lib.hid HSO
            have HROK:=Lib.hid hok.root
            have K22:=Lib.hid (KA.out.trans k22)
            have RY:=Lib.hid ROWY
            clear RX0 hok HB HY HSO k22 HCE KXX ROWX OWX KX KA KR KT HKK K9 K79 OWC ELC HGR9 DMr PLr ROWY
            go_wp2_with fail
            clear y7
            go_fit HS.out
            rintro e w23 ⟨ys,aV,cV,hrise,hyl,rfl,ownV,k23⟩
            have hz23:=k23.size
            have HEQ:=jli aV a (jbb (⟨(v:Int),L,G,(bg:Int),dec,ordL PL PL.length⟩:RootS) ys).length cV l.length ca (jbb (⟨(v:Int),L,G,(bg:Int),dec,ordL PL PL.length⟩:RootS) ys) l w23 rfl rfl (Lies.of_owned ownV) (HA.out.keep (K22.out.trans k23) (fun _ _ h=>h))
            have HRI:=Lib.hid hrise
            have K23:=Lib.hid (K22.out.trans k23)
            have RY2:=RY.out.keep k23 id
            have hldY:=Whole.row (P:=Tryz.prog) jmn rfl RY2
            unfold Whole at hldY
            obtain⟨-,-,-,bM',aC',cC',aO',cO',aS',cS',aU',cU',css',D',BX⟩:=HH.out
            have RXX:=BX.row.keep K23.out id
            have hstX:=jaf (P:=Tryz.prog) (cs:=[.int .i64 (v:Int),.slice aC L.length cC,.int .i64 G.fEpoch,.int .i64 G.fBase,.slice aS G.fSpans.length cS,.int .i64 G.fMoving,.slice aU G.fCut.length cU,.int .u64 (bg:Int),.map (some w2.heap.size),.slice aO PL.length cO]) jmn RXX rfl rfl rfl
            have kS:Keep (·=g) w23 (w23.setRow g ([.int .i64 (v:Int),.slice aC L.length cC,.int .i64 G.fEpoch,.int .i64 G.fBase,.slice aS G.fSpans.length cS,.int .i64 G.fMoving,.slice aU G.fCut.length cU,.int .u64 (bg:Int),.map (some w2.heap.size),.slice aO PL.length cO]:List Value).toArray):=(Keep.refl (·=g) w23).setRow (fun _=>rfl) _
            have rowF:=RXX.setRow [.int .i64 (v:Int),.slice aC L.length cC,.int .i64 G.fEpoch,.int .i64 G.fBase,.slice aS G.fSpans.length cS,.int .i64 G.fMoving,.slice aU G.fCut.length cU,.int .u64 (bg:Int),.map (some w2.heap.size),.slice aO PL.length cO]
            have HBF:=Lib.hid (HBB.out.keep k23 ⟨by omega,by omega⟩ (fun _ _ h=>h))
            have KS:=Lib.hid kS
            have ROWF:=Lib.hid rowF
            clear HBB BX RXX rowF kS ownV k23 hrise RY RY2
            obtain⟨bE,hbE⟩:∃b,Hid (decide (jbb (⟨(v:Int),L,G,(bg:Int),dec,ordL PL PL.length⟩:RootS) ys=l)=b):=⟨_,rfl⟩
            rw[hbE.out]at HEQ
            replace HEQ:=Lib.hid HEQ
            cases bE with
            | false=>
             go_wp2_with fail
             go_fit HEQ.out
             rintro e w24 ⟨rfl,rfl⟩
             clear hldY hstX
             go_wp2_with fail
             go_ret
             refine .inl ⟨rfl,fun R2 hT=>?_,K23.out⟩
             obtain⟨h1,ys2,h2,h3⟩:=hT
             rw[hsome.out]at h1
             cases h1
             rw[HRI.out.uniq h2]at hbE
             exact(of_decide_eq_false hbE.out) h3
            | true=>
             go_wp2_with fail
             go_fit HEQ.out
             rintro e w24 ⟨rfl,rfl⟩
             go_wp2_with fail
             clear hldY hstX
             go_ret
             have hsv:=of_decide_eq_true hbE.out
             have hgO:¬(w2.heap.size≤g∧g<w22.heap.size):=fun h=>by have:=h.1;omega
             have hBM:=HBF.out.move hgO KS.out (by rw[hol.out];exact ROWF.out)
             have hzS:=KS.out.size
             refine .inr ⟨(⟨(v:Int),L,G,(bg:Int),dec,ordL PL PL.length⟩:RootS),_,k,rfl,⟨hsome.out,ys,HRI.out,hsv⟩,⟨fun b hb=>?_,.inr rfl,HROK.out,w2.heap.size,aC,cC,aO,cO,aS,cS,aU,cU,css,D,hBM⟩,HSOO.out,fun b hb=>?_,(K23.out.nix (S:=O)).then KS.out (fun i hi e=>e ▸ HH.out.og)⟩
             ·rcases hb with hb | hb
              ·have:=hb.2;omega
              ·omega
             ·rcases hb with hb | hb
              ·right;have:=hb.1;omega
              ·left;rw[hb];exact HH.out.og
           ·have tb30:decide ((bg:Int)>1073741824)=true:=decide_eq_true (by omega)
            have tb31:(1073741824:Int)<(bg:Int):=by omega
            have hno:Hid (jbr l=none):=by show _=_;rw[hE.out,if_neg (fun h=>hb30 (by have:=h.2;omega))]
            have y7:=ROWX.out.cell 7
            (try simp only[List.getElem?_cons_succ]at y7);(try simp only[List.getElem?_cons_zero]at y7)
            have RX0:=Lib.hid (fun(w':World) (k:Keep Nix wr w')=>(ROWX.out.keep k id).cell 7)
            clear hend hE hb30 y7
            go_wp2_with fail
            go_fit HCE.out
            rintro e w22 ⟨rfl,k22⟩
            have y7:=RX0.out w22 k22
            (try simp only[List.getElem?_cons_succ]at y7);(try simp only[List.getElem?_cons_zero]at y7)
            have KF:=Lib.hid (KA.out.trans k22)
            go_wp2_with fail
            go_ret
            exact jcS (hno.out) (KF.out)
          ·have te2:(endS s != 0)=true:=by simp[hend]
           have hno:Hid (jbr l=none):=by show _=_;rw[hE.out,if_neg (fun h=>hend h.1)]
           clear hend hE
           go_wp2_with fail
           go_fit HCE.out
           rintro e w22 ⟨rfl,k22⟩
           have KF:=Lib.hid (KA.out.trans k22)
           go_wp2_with fail
           go_ret
           exact jcS (hno.out) (KF.out)
         case h2a | h2b=>
          clear hK K
          try simp only[Act.put,zz1,zz2,zz3,zz4,zz5,zz6]
          refine wpAnyH_ready (rs:=[10]) (by kernel_rfl) (by simp) ?_
          refine AllReadyH.cons rfl (fun K hK=>?_) AllReadyH.nil
          refine jdk (w:=wd) (cs:=[.int .u64 u]) T_u64 (by rfl) (.tmp 128) (.tmp 133) (by rfl) wL.heap.size (by rfl) (by rfl) OWX.out rfl rfl (by unfold maxLen;omega) (by omega) hsd ?_
          intro aN cN w20 own20 k20 jax
          have hgO:¬OwnB (.slice aO j cO) (w2.heap.size+1):=fun h=>by have:=(OWX.out.lt _ h).1;omega
          have hpO:¬OwnB (.slice aO j cO) w12.heap.size:=fun h=>by have:=(OWX.out.lt _ h).1;omega
          replace rowG:=(rowG0.out).keep k20 hgO
          have K20:Hid (Keep (fun b=>b=w2.heap.size+1) wL w20):=KX.out.then k20 (fun i hi h=>by have:=(OWX.out.lt _ h).1;omega)
          have HO20:=Lib.hid own20
          have HF20:=Lib.hid jax
          have hz20:=k20.size
          refine hK.out _ _ ((HSS.out _ _ K20.out (fun(e:w12.heap.size=w2.heap.size+1)=>by omega))) (fun jaa=>?_)
          clear hK K
          try simp only[Act.put,zz1,zz2,zz3,zz4,zz5,zz6]
          clear own20 jax k20
          refine tk 11 rfl jaa ?_
          refine tk 12 rfl jaa ?_
          refine wpAnyH_ready (rs:=[13]) (by kernel_rfl) (by simp) ?_
          refine AllReadyH.cons rfl (fun K hK=>?_) AllReadyH.nil
          have x9:=rowG.cell 9
          have f9:=rowG.frozen 9
          (try simp only[List.getElem?_cons_succ]at x9);(try simp only[List.getElem?_cons_zero]at x9)
          go_simp
          clear x9 f9
          have kG:Keep (·=w2.heap.size+1) w20 (w20.setCell ⟨w2.heap.size+1,9,none⟩ (.slice aN (j+1) cN)):=(Keep.refl (·=w2.heap.size+1) w20).setCell (p:=⟨w2.heap.size+1,9,none⟩) (fun _=>rfl) _
          have rowF:=rowG.set 9 (.slice aN (j+1) cN)
          (try simp only[List.set_cons_succ]at rowF);(try simp only[List.set_cons_zero]at rowF)
          have K21:=Lib.hid (K20.out.trans kG)
          have OW21:=Lib.hid (jad HO20.out kG (fun b hb (e:b=w2.heap.size+1)=>by have:=(HO20.out.lt b hb).1;omega))
          have ROWF:=Lib.hid rowF
          refine hK.out _ _ ((HSS.out _ _ K21.out (fun(e:w12.heap.size=w2.heap.size+1)=>by omega))) (fun jaa=>?_)
          clear hK K
          try simp only[Act.put,zz1,zz2,zz3,zz4,zz5,zz6]
          clear rowG rowF kG
          refine wpAnyH_done (by kernel_rfl) ?_ _
          clear jaa
          have hord:Hid ((ordL PL (j+1)).map ivU=(ordL PL j).map ivU ++ [.int .u64 u]):=by show _=_;rw[jmQ HF.out,List.map_append];rfl
          have hall2:Hid (∀i:Nat,i<j+1→(jbp PL ((i:Int)+1)).isSome=true):=fun i hi=>by
           rcases Nat.lt_or_ge i j with h | h
           ·exact hall.out i h
           ·obtain rfl:i=j:=by omega
            rw[HF.out];rfl
          generalize w20.setCell ⟨w2.heap.size+1,9,none⟩ (.slice aN (j+1) cN)=w21 at *
          go_wp2_with fail
          go_roundw
          case rel=>exact⟨j+1,aN,cN,by omega,by go_num,hall2,ROWF.out,by rw[hord.out];exact OW21.out,K21.out⟩
          case measure=>simp[intOf];omega
 ·have tec:(ec != 0)=true:=by simp[hec]
  have hno:Hid (jbr l=none):=by show _=_;rw[hF1.out,if_pos (.inl hec)]
  clear hld y0
  go_wp2_with fail
  go_ret
  exact jcS (hno.out) (K5.out)
end
end
theorem key_ok{x:List UInt8}(h1:ltB [120] x=true)(h2:ltB x [121]=true):x≠[120]∧x.isEmpty=false∧x.head?=some 120:=by
 cases x with
 | nil=>
  cases h1
 | cons a t=>
  rw[jfD]at h1 h2
  simp only[Bool.or_eq_true,decide_eq_true_eq,Bool.and_eq_true,beq_iff_eq,jil,Bool.false_eq_true,and_false,or_false]at h1 h2
  rcases h1 with h1 | ⟨rfl,h1⟩
  ·exact absurd h2 (by have h1':=UInt8.lt_iff_toNat_lt.1 h1;have:(120:UInt8).toNat=120:=rfl;have h3:(121:UInt8).toNat=121:=rfl;intro h4;have h4':=UInt8.lt_iff_toNat_lt.1 h4;omega)
  ·refine⟨fun e=>?_,rfl,rfl⟩
   have:t=[]:=by simpa using e
   subst this
   cases h1
structure ProgP(r:GRoutes)(m:Nat):Prop where
 ep:0≤r.fEpoch∧r.fEpoch≤(m:Int)
 rt:RtOk r
 first:(r.fSpans.map (·.fFrom)).head?=some [120]
 rise:(r.fSpans.map (·.fFrom)).Pairwise (fun a b=>ltB a b=true)
 top:∀o∈r.fSpans,ltB o.fFrom [121]=true∧o.fFrom.length≤600
 tail:jex r=true
theorem ProgP.more{r:GRoutes}{m m':Nat}(h:ProgP r m)(hm:m≤m'):ProgP r m':=⟨⟨h.ep.1,by have:=h.ep.2;omega⟩,h.rt,h.first,h.rise,h.top,h.tail⟩
theorem ProgP.pos{r:GRoutes}{m:Nat}(h:ProgP r m):0<r.fSpans.length:=by
 have:=h.first
 cases hs:r.fSpans with
 | nil=>
  rw[hs]at this;cases this
 | cons o l=>
  simp
theorem ProgP.zero{r:GRoutes}{m:Nat}(h:ProgP r m)(h0:0<r.fSpans.length):r.fSpans[0].fFrom=[120]:=by
 have h1:=h.first
 rw[List.head?_map,List.head?_eq_getElem?,List.getElem?_eq_getElem h0]at h1
 simpa using h1
theorem ProgP.lt{r:GRoutes}{m:Nat}(h:ProgP r m){i j:Nat}(hj:j<r.fSpans.length)(hij:i<j):ltB (r.fSpans[i]'(by omega)).fFrom r.fSpans[j].fFrom=true:=by
 have:=List.pairwise_iff_getElem.1 h.rise i j (by simp;omega) (by simpa using hj) hij
 simpa using this
theorem ProgP.prog{r:GRoutes}{m:Nat}(h:ProgP r m):jcA r=true:=by
 have hpos:=h.pos
 have hlen:=h.rt.len
 rw[jiD]
 ·exact h.tail
 ·unfold jcu
  simp only[Bool.and_eq_true,decide_eq_true_eq]
  exact⟨h.ep.1,h.rt.base.1,h.rt.base.2,hpos,hlen⟩
 ·intro j hj
  have hr:=h.rt.rng _ (List.getElem_mem hj)
  have hseen:jeh r j r.fSpans[j].fGroup=false:=by
   unfold jeh
   rw[List.any_eq_false]
   intro o ho
   obtain⟨i,hi,rfl⟩:=List.mem_take_iff_getElem.1 ho
   have hn:=List.pairwise_iff_getElem.1 (List.nodup_iff_pairwise_ne.1 h.rt.nodup) i j (by simp;omega) (by simpa using hj) (by omega)
   simp only[isG,decide_eq_true_eq]
   simpa using hn
  unfold badP
  rw[hseen]
  cases j with
  | zero=>
   have h0:=h.zero hj
   rw[h0]
   simp
   omega
  | succ j=>
   have h1:=h.lt hj (i:=0) (by omega)
   rw[h.zero hpos]at h1
   obtain⟨k1,k2,k3⟩:=key_ok h1 (h.top _ (List.getElem_mem hj)).1
   have h3:=h.lt hj (i:=j) (by omega)
   have h4:=(h.top _ (List.getElem_mem hj)).2
   rw[Nat.add_sub_cancel,jcF (show j<r.fSpans.length by omega),h3,k2,k3]
   simp[k1]
   omega
theorem jkq{n:Int}{m:Nat}(h:0≤n∧n≤(m:Int))(hm:m≤1000000):upI n=n+1:=by unfold upI;rw[IntKind.wrap_i64];omega
theorem ProgP.still{r:GRoutes}{m:Nat}(h:ProgP r m)(hm:m≤1000000):ProgP (jcH r) (m+1):=by
 have he:=jkq h.ep hm
 refine⟨?_,h.rt.still,h.first,h.rise,h.top,?_⟩
 ·show 0≤upI r.fEpoch∧upI r.fEpoch≤((m+1:Nat):Int)
  rw[he];have:=h.ep;omega
 ·unfold jex jcH;rfl
theorem ProgP.cut{r:GRoutes}{m:Nat}(h:ProgP r m)(hm:m≤1000000)(g:Int)(l:List UInt8):ProgP (cutF r g l).1 (m+1):=by
 have hrt:=h.rt.cut g l
 unfold cutF at hrt ⊢
 split
 ·exact h.more (Nat.le_succ m)
 ·split
  ·exact h.more (Nat.le_succ m)
  ·rename_i h2
   split
   ·exact h.more (Nat.le_succ m)
   ·rename_i h3
    have he:=jkq h.ep hm
    rename_i h1
    rw[if_neg h1,if_neg h2,if_neg h3]at hrt
    refine⟨?_,hrt,h.first,h.rise,h.top,?_⟩
    ·show 0≤upI r.fEpoch∧upI r.fEpoch≤((m+1:Nat):Int)
     rw[he];have:=h.ep;omega
    ·have hg:g≠0:=by
      rcases jcL g r.fSpans with⟨-,h4,-⟩ | ⟨k,hk,-,-,h5,-⟩
      ·rw[h4]at h2;exact absurd (by decide) h2
      ·have:=h.rt.rng _ (List.getElem_mem hk)
       have:=h.rt.base
       omega
     simp only[not_or]at h3
     unfold jex
     rw[if_neg hg]
     have hb:jdm r.fSpans g l=true:=by simpa using h3.1
     rw[hb]
     simp
     omega
theorem ProgP.moved{r:GRoutes}{m:Nat}(h:ProgP r m)(hm:m≤1000000)(g:Int):ProgP (jbS r g).1 (m+1):=by
 have hrt:=h.rt.moved g
 have htl:=h.tail
 unfold jbS at hrt ⊢
 split
 ·exact h.more (Nat.le_succ m)
 ·rename_i h1
  split
  ·exact h.more (Nat.le_succ m)
  ·rename_i h2
   rw[if_neg h1,if_neg h2]at hrt
   unfold jex at htl
   rw[if_neg h1]at htl
   simp only[Bool.and_eq_true,decide_eq_true_eq]at htl
   obtain⟨hb,hc6⟩:=htl
   rcases jcL r.fMoving r.fSpans with⟨h4,-,-⟩ | ⟨j,hj,h4,h5,-,-⟩
   ·unfold jdm jdF at hb
    rw[h4]at hb
    cases hb
   ·have hB:ltB r.fSpans[j].fFrom r.fCut=true∧ltB r.fCut (ja8 r.fSpans (j+1))=true:=by
     unfold jdm jdF at hb
     rw[h4]at hb
     simp only[jjp,Bool.and_eq_true]at hb
     rw[jcF hj]at hb
     exact hb.2
    have hjt:(jb2 r.fMoving r.fSpans+1).toNat=j+1:=by rw[h5];omega
    have he:=jkq h.ep hm
    have hcT:ltB r.fCut [121]=true:=by
     rcases Nat.lt_or_ge (j+1) r.fSpans.length with hl | hl
     ·rw[jcF hl]at hB
      exact jfp hB.2 (h.top _ (List.getElem_mem hl)).1
     ·rw[ji4 hl]at hB
      exact hB.2
    refine⟨?_,hrt,?_,?_,?_,rfl⟩
    ·show 0≤upI r.fEpoch∧upI r.fEpoch≤((m+1:Nat):Int)
     rw[he];have:=h.ep;omega
    ·show((insG r.fSpans (jb2 r.fMoving r.fSpans+1).toNat ⟨g,r.fCut⟩).map (·.fFrom)).head?=some [120]
     rw[hjt]
     unfold insG
     have h0:=h.first
     cases hs:r.fSpans with
     | nil=>
      rw[hs]at h0;cases h0
     | cons o l=>
      rw[hs]at h0;simpa using h0
    ·show((insG r.fSpans (jb2 r.fMoving r.fSpans+1).toNat ⟨g,r.fCut⟩).map (·.fFrom)).Pairwise _
     rw[hjt]
     unfold insG
     rw[List.map_append,List.map_cons]
     have hp:=h.rise
     rw[←List.take_append_drop (j+1) r.fSpans,List.map_append,List.pairwise_append]at hp
     obtain⟨p1,p2,p3⟩:=hp
     refine List.pairwise_append.2 ⟨p1,List.pairwise_cons.2 ⟨fun x hx=>?_,p2⟩,fun x hx y hy=>?_⟩
     ·obtain⟨o,ho,rfl⟩:=List.mem_map.1 hx
      obtain⟨i,hi,rfl⟩:=List.mem_drop_iff_getElem.1 ho
      have hl:j+1<r.fSpans.length:=by omega
      rw[jcF hl]at hB
      cases i with
      | zero=>
       exact hB.2
      | succ i=>
       exact jfp hB.2 (h.lt (i:=j+1) (by omega) (by omega))
     ·rcases List.mem_cons.1 hy with rfl | hy
      ·obtain⟨o,ho,rfl⟩:=List.mem_map.1 hx
       obtain⟨i,hi,rfl⟩:=List.mem_take_iff_getElem.1 ho
       rcases Nat.lt_or_ge i j with hij | hij
       ·exact jfp (h.lt hj hij) hB.1
       ·obtain rfl:i=j:=by omega
        exact hB.1
      ·exact p3 x hx y hy
    ·intro o ho
     have ho':o∈insG r.fSpans (jb2 r.fMoving r.fSpans+1).toNat ⟨g,r.fCut⟩:=ho
     unfold insG at ho'
     rcases List.mem_append.1 ho' with hx | hx
     ·exact h.top o (List.mem_of_mem_take hx)
     ·rcases List.mem_cons.1 hx with hx | hx
      ·subst hx;exact⟨hcT,hc6⟩
      ·exact h.top o (List.mem_of_mem_drop hx)
structure DecOk(R:RootS):Prop where
 ord:∀(i:Nat) (t:Int),R.order[i]?=some t→R.dec t=some ((i:Int)+1)
 dec:∀t p,R.dec t=some p→p=0∨∃i:Nat,p=(i:Int)+1∧R.order[i]?=some t
theorem DecOk.same{R R':RootS}(h:DecOk R)(h1:R'.order=R.order)(h2:R'.dec=R.dec):DecOk R':=⟨fun i t ht=>by rw[h2];exact h.ord i t (h1 ▸ ht),fun t p hp=>by rw[h1];exact h.dec t p (h2 ▸ hp)⟩
theorem DecOk.decide{R:RootS}(h:DecOk R)(t:Int)(b:Bool):DecOk (jaB R t b).2.2:=by
 unfold jaB
 split
 ·exact h
 ·split
  ·split
   ·exact h
   ·exact h
  ·rename_i hn
   split
   ·refine⟨fun i t' ht=>?_,fun t' p hp=>?_⟩
    ·have ht':(R.order ++ [t])[i]?=some t':=ht
     show updD R.dec t ((R.order.length:Int)+1) t'=some ((i:Int)+1)
     unfold updD
     by_cases hi:i<R.order.length
     ·rw[List.getElem?_append_left hi]at ht'
      have h1:=h.ord i t' ht'
      have hne:t'≠t:=fun e=>by rw[e,hn]at h1;cases h1
      rw[if_neg hne];exact h1
     ·rw[List.getElem?_append_right (by omega)]at ht'
      have hi0:i - R.order.length=0:=by
       have:=(List.getElem?_eq_some_iff.1 ht').1
       simp at this
       omega
      rw[hi0]at ht'
      have:t'=t:=by simpa using ht'.symm
      rw[if_pos this]
      congr 2
      omega
    ·have hp':updD R.dec t ((R.order.length:Int)+1) t'=some p:=hp
     show p=0∨∃i:Nat,p=(i:Int)+1∧(R.order ++ [t])[i]?=some t'
     unfold updD at hp'
     split at hp'
     ·rename_i he
      cases hp'
      exact .inr ⟨R.order.length,rfl,by rw[List.getElem?_append_right (Nat.le_refl _),Nat.sub_self,he];rfl⟩
     ·rcases h.dec t' p hp' with h0 | ⟨i,h1,h2⟩
      ·exact .inl h0
      ·exact .inr ⟨i,h1,by rw[List.getElem?_append_left (List.getElem?_eq_some_iff.1 h2).1];exact h2⟩
   ·refine⟨fun i t' ht=>?_,fun t' p hp=>?_⟩
    ·have h1:=h.ord i t' ht
     show updD R.dec t 0 t'=some ((i:Int)+1)
     unfold updD
     have hne:t'≠t:=fun e=>by rw[e,hn]at h1;cases h1
     rw[if_neg hne];exact h1
    ·have hp':updD R.dec t 0 t'=some p:=hp
     unfold updD at hp'
     split at hp'
     ·cases hp';exact .inl rfl
     ·exact h.dec t' p hp'
theorem jnr(s:Int)(r:GRoutes):DecOk (jbT s r):=⟨fun i t h=>by simp[jbT]at h,fun t p h=>by cases h⟩
end Go.Proofs.YtibaehlfpgipfaaGreat
