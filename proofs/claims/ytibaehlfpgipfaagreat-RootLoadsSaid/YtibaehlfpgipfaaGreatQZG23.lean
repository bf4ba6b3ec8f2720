/- ROOT: awake. Printed by mac.py. -/
import Derived.Test.YtibaehlfpgipfaaGreatQZG16
import Derived.Test.YtibaehlfpgipfaaGreatQZG22
import Derived.Test.YtibaehlfpgipfaaGreatQZG3
namespace Go.Proofs.YtibaehlfpgipfaaGreat
open Go.RowKit
set_option maxRecDepth 100000
set_option maxHeartbeats 4000000
section
def cmdV(k t n:Int)(f:Bool)(ti:Int)(tn:ByteArray)(aT:Option Addr)(nT cT:Nat)(aK:Option Addr)(nK cK:Nat):List Value:=
 [.int .i64 k,.int .i64 0,.int .u64 t,.int .i64 n,.int .i64 0,.int .i64 0,.bool f,.slice none 0 0,.slice none 0 0,.slice none 0 0,.slice none 0 0,.slice none 0 0,.slice none 0 0,.int .i64 ti,.string tn,.slice aT nT cT,.slice aK nK cK,.int .i64 0,.int .i64 0,.string ⟨#[]⟩,.slice none 0 0,.bool false,.int .i64 0,.bool false,.string ⟨#[]⟩]
structure IsAt(W w:World)(O:Nat→Prop)(g n:Nat)(R:RootS):Prop where
 is:IsRoot w O g n R
 new:∀b,O b→W.heap.size≤b
 kept:Keep Nix W w
theorem IsAt.nix{W w w':World}{O:Nat→Prop}{g n:Nat}{R:RootS}(h:IsAt W w O g n R)(k:Keep Nix w w'):IsAt W w' O g n R:=⟨h.is.nix k,h.new,h.kept.trans k⟩
theorem IsAt.run{W w w':World}{O:Nat→Prop}{g n:Nat}{R:RootS}{y:GReply×RootS}{e:Ending}(h:IsAt W w O g n R)(post:RunPost w O g n y e w'):∃(cs:List Value) (O':Nat→Prop),e=.returned (.agg cs.toArray)∧jc4 w' (fun b=>w.heap.size≤b∧b<w'.heap.size∧¬O' b) cs y.1∧IsAt W w' O' g (n+1) y.2∧Keep O w w'∧(∀b,O' b→O b∨w.heap.size≤b):=by
 obtain⟨cs,O',R',h1,h2,h3,h4,h5,h6,h7⟩:=post
 have hs:=h.kept.size
 exact⟨cs,O',h1,rGReply_lawful.mono h2 h3,⟨h4,fun b hb=>(h5 b hb).elim (h.new b) (fun h=>by omega),h.kept.then h7 (fun i hi ho=>by have:=h.new i ho;omega)⟩,h7,h5⟩
theorem jfr{w:World}{p:Nat→Prop}{cs:List Value}{y:GReply}(h:jc4 w p cs y):cs[0]?=some (.int .i64 y.fErr)∧cs[1]?=some (.int .u64 y.fTxn)∧cs[2]?=some (.int .i64 y.fN):=by
 obtain⟨_,_,_,_,_,_,_,_,_,_,_,_,rfl,-⟩:=jee h
 exact⟨rfl,rfl,rfl⟩
section
attribute [local go_sem ↓] jct
theorem jiI(W:World):Calls Tryz.prog 7 #[] W fun e w'=>e=.returned (.bool true)∧Keep Nix W w':=by
 have HN:=Lib.hid (jiJ 1 1 W ⟨by decide,by decide⟩ ⟨by decide,by decide⟩)
 go_enter Tryz.func7,Tryz.ntmps7
 go_wp2_with fail
 go_fit HN.out
 rintro e w1 ⟨g,O,rfl,H1,hO1,k1⟩
 clear HN
 have A1:IsAt W w1 O g 0 _:=⟨H1,hO1,k1⟩
 clear H1 hO1 k1
 obtain⟨r,hr⟩:∃r:GRoutes,Hid ((⟨0,1,[⟨1+1,[120]⟩],0,[]⟩:GRoutes)=r):=⟨_,rfl⟩
 rw[hr.out]at A1
 clear hr
 have HC:=Lib.hid (jiK O g 0 _ (cmdV 11 0 0 false 0 ⟨#[]⟩ none 0 0 none 0 0) w1 A1.is rfl (by show(0:Int)≤_;decide))
 unfold cmdV at HC
 go_wp2_with fail
 go_fit HC.out
 rintro e w2 hpost
 obtain⟨cs2,O2,rfl,hr2,A2,k2,ho2'⟩:=A1.run hpost
 clear hpost HC
 have hl2:=rGReply_lawful.len hr2
 have ho2:=jcU hr2
 obtain⟨hst2,rowB2,kV2⟩:=jds (P:=Tryz.prog) (zs:=[.int .i64 0,.int .u64 0,.int .i64 0,.bool false,.slice none 0 0,.slice none 0 0,.int .i64 0,.int .i64 0,.slice none 0 0,.slice none 0 0,.int .i64 0,.int .i64 0,.slice none 0 0,.int .i64 0,.slice none 0 0]) S_Reply w2 rfl hl2 ho2
 have c1:((w2.alloc (.cells [.int .i64 0,.int .u64 0,.int .i64 0,.bool false,.slice none 0 0,.slice none 0 0,.int .i64 0,.int .i64 0,.slice none 0 0,.slice none 0 0,.int .i64 0,.int .i64 0,.slice none 0 0,.int .i64 0,.slice none 0 0].toArray 55)).setRow w2.heap.size cs2.toArray).cell? ⟨w2.heap.size,1,none⟩=some (.int .u64 1):=(rowB2.cell 1).trans (jfr hr2).2.1
 have A3:=A2.nix kV2
 have hbo:Hid (∀b,O2 b→b≠w2.heap.size):=fun b hb e=>by have:=A2.is.lt b hb;omega
 have ROW2:=Lib.hid rowB2
 have C1:=Lib.hid (jfr hr2).2.1
 have hd:Hid (jaB (bump (jbT 1 r)) 1 (jfn (bump (jbT 1 r)) 0 true)=(0,1,(jaB (bump (jbT 1 r)) 1 true).2.2)):=by show _=_;rfl
 have HC:=Lib.hid (jhH O2 g 1 _ (cmdV 12 1 0 true 0 ⟨#[]⟩ none 0 0 none 0 0) 1 0 true _ A3.is rfl rfl rfl rfl (by decide) ⟨by decide,by decide⟩ (by show 0≤_;decide))
 unfold cmdV at HC
 clear rowB2 hr2 kV2 A2 k2 ho2' hl2 ho2 c1
 go_wp2_with fail
 clear hst2
 go_fit HC.out
 rintro e w4 hpost
 obtain⟨cs4,O4,rfl,hr4,A4,k4,-⟩:=A3.run hpost
 clear hpost HC
 have hl4:=rGReply_lawful.len hr4
 have ho4:=jcU hr4
 obtain⟨hst4,rowB4,kV4⟩:=jds (P:=Tryz.prog) (zs:=[.int .i64 0,.int .u64 0,.int .i64 0,.bool false,.slice none 0 0,.slice none 0 0,.int .i64 0,.int .i64 0,.slice none 0 0,.slice none 0 0,.int .i64 0,.int .i64 0,.slice none 0 0,.int .i64 0,.slice none 0 0]) S_Reply w4 rfl hl4 ho4
 have rowC:=(ROW2.out.keep k4 (fun h=>hbo.out _ h rfl)).keep kV4 id
 have z1:=(rowC.cell 1).trans C1.out
 have z0:=(rowB4.cell 0).trans (jfr hr4).1
 have z2:=(rowB4.cell 2).trans (jfr hr4).2.2
 replace z1:((w4.alloc (.cells [.int .i64 0,.int .u64 0,.int .i64 0,.bool false,.slice none 0 0,.slice none 0 0,.int .i64 0,.int .i64 0,.slice none 0 0,.slice none 0 0,.int .i64 0,.int .i64 0,.slice none 0 0,.int .i64 0,.slice none 0 0].toArray 55)).setRow w4.heap.size cs4.toArray).cell? ⟨w2.heap.size,1,none⟩=some (.int .u64 1):=z1
 replace z0:((w4.alloc (.cells [.int .i64 0,.int .u64 0,.int .i64 0,.bool false,.slice none 0 0,.slice none 0 0,.int .i64 0,.int .i64 0,.slice none 0 0,.slice none 0 0,.int .i64 0,.int .i64 0,.slice none 0 0,.int .i64 0,.slice none 0 0].toArray 55)).setRow w4.heap.size cs4.toArray).cell? ⟨w4.heap.size,0,none⟩=some (.int .i64 0):=by rw[z0];show some (Value.int .i64 (jaB _ _ _).1)=_;rw[hd.out]
 replace z2:((w4.alloc (.cells [.int .i64 0,.int .u64 0,.int .i64 0,.bool false,.slice none 0 0,.slice none 0 0,.int .i64 0,.int .i64 0,.slice none 0 0,.slice none 0 0,.int .i64 0,.int .i64 0,.slice none 0 0,.int .i64 0,.slice none 0 0].toArray 55)).setRow w4.heap.size cs4.toArray).cell? ⟨w4.heap.size,2,none⟩=some (.int .i64 1):=by rw[z2];show some (Value.int .i64 (jaB _ _ _).2.1)=_;rw[hd.out]
 have K:=Lib.hid (A4.kept.trans kV4)
 clear rowB4 rowC hr4 A4 k4 kV4 A3 hl4 ho4
 go_wp2_with fail
 go_ret
 exact⟨rfl,K.out⟩
end
end
section
theorem jiP{c:GCatalog}{t:GTable}(h:jb4 c):((ja9 c t).2=0→jb4 (ja9 c t).1∧(ja9 c t).1.fVersion=c.fVersion+1)∧jae (ja9 c t).2:=by
 unfold ja9
 split
 ·exact⟨fun h=>absurd (show(9:Int)=0 from h) (by decide),(⟨by decide,by decide⟩:jae 9)⟩
 ·rename_i h1
  split
  ·exact⟨fun h=>absurd (show(6:Int)=0 from h) (by decide),(⟨by decide,by decide⟩:jae 6)⟩
  ·split
   ·exact⟨fun h=>absurd (show(4:Int)=0 from h) (by decide),(⟨by decide,by decide⟩:jae 4)⟩
   ·rename_i h3
    have hb:=jfb (by cases hq:jbq t with | true=>rfl | false=>exact absurd hq h1)
    refine⟨fun _=>⟨⟨fun d hd=>?_,h.2.1,?_,h.2.2.2⟩,rfl⟩,(⟨by decide,by decide⟩:jae 0)⟩
    ·rcases List.mem_append.1 hd with hd | hd
     ·exact h.1 d hd
     ·have:d={t with fID:=c.fNext}:=by simpa using hd
      subst this
      exact⟨by show t.fColumns.length≤_;omega,by show t.fKey.length≤_;omega⟩
    ·show(c.fTables ++ [_]).length≤_
     rw[List.length_append,List.length_singleton]
     omega
section
attribute [local go_sem ↓] jct
end
end
theorem jlj{n:Int}(h0:0≤n)(h1:n≤100):jae n:=⟨by omega,by omega⟩
theorem jfN{c:GCatalog}(h:jb4 c)(k:Nat)(x:GIndex)(hx:x.fColumns.length≤1000):jb4 (jcx c k x):=by
 refine⟨h.1,fun y hy=>?_,h.2.2.1,?_⟩
 ·rcases List.mem_or_eq_of_mem_set hy with hy | hy
  ·exact h.2.1 y hy
  ·subst hy;exact hx
 ·show(c.fIndexes.set k x).length≤_
  rw[List.length_set]
  exact h.2.2.2
theorem jlY{c:GCatalog}(h:jb4 c)(k:Nat):jb4 (jdt c k):=by
 refine⟨h.1,fun y hy=>h.2.1 y (List.mem_of_mem_eraseIdx hy),h.2.2.1,?_⟩
 show(c.fIndexes.eraseIdx k).length≤_
 have:=List.length_eraseIdx_le (l:=c.fIndexes) (i:=k)
 have:=h.2.2.2
 omega
def Fine(c:GCatalog)(y:GCatalog×Int):Prop:=(y.2=0→jb4 y.1∧y.1.fVersion=c.fVersion+1)∧jae y.2
theorem Fine.no{c:GCatalog}{n:Int}(h0:0<n)(h1:n≤100):Fine c (c,n):=⟨fun h=>absurd (show n=0 from h) (by omega),jlj (n:=n) (by omega) h1⟩
theorem Fine.yes{c d:GCatalog}(h:jb4 d)(hv:d.fVersion=c.fVersion+1):Fine c (d,0):=⟨fun _=>⟨h,hv⟩,jlj (n:=0) (by decide) (by decide)⟩
theorem jiO{c:GCatalog}{x:GIndex}{tn:List UInt8}(h:jb4 c)(hx:x.fColumns.length≤1000):Fine c (jaH c x tn):=by
 unfold jaH
 simp only
 split
 ·exact Fine.no (by decide) (by decide)
 ·split
  ·exact Fine.no (by decide) (by decide)
  ·split
   ·exact Fine.no (by decide) (by decide)
   ·split
    ·exact Fine.no (by decide) (by decide)
    ·rename_i h4
     refine Fine.yes ⟨h.1,fun y hy=>?_,h.2.2.1,?_⟩ rfl
     ·rcases List.mem_append.1 hy with hy | hy
      ·exact h.2.1 y hy
      ·have:y=newX c x (jbj (fun t=>decide (t.fName=tn)) c.fTables zTab).1.fID:=by simpa using hy
       subst this
       exact hx
     ·show(c.fIndexes ++ [_]).length≤_
      rw[List.length_append,List.length_singleton]
      omega
theorem jmy{c:GCatalog}{nm:List UInt8}(h:jb4 c):Fine c (jbU c nm):=by
 unfold jbU
 rcases jb6 (fun x:GIndex=>decide (x.fName=nm)) c.fIndexes with⟨h1,-⟩ | ⟨k,hk,h1,-,-⟩
 ·rw[h1,jel];exact Fine.no (by decide) (by decide)
 ·rw[h1,jek hk]
  have hx:=h.2.1 _ (List.getElem_mem hk)
  unfold jdD
  split
  ·exact Fine.yes (jfN h k _ hx) rfl
  ·split
   ·exact Fine.yes (jfN h k _ hx) rfl
   ·exact Fine.no (by decide) (by decide)
theorem jnu{c:GCatalog}{d f t:Int}{bad:Bool}(h:jb4 c):Fine c (jaS c d f t bad):=by
 unfold jaS
 rcases jb6 (fun x:GIndex=>decide (x.fID=d)) c.fIndexes with⟨h1,-⟩ | ⟨k,hk,h1,-,-⟩
 ·rw[h1,jel];exact Fine.no (by decide) (by decide)
 ·rw[h1,jek hk]
  have hx:=h.2.1 _ (List.getElem_mem hk)
  unfold jcX
  split
  ·exact Fine.no (by decide) (by decide)
  ·split
   ·exact Fine.yes (jlY h k) rfl
   ·exact Fine.yes (jfN h k _ hx) rfl
def decP(R:RootS)(t:Int)(b:Bool):GReply×RootS:=(repG (jaB R t b).1 0 (jaB R t b).2.1,(jaB R t b).2.2)
def runF(R:RootS)(c:GCommand):GReply×RootS:=
 if c.fKind=11 then(repL (R.begun+1) 0 (jah R) R.routes,bump R)
 else if c.fKind=12 then decP R c.fTxn (jfn R c.fN c.fFlag)
 else if c.fKind=13 then decP R c.fTxn false
 else if c.fKind=14 then jbs R 0 (ja9 (jah R) c.fTable)
 else if c.fKind=15 then jbs R (IntKind.u64.wrap (jah R).fNext) (jaH (jah R) c.fIndex c.fName)
 else if c.fKind=16 then jbs R 0 (jbU (jah R) c.fName)
 else if c.fKind=17 then jbs R 0 (jaS (jah R) c.fN c.fFrom c.fTo c.fFlag)
 else if c.fKind=18∨c.fKind=19 then jbD R c.fKind c.fN c.fFlag c.fKey
 else if c.fKind=20 then(repL 0 R.begun (jah R) R.routes,R)
 else(repG 1 0 0,R)
structure Small(k:Nat)(R:RootS):Prop where
 cats:R.cats.length≤k+1
 ord:R.order.length≤k
 beg:R.begun≤(k:Int)
 rt:RtOk R.routes
 dom:∀t p,R.dec t=some p→t≠0∧t≤R.begun
theorem Small.more{k:Nat}{R:RootS}(h:Small k R):Small (k+1) R:=⟨by have:=h.cats;omega,by have:=h.ord;omega,by have:=h.beg;omega,h.rt,h.dom⟩
theorem Small.dec{k:Nat}{R:RootS}(h:Small k R)(t:Int)(b:Bool):Small (k+1) (jaB R t b).2.2:=by
 have h1:=h.cats
 have h2:=h.ord
 have h3:=h.beg
 unfold jaB
 split
 ·exact h.more
 ·rename_i hb
  have hd:∀x t' p,updD R.dec t x t'=some p→t'≠0∧t'≤R.begun:=fun x t' p hp=>by
   unfold updD at hp
   split at hp
   ·rename_i he
    subst he
    omega
   ·exact h.dom t' p hp
  split
  ·split
   ·exact h.more
   ·exact h.more
  ·split
   ·exact⟨by show R.cats.length≤_;omega,by show(R.order ++ [t]).length≤_;rw[List.length_append,List.length_singleton];omega,by show R.begun≤_;omega,h.rt,hd _⟩
   ·exact⟨by show R.cats.length≤_;omega,by show R.order.length≤_;omega,by show R.begun≤_;omega,h.rt,hd _⟩
theorem Small.change{k:Nat}{R:RootS}(h:Small k R)(id:Int)(y:GCatalog×Int):Small (k+1) (jbs R id y).2:=by
 have h1:=h.cats
 have h2:=h.ord
 have h3:=h.beg
 unfold jbs
 split
 ·exact⟨by show(R.cats ++ [y.1]).length≤_;rw[List.length_append,List.length_singleton];omega,by show R.order.length≤_;omega,by show R.begun≤_;omega,h.rt,h.dom⟩
 ·exact h.more
theorem joo{R:RootS}(h:RtOk R.routes)(k x:Int)(f:Bool)(l:List UInt8):RtOk (jcG R k x f l).2.1:=by
 unfold jcG
 split
 ·exact h
 ·split
  ·exact h.cut x l
  ·split
   ·exact h
   ·split
    ·exact h.still
    ·split
     ·exact h
     ·exact h.moved x
theorem Small.move{k:Nat}{R:RootS}(h:Small k R)(kd x:Int)(f:Bool)(l:List UInt8):Small (k+1) (jbD R kd x f l).2:=by
 have h1:=h.cats
 have h2:=h.ord
 have h3:=h.beg
 unfold jbD jh5
 split
 ·exact⟨by show R.cats.length≤_;omega,by show R.order.length≤_;omega,by show R.begun≤_;omega,joo h.rt _ _ _ _,h.dom⟩
 ·exact h.more
theorem Small.run{k:Nat}{R:RootS}(h:Small k R)(c:GCommand):Small (k+1) (runF R c).2:=by
 have h1:=h.cats
 have h2:=h.ord
 have h3:=h.beg
 unfold runF
 split
 ·exact⟨by show R.cats.length≤_;omega,by show R.order.length≤_;omega,by show R.begun+1≤_;omega,h.rt,fun t p hp=>by have:=h.dom t p hp;exact⟨this.1,by show t≤R.begun+1;omega⟩⟩
 ·split
  ·exact h.dec _ _
  ·split
   ·exact h.dec _ _
   ·split
    ·exact h.change _ _
    ·split
     ·exact h.change _ _
     ·split
      ·exact h.change _ _
      ·split
       ·exact h.change _ _
       ·split
        ·exact h.move _ _ _ _
        ·split
         ·exact h.more
         ·exact h.more
theorem jp8{p:Nat→Prop}{k:Nat}(O:Nat→Prop)(g n:Nat)(R:RootS)(c:GCommand)(ccs:List Value)(w:World)(H:IsRoot w O g n R)(hS:Small k R)(hkb:k≤80000)(hn:n<1000000)(hc:jdb w p ccs c)(hp:∀b,p b→b<w.heap.size)(hx:c.fIndex.fColumns.length≤1000) :
  Calls Tryz.prog 9 #[.pointer (some ⟨g,0,none⟩),.agg ccs.toArray] w (RunPost w O g n (runF R c)):=by
 have h1:=hS.cats
 have h2:=hS.ord
 have h3:=hS.beg
 have hpos:0<R.cats.length:=List.length_pos_iff.2 H.ok.ex
 have hsm:=(H.ok.small (jah R) (by
  unfold jah
  rw[List.getLast?_eq_getElem?,List.getElem?_eq_getElem (by omega)]
  exact List.getElem_mem _)).1
 obtain⟨aKey,cKey,aSF,cSF,aST,cST,aP,cP,aSe,cSe,aWr,cWr,aTC,cTC,aTK,cTK,aIC,cIC,rfl,iK,iE,uT,iN,iF,iT,hKey,-,-,-,-,hT,hI,-⟩:=jen hc
 by_cases e:c.fKind=11
 ·rw[show runF R c=_ from by unfold runF;rw[if_pos e]]
  exact jiK O g n R _ w H (by rw[←e];rfl) (by omega)
 by_cases e:c.fKind=12
 ·rw[show runF R c=_ from by unfold runF;rw[if_neg (by omega),if_pos e]]
  exact jhH O g n R _ c.fTxn c.fN c.fFlag w H (by rw[←e];rfl) rfl rfl rfl hn uT (by omega)
 by_cases e:c.fKind=13
 ·rw[show runF R c=_ from by unfold runF;rw[if_neg (by omega),if_neg (by omega),if_pos e]]
  exact jp9 O g n R _ c.fTxn w H (by rw[←e];rfl) rfl hn uT (by omega)
 by_cases e:c.fKind=14
 ·rw[show runF R c=_ from by unfold runF;rw[if_neg (by omega),if_neg (by omega),if_neg (by omega),if_pos e]]
  have hy:=jiP (t:=c.fTable) hsm
  exact jeG O g n R _ 14 _ w H (by rw[←e];rfl) (.inl rfl) rfl (fun w' k'=>jjB O g n R _ _ c.fTable p w' (H.nix k') (by rw[←e];rfl) rfl (rGTable_lawful.nix hT k') (fun b hb=>by have:=hp b hb;have:=k'.size;omega) (by omega) hy.1 hy.2)
 by_cases e:c.fKind=15
 ·rw[show runF R c=_ from by unfold runF;rw[if_neg (by omega),if_neg (by omega),if_neg (by omega),if_neg (by omega),if_pos e]]
  have hy:=jiO (x:=c.fIndex) (tn:=c.fName) hsm hx
  exact jeG O g n R _ 15 _ w H (by rw[←e];rfl) (.inr (.inl rfl)) rfl (fun w' k'=>jjA O g n R _ _ c.fIndex c.fName _ rfl p w' (H.nix k') (by rw[←e];rfl) rfl rfl (rGIndex_lawful.nix hI k') (fun b hb=>by have:=hp b hb;have:=k'.size;omega) (by omega) (by omega) hy.1 hy.2)
 by_cases e:c.fKind=16
 ·rw[show runF R c=_ from by unfold runF;rw[if_neg (by omega),if_neg (by omega),if_neg (by omega),if_neg (by omega),if_neg (by omega),if_pos e]]
  have hy:=jmy (nm:=c.fName) hsm
  exact jeG O g n R _ 16 _ w H (by rw[←e];rfl) (.inr (.inr (.inl rfl))) rfl (fun w' k'=>jkw O g n R _ c.fName w' (H.nix k') (by rw[←e];rfl) rfl (by omega) hy.1 hy.2)
 by_cases e:c.fKind=17
 ·rw[show runF R c=_ from by unfold runF;rw[if_neg (by omega),if_neg (by omega),if_neg (by omega),if_neg (by omega),if_neg (by omega),if_neg (by omega),if_pos e]]
  have hy:=jnu (d:=c.fN) (f:=c.fFrom) (t:=c.fTo) (bad:=c.fFlag) hsm
  exact jeG O g n R _ 17 _ w H (by rw[←e];rfl) (.inr (.inr (.inr rfl))) rfl (fun w' k'=>jkx O g n R _ c.fN c.fFrom c.fTo c.fFlag w' (H.nix k') (by rw[←e];rfl) rfl rfl rfl rfl iT (by omega) hy.1 hy.2)
 by_cases e:c.fKind=18∨c.fKind=19
 ·rw[show runF R c=_ from by unfold runF;rw[if_neg (by omega),if_neg (by omega),if_neg (by omega),if_neg (by omega),if_neg (by omega),if_neg (by omega),if_neg (by omega),if_pos e]]
  exact jo5 O g n R _ c.fKind _ w H rfl e rfl (fun w' k'=>move_c O g n R _ c.fKind c.fN c.fFlag _ _ c.fKey p w' (H.nix k') hS.rt rfl rfl rfl rfl (LB.keep (show LB w p aKey cKey c.fKey from hKey) k') iN e)
 by_cases e':c.fKind=20
 ·rw[show runF R c=_ from by unfold runF;rw[if_neg (by omega),if_neg (by omega),if_neg (by omega),if_neg (by omega),if_neg (by omega),if_neg (by omega),if_neg (by omega),if_neg e,if_pos e']]
  exact jo4 O g n R _ w H (by rw[←e'];rfl) (by omega)
 ·rw[show runF R c=_ from by unfold runF;rw[if_neg (by omega),if_neg (by omega),if_neg (by omega),if_neg (by omega),if_neg (by omega),if_neg (by omega),if_neg (by omega),if_neg e,if_neg e']]
  exact jo6 O g n R _ c.fKind w H rfl (by omega)
def FitT(t:GTable):Prop:=t.fName.length≤20∧t.fColumns.length≤6∧(∀c∈t.fColumns,c.fName.length≤20)∧t.fKey.length≤6
def FitX(x:GIndex):Prop:=x.fName.length≤20∧x.fColumns.length≤6
def FitC(c:GCatalog):Prop:=c.fTables.length≤6∧c.fIndexes.length≤10∧(∀t∈c.fTables,FitT t)∧∀x∈c.fIndexes,FitX x
theorem jfE{l:List UInt8}(h:jcO l=true):l.length≤20:=by
 unfold jcO at h
 simp only[Bool.and_eq_true,decide_eq_true_eq]at h
 exact h.2.2
theorem jfR{t:GTable}(h:jbq t=true):FitT t:=by
 obtain⟨h1,h2⟩:=jfb h
 unfold jbq at h
 simp only[Bool.and_eq_true]at h
 refine⟨jfE h.1,h1,fun c hc=>?_,h2⟩
 obtain⟨i,hi,rfl⟩:=List.mem_iff_getElem.1 hc
 have hq:=h.2.2.2.1
 unfold allB at hq
 have:=of_decide_eq_true hq i hi
 rw[jld hi]at this
 unfold jgz at this
 simp only[Bool.and_eq_true]at this
 exact jfE this.1
theorem FitC.table{c:GCatalog}{t:GTable}(h:FitC c):FitC (ja9 c t).1:=by
 unfold ja9
 split
 ·exact h
 ·rename_i h1
  split
  ·exact h
  ·split
   ·exact h
   ·rename_i h3
    have hb:=jfR (t:=t) (by cases hq:jbq t with | true=>rfl | false=>exact absurd hq h1)
    refine⟨?_,h.2.1,fun d hd=>?_,h.2.2.2⟩
    ·show(c.fTables ++ [_]).length≤_
     rw[List.length_append,List.length_singleton];omega
    ·rcases List.mem_append.1 hd with hd | hd
     ·exact h.2.2.1 d hd
     ·have:d={t with fID:=c.fNext}:=by simpa using hd
      subst this
      exact hb
theorem jiN{c:GCatalog}(h:FitC c)(d:Int)(hd:(jbG c d).2=true):(jbG c d).1.fColumns.length≤6:=by
 unfold jbG jbj at hd ⊢
 cases hf:c.fTables.find? (fun t=>decide (t.fID=d))with
 | none=>
  rw[hf]at hd;cases hd
 | some t=>
  exact(h.2.2.1 t (List.mem_of_find?_eq_some hf)).2.1
theorem FitC.index{c:GCatalog}{x:GIndex}{tn:List UInt8}(h:FitC c):FitC (jaH c x tn).1:=by
 unfold jaH
 simp only
 split
 ·exact h
 ·split
  ·exact h
  ·rename_i h2
   split
   ·exact h
   ·split
    ·exact h
    ·rename_i h4
     refine⟨h.1,?_,h.2.2.1,fun y hy=>?_⟩
     ·show(c.fIndexes ++ [_]).length≤_
      rw[List.length_append,List.length_singleton]
      omega
     ·rcases List.mem_append.1 hy with hy | hy
      ·exact h.2.2.2 y hy
      ·have e:y=newX c x (jbj (fun t=>decide (t.fName=tn)) c.fTables zTab).1.fID:=by simpa using hy
       rw[←e]at h2
       have hq:jbc c y=true:=by cases hq:jbc c y with | true=>rfl | false=>exact absurd hq h2
       unfold jbc at hq
       simp only[Bool.and_eq_true]at hq
       have hc:=jiN h _ hq.1
       refine⟨jfE hq.2.1,?_⟩
       have h5:=hq.2.2.1
       unfold jcD at h5
       have h6:=of_decide_eq_true h5
       rw[show min ((jbG c y.fTable).1.fColumns.length:Int) 6=(((jbG c y.fTable).1.fColumns.length:Nat):Int)by omega]at h6
       have:=je2 _ _ h6.1
       omega
theorem FitC.set{c:GCatalog}(h:FitC c)(k:Nat)(x:GIndex)(hx:FitX x):FitC (jcx c k x):=by
 refine⟨h.1,?_,h.2.2.1,fun y hy=>?_⟩
 ·show(c.fIndexes.set k x).length≤_
  rw[List.length_set];exact h.2.1
 ·rcases List.mem_or_eq_of_mem_set hy with hy | rfl
  ·exact h.2.2.2 y hy
  ·exact hx
theorem FitC.cut{c:GCatalog}(h:FitC c)(k:Nat):FitC (jdt c k):=by
 refine⟨h.1,?_,h.2.2.1,fun y hy=>h.2.2.2 y (List.mem_of_mem_eraseIdx hy)⟩
 show(c.fIndexes.eraseIdx k).length≤_
 exact Nat.le_trans (List.length_eraseIdx_le _ _) h.2.1
theorem FitC.drop{c:GCatalog}{nm:List UInt8}(h:FitC c):FitC (jbU c nm).1:=by
 unfold jbU
 rcases jb6 (fun x:GIndex=>decide (x.fName=nm)) c.fIndexes with⟨h1,-⟩ | ⟨k,hk,h1,-,-⟩
 ·rw[h1,jel];exact h
 ·rw[h1,jek hk]
  have hx:=h.2.2.2 _ (List.getElem_mem hk)
  unfold jdD
  split
  ·exact h.set k _ hx
  ·split
   ·exact h.set k _ hx
   ·exact h
theorem FitC.step{c:GCatalog}{d f t:Int}{bad:Bool}(h:FitC c):FitC (jaS c d f t bad).1:=by
 unfold jaS
 rcases jb6 (fun x:GIndex=>decide (x.fID=d)) c.fIndexes with⟨h1,-⟩ | ⟨k,hk,h1,-,-⟩
 ·rw[h1,jel];exact h
 ·rw[h1,jek hk]
  have hx:=h.2.2.2 _ (List.getElem_mem hk)
  unfold jcX
  split
  ·exact h
  ·split
   ·exact h.cut k
   ·exact h.set k _ hx
def FitG(r:GRoutes):Prop:=(∀o∈r.fSpans,o.fFrom.length≤600)∧r.fCut.length≤600
theorem FitG.still{r:GRoutes}(h:FitG r):FitG (jcH r):=⟨h.1,Nat.zero_le _⟩
theorem FitG.cut{r:GRoutes}(h:FitG r)(g:Int)(l:List UInt8):FitG (cutF r g l).1:=by
 unfold cutF
 split
 ·exact h
 ·split
  ·exact h
  ·split
   ·exact h
   ·rename_i h3
    exact⟨h.1,by show l.length≤600;omega⟩
theorem FitG.moved{r:GRoutes}(h:FitG r)(g:Int):FitG (jbS r g).1:=by
 unfold jbS
 split
 ·exact h
 ·split
  ·exact h
  ·refine FitG.still ⟨fun o ho=>?_,h.2⟩
   unfold jea insG at ho
   simp only[List.mem_append,List.mem_cons]at ho
   rcases ho with ho | rfl | ho
   ·exact h.1 o (List.mem_of_mem_take ho)
   ·exact h.2
   ·exact h.1 o (List.mem_of_mem_drop ho)
structure FitR(R:RootS):Prop where
 cats:∀c∈R.cats,FitC c
 rts:FitG R.routes
theorem ji6{R:RootS}(h:R.cats≠[]):jah R∈R.cats:=by
 unfold jah
 rw[List.getLast?_eq_some_getLast h]
 exact List.getLast_mem h
theorem FitR.change{R:RootS}(h:FitR R)(id:Int)(y:GCatalog×Int)(hy:FitC y.1):FitR (jbs R id y).2:=by
 unfold jbs
 split
 ·refine⟨fun c hc=>?_,h.rts⟩
  have hc':c∈R.cats ++ [y.1]:=hc
  rcases List.mem_append.1 hc' with hc | hc
  ·exact h.cats c hc
  ·have:c=y.1:=by simpa using hc
   rw[this];exact hy
 ·exact h
theorem jle{R:RootS}(h:FitR R)(t:Int)(b:Bool):FitR (jaB R t b).2.2:=by
 unfold jaB
 repeat' split
 all_goals exact⟨h.cats,h.rts⟩
theorem FitR.move{R:RootS}(h:FitR R)(k x:Int)(f:Bool)(l:List UInt8):FitR (jbD R k x f l).2:=by
 unfold jbD jh5
 split
 ·refine⟨h.cats,?_⟩
  show FitG (jcG R k x f l).2.1
  unfold jcG
  repeat' split
  all_goals first | exact h.rts | exact h.rts.cut _ _ | exact h.rts.still | exact h.rts.moved _
 ·exact h
theorem FitR.run{R:RootS}(h:FitR R)(he:R.cats≠[])(c:GCommand):FitR (runF R c).2:=by
 have hl:=h.cats _ (ji6 he)
 unfold runF
 split
 ·exact⟨h.cats,h.rts⟩
 split
 ·exact jle h _ _
 split
 ·exact jle h _ _
 split
 ·exact h.change _ _ hl.table
 split
 ·exact h.change _ _ hl.index
 split
 ·exact h.change _ _ hl.drop
 split
 ·exact h.change _ _ hl.step
 split
 ·exact h.move _ _ _ _
 split
 ·exact h
 ·exact h
theorem jdl{α:Type}(f:α→Nat)(m:Nat):∀(l:List α),(∀x∈l,f x≤m)→jbF f l≤l.length*m+1
 | [],_=>by simp[jbF]
 | x :: l,h=>by
  have h1:=jdl f m l (fun y hy=>h y (by simp[hy]))
  have h2:=h x (by simp)
  unfold jbF at h1 ⊢
  rw[List.map_cons,List.sum_cons,List.length_cons,Nat.succ_mul]
  omega
end Go.Proofs.YtibaehlfpgipfaaGreat
