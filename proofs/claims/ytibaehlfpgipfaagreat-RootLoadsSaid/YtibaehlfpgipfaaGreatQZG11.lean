/- SCHEMA: which catalogs are right. Printed by gen20.py. -/
import Derived.Test.YtibaehlfpgipfaaGreatQZG10
import Derived.Deep.RegionWith
namespace Go.Proofs.YtibaehlfpgipfaaGreat
open Go.RowKit
set_option maxRecDepth 100000
set_option maxHeartbeats 8000000
section
def jbG(c:GCatalog)(d:Int):GTable×Bool:=jbj (fun t=>decide (t.fID=d)) c.fTables zTab
def jbc(c:GCatalog)(x:GIndex):Bool:=(jbG c x.fTable).2 && (jcO x.fName && (jcD (jbG c x.fTable).1.fColumns.length x.fColumns && decide (1≤x.fState∧x.fState≤7)))
section
attribute [local go_sem ↓] jcd jc2 jbB
theorem jfV{p:Nat→Prop}(c:GCatalog)(csc:List Value)(x:GIndex)(csx:List Value)(w:World)(hc:jat w p csc c)(hx:jaZ w p csx x)(hp:∀b,p b→b<w.heap.size) :
  Calls Tryz.prog 107 #[.agg csc.toArray,.agg csx.toArray] w fun e w'=>e=.returned (.bool (jbc c x))∧Keep Nix w w':=by
 obtain⟨aI,cI,rfl,-,-,hxn,hxc,hxs,-⟩:=jbA hx
 have hlc:=rGCatalog_lawful.len hc
 clear hx
 have row0:RowIs ((w.alloc (.cells csc.toArray 50)).alloc (.cells #[.int .i64 x.fID,.int .i64 x.fTable,.string (strB x.fName),.slice aI x.fColumns.length cI,.bool x.fUnique,.int .i64 x.fState,.bool x.fBad] 41)) w.heap.size 50 csc:=(RowIs.alloc w _ _).keep ((Keep.refl Nix _).alloc _) id
 have rowX:RowIs ((w.alloc (.cells csc.toArray 50)).alloc (.cells #[.int .i64 x.fID,.int .i64 x.fTable,.string (strB x.fName),.slice aI x.fColumns.length cI,.bool x.fUnique,.int .i64 x.fState,.bool x.fBad] 41)) (w.heap.size+1) 41 [.int .i64 x.fID,.int .i64 x.fTable,.string (strB x.fName),.slice aI x.fColumns.length cI,.bool x.fUnique,.int .i64 x.fState,.bool x.fBad]:=RowIs.alloc_at (w.alloc (.cells csc.toArray 50)) _ (by simp) #[.int .i64 x.fID,.int .i64 x.fTable,.string (strB x.fName),.slice aI x.fColumns.length cI,.bool x.fUnique,.int .i64 x.fState,.bool x.fBad] 41
 have kk:Keep Nix w ((w.alloc (.cells csc.toArray 50)).alloc (.cells #[.int .i64 x.fID,.int .i64 x.fTable,.string (strB x.fName),.slice aI x.fColumns.length cI,.bool x.fUnique,.int .i64 x.fState,.bool x.fBad] 41)):=((Keep.refl Nix w).alloc _).alloc _
 have ld:=Whole.row (P:=Tryz.prog) S_Catalog hlc row0
 unfold Whole at ld
 have hB:=jmq c csc x.fTable _ (rGCatalog_lawful.nix hc kk) (fun b hb=>Nat.lt_of_lt_of_le (hp b hb) kk.size)
 change Calls _ _ _ _ (jhU jaG p _ (jbG c x.fTable))at hB
 have HB:=Lib.hid hB
 obtain⟨y,hy⟩:∃y,Hid (jbG c x.fTable=y):=⟨_,rfl⟩
 rw[hy.out]at HB
 have HI:Hid (jbc c x=(y.2 && (jcO x.fName && (jcD y.1.fColumns.length x.fColumns && decide (1≤x.fState∧x.fState≤7))))):=by show _=_;unfold jbc;rw[hy.out]
 clear hB hlc hc hy
 have x1:=rowX.cell 1
 simp only[List.getElem?_cons_succ,List.getElem?_cons_zero]at x1
 go_enter Tryz.func107,Tryz.ntmps107
 go_wp2_with fail
 clear ld x1
 go_fit HB.out
 clear HB
 obtain⟨t,is⟩:=y
 rintro e w1 ⟨cst,rfl,hT,k1⟩
 replace hT:jaG w1 p cst t:=hT
 replace rowX:=rowX.keep k1 id
 replace kk:=kk.trans k1
 obtain⟨aC,cC,aK,cK,rfl,-,htn,htC,-,-⟩:=jbw hT
 have nC:=(ja0 htC).2.2
 have mC:t.fColumns.length≤140737488351232:=by have:=far_len;omega
 have hst:=jaf (P:=Tryz.prog) (cs:=[.int .i64 t.fID,.string (strB t.fName),.slice aC t.fColumns.length cC,.slice aK t.fKey.length cK]) S_Table (RowIs.alloc w1 #[.int .i64 0,.string {data:=#[]},.slice none 0 0,.slice none 0 0] 39) rfl rfl rfl
 have rowT:=(RowIs.alloc w1 #[.int .i64 0,.string {data:=#[]},.slice none 0 0,.slice none 0 0] 39).setRow [.int .i64 t.fID,.string (strB t.fName),.slice aC t.fColumns.length cC,.slice aK t.fKey.length cK]
 have kV:Keep Nix w1 ((w1.alloc (.cells #[.int .i64 0,.string {data:=#[]},.slice none 0 0,.slice none 0 0] 39)).setRow w1.heap.size [.int .i64 t.fID,.string (strB t.fName),.slice aC t.fColumns.length cC,.slice aK t.fKey.length cK].toArray):=((Keep.refl Nix w1).alloc _).setRow (fun h=>absurd h (Nat.lt_irrefl _)) _
 replace rowX:=rowX.keep kV id
 replace kk:=kk.trans kV
 replace hxc:=(jac (jab _)).nix hxc kk
 clear kV k1 hT htC nC
 have x2:=rowX.cell 2
 have x3:=rowX.cell 3
 have x5:=rowX.cell 5
 have y2:=rowT.cell 2
 simp only[List.getElem?_cons_succ,List.getElem?_cons_zero]at x2 x3 x5 y2
 simp only at HI
 cases is with
 | false=>
  go_wp2_with fail
  go_ret
  exact⟨jam (by rw[HI.out];rfl),kk⟩
 | true=>
 obtain⟨bn,hbn⟩:∃b,Hid (jcO x.fName=b):=⟨_,rfl⟩
 have HN:=Lib.hid (fun w'=>jg5 x.fName w' hxn)
 rw[hbn.out]at HN HI
 cases bn with
 | false=>
  go_wp2_with fail
  go_fit (HN.out _)
  rintro e w2 ⟨rfl,rfl⟩
  go_wp2_with fail
  go_ret
  exact⟨jam (by rw[HI.out];rfl),kk⟩
 | true=>
 obtain⟨bp,hbp⟩:∃b,Hid (jcD t.fColumns.length x.fColumns=b):=⟨_,rfl⟩
 have HP:=Lib.hid (jiL aI x.fColumns.length cI x.fColumns t.fColumns.length _ hxc)
 rw[hbp.out]at HP HI
 cases bp with
 | false=>
  go_wp2_with fail
  go_fit (HN.out _)
  rintro e w2 ⟨rfl,rfl⟩
  go_wp2_with fail
  go_fit HP.out
  rintro e w2 ⟨rfl,k2⟩
  replace kk:=kk.trans k2
  go_wp2_with fail
  go_ret
  exact⟨jam (by rw[HI.out];rfl),kk⟩
 | true=>
 go_wp2_with fail
 go_fit (HN.out _)
 rintro e w2 ⟨rfl,rfl⟩
 go_wp2_with fail
 go_fit HP.out
 rintro e w2 ⟨rfl,k2⟩
 replace kk:=kk.trans k2
 replace rowX:=rowX.keep k2 id
 clear k2 HP HN hst x2 x3 x5 y2 rowT hxc
 have x5:=rowX.cell 5
 simp only[List.getElem?_cons_succ,List.getElem?_cons_zero]at x5
 go_wp2_with fail
 all_goals
  go_ret
  exact⟨jam (by rw[HI.out,Bool.true_and,Bool.true_and,Bool.true_and,Bool.eq_iff_iff];simp only[decide_eq_true_eq,Bool.false_eq_true,false_iff];omega),kk⟩
end
end
section
def jg3(c:GCatalog):Nat→Int
 | 0=>0
 | j+1=>match c.fTables[j]? with
  | some t=>t.fID
  | none=>0
def jjq(c:GCatalog)(i:Nat)(t:GTable):Bool:=decide (jg3 c i<t.fID) && (decide (t.fID<c.fNext) && (jbq t && decide (jbo (fun o=>decide (o.fName=t.fName)) c.fTables=(i:Int))))
def tabQ(c:GCatalog)(i:Nat):Bool:=match c.fTables[i]? with
 | some t=>jjq c i t
 | none=>true
theorem jir{c:GCatalog}{i:Nat}(h:i<c.fTables.length):tabQ c i=jjq c i c.fTables[i]:=by unfold tabQ;rw[List.getElem?_eq_getElem h]
theorem jh0{c:GCatalog}{i:Nat}(h:i<c.fTables.length):jg3 c (i+1)=c.fTables[i].fID:=by show(match c.fTables[i]? with | some t=>t.fID | none=>0)=_;rw[List.getElem?_eq_getElem h]
def jg4(c:GCatalog):Nat→Int
 | 0=>0
 | j+1=>match c.fIndexes[j]? with
  | some t=>t.fID
  | none=>0
def jjn(c:GCatalog)(i:Nat)(x:GIndex):Bool:=decide (jg4 c i<x.fID) && (decide (x.fID<c.fNext) && (!(jbG c x.fID).2 && (jbc c x && decide (jbo (fun o=>decide (o.fName=x.fName)) c.fIndexes=(i:Int)))))
def idxQ(c:GCatalog)(i:Nat):Bool:=match c.fIndexes[i]? with
 | some x=>jjn c i x
 | none=>true
theorem jih{c:GCatalog}{i:Nat}(h:i<c.fIndexes.length):idxQ c i=jjn c i c.fIndexes[i]:=by unfold idxQ;rw[List.getElem?_eq_getElem h]
theorem jh1{c:GCatalog}{i:Nat}(h:i<c.fIndexes.length):jg4 c (i+1)=c.fIndexes[i].fID:=by show(match c.fIndexes[i]? with | some t=>t.fID | none=>0)=_;rw[List.getElem?_eq_getElem h]
def jjm(c:GCatalog):Bool:=decide (0≤c.fVersion∧1≤c.fNext∧c.fNext≤1073741824∧c.fTables.length≤6∧c.fIndexes.length≤10)
def jc7(c:GCatalog):Bool:=jjm c && (allB c.fTables.length (tabQ c) && allB c.fIndexes.length (idxQ c))
section
attribute [local go_sem ↓] jcd jc2 jbB jc0 jdc
theorem jo7{p:Nat→Prop}(c:GCatalog)(csc:List Value)(w:World)(hc:jat w p csc c)(hp:∀b,p b→b<w.heap.size) :
  Calls Tryz.prog 87 #[.agg csc.toArray] w fun e w'=>e=.returned (.bool (jc7 c))∧Keep Nix w w':=by
 have gc:=hc
 obtain⟨aT,cT,aX,cX,rfl,-,-,hT,hX,-⟩:=jau hc
 have nT:=(ja0 hT).2.2
 have mT:c.fTables.length≤140737488351232:=by have:=far_len;omega
 have nX:=(ja0 hX).2.2
 have mX:c.fIndexes.length≤140737488351232:=by have:=far_len;omega
 have row0:RowIs (w.alloc (.cells #[.int .i64 c.fVersion,.int .i64 c.fNext,.slice aT c.fTables.length cT,.slice aX c.fIndexes.length cX] 50)) w.heap.size 50 [.int .i64 c.fVersion,.int .i64 c.fNext,.slice aT c.fTables.length cT,.slice aX c.fIndexes.length cX]:=RowIs.alloc w _ _
 have kk:Keep Nix w (w.alloc (.cells #[.int .i64 c.fVersion,.int .i64 c.fNext,.slice aT c.fTables.length cT,.slice aX c.fIndexes.length cX] 50)):=(Keep.refl Nix w).alloc _
 clear nT nX hc
 have x0:=row0.cell 0
 have x1:=row0.cell 1
 have x2:=row0.cell 2
 have x3:=row0.cell 3
 simp only[List.getElem?_cons_succ,List.getElem?_cons_zero]at x0 x1 x2 x3
 by_cases hh:jjm c=false
 ·have HR:Hid (jc7 c=false):=by show _=_;unfold jc7;rw[hh];rfl
  have hd:=of_decide_eq_false hh
  clear hh
  go_enter Tryz.func87,Tryz.ntmps87
  rcases Int.lt_or_le c.fVersion 0 with h1 | h1
  ·go_wp2_with fail
   go_ret
   exact⟨jam HR.out.symm,kk⟩
  rcases Int.lt_or_le c.fNext 1 with h2 | h2
  ·go_wp2_with fail
   go_ret
   exact⟨jam HR.out.symm,kk⟩
  rcases Int.lt_or_le 1073741824 c.fNext with h3 | h3
  ·go_wp2_with fail
   go_ret
   exact⟨jam HR.out.symm,kk⟩
  rcases Int.lt_or_le 6 (c.fTables.length:Int)with h4 | h4
  ·go_wp2_with fail
   go_ret
   exact⟨jam HR.out.symm,kk⟩
  have h5:(10:Int)<(c.fIndexes.length:Int):=by omega
  go_wp2_with fail
  go_ret
  exact⟨jam HR.out.symm,kk⟩
 have hh':jjm c=true:=by simpa using hh
 clear hh
 have hd:=of_decide_eq_true hh'
 have HH:=Lib.hid hh'
 clear hh'
 obtain⟨g1,g2,g3,g4,g5⟩:=hd
 have fin:allB c.fTables.length (tabQ c)=false→jc7 c=false:=fun h=>by unfold jc7;rw[h];simp
 have FIN:=Lib.hid fin
 have fin2:allB c.fIndexes.length (idxQ c)=false→jc7 c=false:=fun h=>by unfold jc7;rw[h];simp
 have FIN2:=Lib.hid fin2
 clear fin fin2
 go_enter Tryz.func87,Tryz.ntmps87
 go_wp2_with fail
 clear x0 x1 x2 x3
 go_loopw [3,40] (fun l i wr=>∃k:Nat,k≤c.fTables.length∧i=.int .i64 k∧l=.int .i64 (jg3 c k)∧Hid (∀j,j<k→tabQ c j=true)∧RowIs wr w.heap.size 50 [.int .i64 c.fVersion,.int .i64 c.fNext,.slice aT c.fTables.length cT,.slice aX c.fIndexes.length cX]∧Keep Nix w wr) (fun _ i _=>c.fTables.length - (intOf i).toNat)
 case atStart=>exact⟨0,by omega,rfl,rfl,fun j hj=>by omega,row0,kk⟩
 case round=>
  clear row0 kk
  obtain⟨k,hk,rfl,rfl,hg,row0,kk⟩:=hrel
  by_cases hlt:k<c.fTables.length
  ·have hi0:(0:Int)≤(k:Int):=by omega
   have hi1:(k:Int)<(c.fTables.length:Int):=by omega
   obtain⟨b,o,cc,cs,e1,-,hb,r,hcl⟩:=jaY rGTable_lawful (by decide) ((jac rGTable_lawful).nix hT kk) k hlt
   simp only[List.cons.injEq,Value.slice.injEq,and_true]at e1
   obtain⟨rfl,-,-⟩:=e1
   have HQ:=Lib.hid (jir hlt)
   have HL:=Lib.hid (jh0 hlt)
   have HB:Hid (tabQ c k=false→allB c.fTables.length (tabQ c)=false):=fun h=>jgV k hlt h
   generalize c.fTables[k]=x at r HQ HL
   have rx:=r
   obtain⟨aC,cC,aK,cK,rfl,hx0,hx1,-,-,-⟩:=jbw r
   have ld:=Whole.at (P:=Tryz.prog) S_Table rfl hcl
   unfold Whole at ld
   have hst:=jaf (P:=Tryz.prog) (cs:=[.int .i64 x.fID,.string (strB x.fName),.slice aC x.fColumns.length cC,.slice aK x.fKey.length cK]) S_Table (RowIs.alloc wr #[.int .i64 0,.string {data:=#[]},.slice none 0 0,.slice none 0 0] 39) rfl rfl rfl
   have rowC:=(RowIs.alloc wr #[.int .i64 0,.string {data:=#[]},.slice none 0 0,.slice none 0 0] 39).setRow [.int .i64 x.fID,.string (strB x.fName),.slice aC x.fColumns.length cC,.slice aK x.fKey.length cK]
   have kV:Keep Nix wr ((wr.alloc (.cells #[.int .i64 0,.string {data:=#[]},.slice none 0 0,.slice none 0 0] 39)).setRow wr.heap.size [.int .i64 x.fID,.string (strB x.fName),.slice aC x.fColumns.length cC,.slice aK x.fKey.length cK].toArray):=((Keep.refl Nix wr).alloc (.cells #[.int .i64 0,.string {data:=#[]},.slice none 0 0,.slice none 0 0] 39)).setRow (fun h=>absurd h (Nat.lt_irrefl _)) _
   replace row0:=row0.keep kV id
   replace kk:=kk.trans kV
   replace rx:=rGTable_lawful.nix rx kV
   clear kV r hcl
   have y0:=rowC.cell 0
   have x1:=row0.cell 1
   have x2:=row0.cell 2
   simp only[List.getElem?_cons_succ,List.getElem?_cons_zero]at y0 x1 x2
   have ld2:=Whole.row (P:=Tryz.prog) S_Table rfl rowC
   unfold Whole at ld2
   replace HQ:Hid (tabQ c k=(decide (jg3 c k<x.fID) && (decide (x.fID<c.fNext) && (jbq x && decide (jbo (fun o=>decide (o.fName=x.fName)) c.fTables=(k:Int)))))):=HQ
   generalize jg3 c k=la at HQ ⊢
   rcases Int.lt_or_le la x.fID with t1 | t1
   rotate_left
   ·have HF:=Lib.hid (FIN.out (HB.out (by rw[HQ.out];rw[decide_eq_false (by omega)];rfl)))
    go_wp2_with fail
    go_ret
    exact⟨jam HF.out.symm,kk⟩
   rcases Int.lt_or_le x.fID c.fNext with t2 | t2
   rotate_left
   ·have HF:=Lib.hid (FIN.out (HB.out (by rw[HQ.out];rw[decide_eq_false (by omega:¬x.fID<c.fNext)];simp)))
    go_wp2_with fail
    go_ret
    exact⟨jam HF.out.symm,kk⟩
   have HQ1:Hid (tabQ c k=(jbq x && decide (jbo (fun o=>decide (o.fName=x.fName)) c.fTables=(k:Int)))):=by show _=_;rw[HQ.out];rw[decide_eq_true t1,decide_eq_true t2];rfl
   clear HQ
   obtain⟨bt,hbt⟩:∃b,Hid (jbq x=b):=⟨_,rfl⟩
   have HT:=Lib.hid (jfW x _ _ rx)
   rw[hbt.out]at HT HQ1
   cases bt with
   | false=>
    have HF:=Lib.hid (FIN.out (HB.out (by rw[HQ1.out];rfl)))
    go_wp2_with fail
    clear ld ld2 hst
    go_fit HT.out
    rintro e w2 ⟨rfl,k2⟩
    replace kk:=kk.trans k2
    clear k2 y0 x1 x2
    go_wp2_with fail
    go_ret
    exact⟨jam HF.out.symm,kk⟩
   | true=>
   go_wp2_with fail
   clear ld ld2 hst
   go_fit HT.out
   rintro e w2 ⟨rfl,k2⟩
   replace kk:=kk.trans k2
   replace row0:=row0.keep k2 id
   replace rowC:=rowC.keep k2 id
   clear k2 y0 x1 x2 HT rx
   have y0:=rowC.cell 0
   have x2:=row0.cell 2
   simp only[List.getElem?_cons_succ,List.getElem?_cons_zero]at y0 x2
   have hF:=Lib.hid (jgd (p:=p) (some ⟨b,o,none⟩) c.fTables.length cT c.fTables 141 (.pointer (some ⟨wr.heap.size,0,none⟩)) (fun o=>decide (o.fName=x.fName)) _
    ((jac rGTable_lawful).nix hT kk) Tryz.call141 (fun w' z cs' k' _ hz=>jnX z cs' wr.heap.size x.fName w' hz (Nat.lt_of_lt_of_le rowC.lt k'.size) ((rowC.keep k' id).cell 1)))
   obtain⟨fi,hfi⟩:∃f,Hid (jbo (fun o=>decide (o.fName=x.fName)) c.fTables=f):=⟨_,rfl⟩
   rw[hfi.out]at hF HQ1
   go_wp2_with fail
   go_fit hF.out
   rintro e w3 ⟨rfl,k2⟩
   replace row0:=row0.keep k2 id
   replace kk:=kk.trans k2
   replace rowC:=rowC.keep k2 id
   clear k2 y0 x2 hF
   have y0:=rowC.cell 0
   simp only[List.getElem?_cons_zero]at y0
   rcases jbH fi (k:Int)with⟨t,e⟩ | ⟨t,e⟩
   ·have t':(fi != (k:Int))=false:=by simp[e.out]
    go_wp2_with fail
    go_roundw
    case rel=>exact⟨k+1,by omega,by go_num,by rw[HL.out],fun j hj=>by
     rcases Nat.lt_succ_iff_lt_or_eq.1 hj with h | rfl
     ·exact hg.out j h
     ·rw[HQ1.out,e.out];simp,row0,kk⟩
    case measure=>simp[intOf];omega
   ·have t':(fi != (k:Int))=true:=by simp[e]
    have E:=Lib.hid e
    clear e
    go_wp2_with fail
    go_ret
    exact⟨jam (FIN.out (HB.out (by rw[HQ1.out];exact decide_eq_false E.out))).symm,kk⟩
  ·obtain rfl:k=c.fTables.length:=by omega
   have HA:Hid (allB c.fTables.length (tabQ c)=true):=jga hg.out
   clear hg hlt hk
   have x3:=row0.cell 3
   simp only[List.getElem?_cons_succ,List.getElem?_cons_zero]at x3
   go_wp2_with fail
   clear x3
   go_loopw [3,76] (fun l i wr=>∃k:Nat,k≤c.fIndexes.length∧i=.int .i64 k∧l=.int .i64 (jg4 c k)∧Hid (∀j,j<k→idxQ c j=true)∧RowIs wr w.heap.size 50 [.int .i64 c.fVersion,.int .i64 c.fNext,.slice aT c.fTables.length cT,.slice aX c.fIndexes.length cX]∧Keep Nix w wr) (fun _ i _=>c.fIndexes.length - (intOf i).toNat)
   case atStart=>exact⟨0,by omega,rfl,rfl,fun j hj=>by omega,row0,kk⟩
   case round=>
    clear row0 kk
    obtain⟨k,hk,rfl,rfl,hg,row0,kk⟩:=hrel
    by_cases hlt:k<c.fIndexes.length
    ·have hi0:(0:Int)≤(k:Int):=by omega
     have hi1:(k:Int)<(c.fIndexes.length:Int):=by omega
     obtain⟨b,o,cc,cs,e1,-,hb,r,hcl⟩:=jaY rGIndex_lawful (by decide) ((jac rGIndex_lawful).nix hX kk) k hlt
     simp only[List.cons.injEq,Value.slice.injEq,and_true]at e1
     obtain⟨rfl,-,-⟩:=e1
     have HQ:=Lib.hid (jih hlt)
     have HL:=Lib.hid (jh1 hlt)
     have HB:Hid (idxQ c k=false→allB c.fIndexes.length (idxQ c)=false):=fun h=>jgV k hlt h
     generalize c.fIndexes[k]=x at r HQ HL
     replace HQ:Hid (idxQ c k=(decide (jg4 c k<x.fID) && (decide (x.fID<c.fNext) && (!(jbG c x.fID).2 && (jbc c x && decide (jbo (fun o=>decide (o.fName=x.fName)) c.fIndexes=(k:Int))))))):=HQ
     have rx:=r
     obtain⟨aI,cI,rfl,hx0,-,hx1,-,-,-⟩:=jbA r
     have ld:=Whole.at (P:=Tryz.prog) S_Index rfl hcl
     unfold Whole at ld
     have hst:=jaf (P:=Tryz.prog) (cs:=[.int .i64 x.fID,.int .i64 x.fTable,.string (strB x.fName),.slice aI x.fColumns.length cI,.bool x.fUnique,.int .i64 x.fState,.bool x.fBad]) S_Index (RowIs.alloc wr #[.int .i64 0,.int .i64 0,.string {data:=#[]},.slice none 0 0,.bool false,.int .i64 0,.bool false] 41) rfl rfl rfl
     have rowC:=(RowIs.alloc wr #[.int .i64 0,.int .i64 0,.string {data:=#[]},.slice none 0 0,.bool false,.int .i64 0,.bool false] 41).setRow [.int .i64 x.fID,.int .i64 x.fTable,.string (strB x.fName),.slice aI x.fColumns.length cI,.bool x.fUnique,.int .i64 x.fState,.bool x.fBad]
     have kV:Keep Nix wr ((wr.alloc (.cells #[.int .i64 0,.int .i64 0,.string {data:=#[]},.slice none 0 0,.bool false,.int .i64 0,.bool false] 41)).setRow wr.heap.size [.int .i64 x.fID,.int .i64 x.fTable,.string (strB x.fName),.slice aI x.fColumns.length cI,.bool x.fUnique,.int .i64 x.fState,.bool x.fBad].toArray):=((Keep.refl Nix wr).alloc (.cells #[.int .i64 0,.int .i64 0,.string {data:=#[]},.slice none 0 0,.bool false,.int .i64 0,.bool false] 41)).setRow (fun h=>absurd h (Nat.lt_irrefl _)) _
     replace row0:=row0.keep kV id
     replace kk:=kk.trans kV
     replace rx:=rGIndex_lawful.nix rx kV
     clear kV r hcl
     have ld0:=Whole.row (P:=Tryz.prog) S_Catalog rfl row0
     unfold Whole at ld0
     have y0:=rowC.cell 0
     simp only[List.getElem?_cons_zero]at y0
     obtain⟨tb,htb⟩:∃y,Hid (jbG c x.fID=y):=⟨_,rfl⟩
     have HBY:=Lib.hid (jmq c _ x.fID _ (rGCatalog_lawful.nix gc kk) (fun b hb=>Nat.lt_of_lt_of_le (hp b hb) kk.size))
     change Hid (Calls _ _ _ _ (jhU jaG p _ (jbG c x.fID)))at HBY
     rw[htb.out]at HBY HQ
     obtain⟨tt,is⟩:=tb
     generalize jg4 c k=la at HQ ⊢
     go_wp2_with fail
     clear ld0 ld hst y0
     go_fit HBY.out
     rintro e w2 ⟨cst,rfl,hT2,k2⟩
     replace hT2:jaG w2 p cst tt:=hT2
     replace row0:=row0.keep k2 id
     replace kk:=kk.trans k2
     replace rowC:=rowC.keep k2 id
     have hl4:=rGTable_lawful.len hT2
     have hst:=jaf (P:=Tryz.prog) (cs:=cst) S_Table (RowIs.alloc w2 #[.int .i64 0,.string {data:=#[]},.slice none 0 0,.slice none 0 0] 39) rfl hl4 (jef hT2)
     have kV:Keep Nix w2 ((w2.alloc (.cells #[.int .i64 0,.string {data:=#[]},.slice none 0 0,.slice none 0 0] 39)).setRow w2.heap.size cst.toArray):=((Keep.refl Nix w2).alloc (.cells #[.int .i64 0,.string {data:=#[]},.slice none 0 0,.slice none 0 0] 39)).setRow (fun h=>absurd h (Nat.lt_irrefl _)) _
     replace row0:=row0.keep kV id
     replace kk:=kk.trans kV
     replace rowC:=rowC.keep kV id
     replace rx:=rGIndex_lawful.nix rx (k2.trans kV)
     clear k2 kV hl4 hT2 HBY
     have ld0:=Whole.row (P:=Tryz.prog) S_Catalog rfl row0
     unfold Whole at ld0
     have ld1:=Whole.row (P:=Tryz.prog) S_Index rfl rowC
     unfold Whole at ld1
     have y0:=rowC.cell 0
     have x1:=row0.cell 1
     simp only[List.getElem?_cons_succ,List.getElem?_cons_zero]at y0 x1
     rcases Int.lt_or_le la x.fID with t1 | t1
     rotate_left
     ·have HF:=Lib.hid (FIN2.out (HB.out (by rw[HQ.out];rw[decide_eq_false (by omega)];rfl)))
      go_wp2_with fail
      go_ret
      exact⟨jam HF.out.symm,kk⟩
     rcases Int.lt_or_le x.fID c.fNext with t2 | t2
     rotate_left
     ·have HF:=Lib.hid (FIN2.out (HB.out (by rw[HQ.out];rw[decide_eq_false (by omega:¬x.fID<c.fNext)];simp)))
      go_wp2_with fail
      go_ret
      exact⟨jam HF.out.symm,kk⟩
     have HQ1:Hid (idxQ c k=(!is && (jbc c x && decide (jbo (fun o=>decide (o.fName=x.fName)) c.fIndexes=(k:Int))))):=by show _=_;rw[HQ.out];rw[decide_eq_true t1,decide_eq_true t2];rfl
     clear HQ
     cases is with
     | true=>
      have HF:=Lib.hid (FIN2.out (HB.out (by rw[HQ1.out];rfl)))
      go_wp2_with fail
      go_ret
      exact⟨jam HF.out.symm,kk⟩
     | false=>
     obtain⟨bt,hbt⟩:∃b,Hid (jbc c x=b):=⟨_,rfl⟩
     have HT:=Lib.hid (jfV c _ x _ _ (rGCatalog_lawful.nix gc kk) rx (fun b hb=>Nat.lt_of_lt_of_le (hp b hb) kk.size))
     rw[hbt.out]at HT HQ1
     cases bt with
     | false=>
      have HF:=Lib.hid (FIN2.out (HB.out (by rw[HQ1.out];rfl)))
      go_wp2_with fail
      clear ld0 ld1 hst
      go_fit HT.out
      rintro e w3 ⟨rfl,k2⟩
      replace kk:=kk.trans k2
      clear k2 y0 x1
      go_wp2_with fail
      go_ret
      exact⟨jam HF.out.symm,kk⟩
     | true=>
     go_wp2_with fail
     clear ld0 ld1 hst
     go_fit HT.out
     rintro e w3 ⟨rfl,k2⟩
     replace kk:=kk.trans k2
     replace row0:=row0.keep k2 id
     replace rowC:=rowC.keep k2 id
     clear k2 y0 x1 HT rx
     have y0:=rowC.cell 0
     have x3:=row0.cell 3
     simp only[List.getElem?_cons_succ,List.getElem?_cons_zero]at y0 x3
     have hF:=Lib.hid (jgc (p:=p) (some ⟨b,o,none⟩) c.fIndexes.length cX c.fIndexes 143 (.pointer (some ⟨wr.heap.size,0,none⟩)) (fun o=>decide (o.fName=x.fName)) _
      ((jac rGIndex_lawful).nix hX kk) Tryz.call143 (fun w' z cs' k' _ hz=>jnY z cs' wr.heap.size x.fName w' hz (Nat.lt_of_lt_of_le rowC.lt k'.size) ((rowC.keep k' id).cell 2)))
     obtain⟨fi,hfi⟩:∃f,Hid (jbo (fun o=>decide (o.fName=x.fName)) c.fIndexes=f):=⟨_,rfl⟩
     rw[hfi.out]at hF HQ1
     go_wp2_with fail
     go_fit hF.out
     rintro e w4 ⟨rfl,k2⟩
     replace row0:=row0.keep k2 id
     replace kk:=kk.trans k2
     replace rowC:=rowC.keep k2 id
     clear k2 y0 x3 hF
     have y0:=rowC.cell 0
     simp only[List.getElem?_cons_zero]at y0
     rcases jbH fi (k:Int)with⟨t,e⟩ | ⟨t,e⟩
     ·have t':(fi != (k:Int))=false:=by simp[e.out]
      go_wp2_with fail
      go_roundw
      case rel=>exact⟨k+1,by omega,by go_num,by rw[HL.out],fun j hj=>by
       rcases Nat.lt_succ_iff_lt_or_eq.1 hj with h | rfl
       ·exact hg.out j h
       ·rw[HQ1.out,e.out];simp,row0,kk⟩
      case measure=>simp[intOf];omega
     ·have t':(fi != (k:Int))=true:=by simp[e]
      have E:=Lib.hid e
      clear e
      go_wp2_with fail
      go_ret
      exact⟨jam (FIN2.out (HB.out (by rw[HQ1.out];simp[E.out]))).symm,kk⟩
    ·obtain rfl:k=c.fIndexes.length:=by omega
     have HA2:Hid (allB c.fIndexes.length (idxQ c)=true):=jga hg.out
     clear hg
     go_wp2_with fail
     go_ret
     exact⟨jam (by unfold jc7;rw[HH.out,HA.out,HA2.out];rfl),kk⟩
end
end
section
theorem joa{α:Type}{P:α→Bool}{l:List α}(k:Nat)(h:k<l.length)(hp:P l[k]=true):jbo P l≤(k:Int):=by
 rcases jb6 P l with⟨h1,h2⟩ | ⟨j,hj,h1,h2,h3⟩
 ·rw[h1];omega
 ·rw[h1]
  have:¬k<j:=fun hk=>by rw[h3 k hk]at hp;cases hp
  omega
section
attribute [local go_sem ↓] jfC jhO
end
end
section
section
attribute [local go_sem ↓] jcd jc2
end
section
attribute [local go_sem ↓] jcd jc2
end
section
attribute [local go_sem ↓] jc0 jdc
end
end
section
/-! ### readings that may be written -/
def jcV{α:Type}(R:RD α):RD (List α):=fun w p cs l=>∃(a:Option Addr) (cap:Nat) (css:List (List Value)),cs=[.slice a l.length cap]∧css.length=l.length∧LiesW w p a css.flatten∧l.length≤cap∧l.length≤far∧∀(i:Nat) (c:List Value) (x:α),css[i]?=some c→l[i]?=some x→R w p c x
theorem LiesW.keep{S p:Nat→Prop}{w w':World}{a:Option Addr}{xs:List Value}(h:LiesW w p a xs)(k:Keep S w w')(hs:∀b,p b→¬S b):LiesW w' p a xs:=fun hx=>by
  obtain⟨b,off,h1,h2,h3,h4,h5⟩:=h hx
  exact⟨b,off,h1,h2,Nat.lt_of_lt_of_le h3 k.size,fun j u hu=>(k.cell (p:=⟨b,off+j,none⟩) h3 (hs b h2)).trans (h4 j u hu),fun j=>(k.frozen (p:=⟨b,j,none⟩) h3 (hs b h2)).trans (h5 j)⟩
theorem LiesW.mono{p q:Nat→Prop}{w:World}{a:Option Addr}{xs:List Value}(h:LiesW w p a xs)(hq:∀b,p b→q b):LiesW w q a xs:=fun hx=>by
  obtain⟨b,off,h1,h2,h3⟩:=h hx
  exact⟨b,off,h1,hq b h2,h3⟩
theorem jce{α:Type}{R:RD α}{sz:Nat}(L:Lawful R sz):Lawful (jcV R) 1:=
  ⟨fun⟨_,_,_,h,_⟩=>by rw[h];rfl,
   fun⟨a,cap,css,h,h1,hl,h2,h3,r⟩ k hs=>⟨a,cap,css,h,h1,hl.keep k hs,h2,h3,fun i c x hc hx=>L.keep (r i c x hc hx) k hs⟩,
   fun⟨a,cap,css,h,h1,hl,h2,h3,r⟩ hq=>⟨a,cap,css,h,h1,hl.mono hq,h2,h3,fun i c x hc hx=>L.mono (r i c x hc hx) hq⟩⟩
theorem jgl{α:Type}{R:RD α}{w:World}{p:Nat→Prop}{cs:List Value}{l:List α}(h:jcV R w p cs l):jap R w p cs l:=by
  obtain⟨a,cap,css,h,h1,hl,h2,h3,r⟩:=h
  exact⟨a,cap,css,h,h1,hl.lies,h2,h3,r⟩
theorem jcM{α:Type}{R:RD α}{w:World}{p:Nat→Prop}{cs:List Value}{l:List α}(h:jcV R w p cs l):∃a cap,cs=[.slice a l.length cap]∧jcV R w p [.slice a l.length cap] l:=by
  obtain⟨a,cap,css,rfl,h⟩:=h
  exact⟨a,cap,rfl,a,cap,css,rfl,h⟩
theorem jeX{α:Type}{R:RD α}{w:World}{q p:Nat→Prop}{base e sz:Nat}{a:Option Addr}{cap:Nat}{css:List (List Value)}{l:List α}(own:w.ownsRow base e sz (.slice a l.length cap) l.length css.flatten)(els:Els R w q css l)(hf:l.length≤far)
    (hR:∀(c:List Value) (x:α),R w q c x→R w p c x) (hp:∀b,base≤b→b<w.heap.size→p b):jcV R w p [.slice a l.length cap] l:=by
  refine⟨a,cap,css,rfl,els.1,fun hx=>?_,(jbu own).2.1,hf,fun i c x hc hx=>hR c x (els.2 i c x hc hx)⟩
  obtain⟨b,off,h1,h2,h3,h4⟩:=LiesW.of_owned own hx
  exact⟨b,off,h1,hp b h2 h3,h3,h4⟩
def jbR:RD GTable:=fun w p cs x=>∃c0 c1 c2 c3:List Value,cs=List.flatten [c0,c1,c2,c3]∧(rInt .i64) w p c0 x.fID∧rStr w p c1 x.fName∧(jcV jbl) w p c2 x.fColumns∧(jcV (rInt .i64)) w p c3 x.fKey
theorem jd2{w:World}{p:Nat→Prop}{cs:List Value}{x:GTable}(h:jbR w p cs x):jaG w p cs x:=by
  obtain⟨c0,c1,c2,c3,h,h0,h1,h2,h3⟩:=h
  exact⟨c0,c1,c2,c3,h,h0,h1,jgl h2,jgl h3⟩
theorem fGTable_lawful:Lawful jbR 4:=
  ⟨fun h=>rGTable_lawful.len (jd2 h),
   fun⟨c0,c1,c2,c3,h,h0,h1,h2,h3⟩ k hs=>⟨c0,c1,c2,c3,h,(jab _).keep h0 k hs,rStr_lawful.keep h1 k hs,(jce rGColumn_lawful).keep h2 k hs,(jce (jab _)).keep h3 k hs⟩,
   fun⟨c0,c1,c2,c3,h,h0,h1,h2,h3⟩ hq=>⟨c0,c1,c2,c3,h,(jab _).mono h0 hq,rStr_lawful.mono h1 hq,(jce rGColumn_lawful).mono h2 hq,(jce (jab _)).mono h3 hq⟩⟩
def jbQ:RD GIndex:=fun w p cs x=>∃c0 c1 c2 c3 c4 c5 c6:List Value,cs=List.flatten [c0,c1,c2,c3,c4,c5,c6]∧(rInt .i64) w p c0 x.fID∧(rInt .i64) w p c1 x.fTable∧rStr w p c2 x.fName∧(jcV (rInt .i64)) w p c3 x.fColumns∧jdg w p c4 x.fUnique∧(rInt .i64) w p c5 x.fState∧jdg w p c6 x.fBad
theorem jde{w:World}{p:Nat→Prop}{cs:List Value}{x:GIndex}(h:jbQ w p cs x):jaZ w p cs x:=by
  obtain⟨c0,c1,c2,c3,c4,c5,c6,h,h0,h1,h2,h3,h4⟩:=h
  exact⟨c0,c1,c2,c3,c4,c5,c6,h,h0,h1,h2,jgl h3,h4⟩
theorem fGIndex_lawful:Lawful jbQ 7:=
  ⟨fun h=>rGIndex_lawful.len (jde h),
   fun⟨c0,c1,c2,c3,c4,c5,c6,h,h0,h1,h2,h3,h4⟩ k hs=>⟨c0,c1,c2,c3,c4,c5,c6,h,h0,h1,h2,(jce (jab _)).keep h3 k hs,h4⟩,
   fun⟨c0,c1,c2,c3,c4,c5,c6,h,h0,h1,h2,h3,h4⟩ hq=>⟨c0,c1,c2,c3,c4,c5,c6,h,h0,h1,h2,(jce (jab _)).mono h3 hq,h4⟩⟩
theorem jjZ{w:World}{p q:Nat→Prop}{c:List Value}{x:GColumn}(h:jbl w p c x):jbl w q c x:=h
theorem jka{k:IntKind}{w:World}{p q:Nat→Prop}{c:List Value}{x:Int}(h:rInt k w p c x):rInt k w q c x:=h
def Ret{α:Type}(R:RD α)(w:World)(x:α)(e:Ending)(w':World):Prop:=∃cs:List Value,e=.returned (.agg cs.toArray)∧R w' (jai w w') cs x∧Keep Nix w w'
section
attribute [local go_sem ↓] jc0 jdc jcd jc2
theorem jfH{p:Nat→Prop}(x:GIndex)(cs:List Value)(w:World)(hx:jaZ w p cs x)(hr:x.fColumns.length*8≤140737488355328) :
    Calls Tryz.prog 77 #[.agg cs.toArray] w (Ret jbQ w x):=by
  have gx:=hx
  obtain⟨aI,cI,rfl,h0,h1,h2,h3,h5,-⟩:=jbA hx
  have nf:=(ja0 h3).2.2
  have row0:RowIs ((w.alloc (.cells #[.int .i64 x.fID,.int .i64 x.fTable,.string (strB x.fName),.slice aI x.fColumns.length cI,.bool x.fUnique,.int .i64 x.fState,.bool x.fBad] 41)).alloc (.cells #[.int .i64 0,.int .i64 0,.string {data:=#[]},.slice none 0 0,.bool false,.int .i64 0,.bool false] 41)) w.heap.size 41 [.int .i64 x.fID,.int .i64 x.fTable,.string (strB x.fName),.slice aI x.fColumns.length cI,.bool x.fUnique,.int .i64 x.fState,.bool x.fBad]:=(RowIs.alloc w _ _).keep ((Keep.refl Nix _).alloc _) id
  have rowR:RowIs ((w.alloc (.cells #[.int .i64 x.fID,.int .i64 x.fTable,.string (strB x.fName),.slice aI x.fColumns.length cI,.bool x.fUnique,.int .i64 x.fState,.bool x.fBad] 41)).alloc (.cells #[.int .i64 0,.int .i64 0,.string {data:=#[]},.slice none 0 0,.bool false,.int .i64 0,.bool false] 41)) (w.heap.size+1) 41 [.int .i64 0,.int .i64 0,.string {data:=#[]},.slice none 0 0,.bool false,.int .i64 0,.bool false]:=RowIs.alloc_at (w.alloc (.cells #[.int .i64 x.fID,.int .i64 x.fTable,.string (strB x.fName),.slice aI x.fColumns.length cI,.bool x.fUnique,.int .i64 x.fState,.bool x.fBad] 41)) _ (by simp) #[.int .i64 0,.int .i64 0,.string {data:=#[]},.slice none 0 0,.bool false,.int .i64 0,.bool false] 41
  have kk:Keep Nix w ((w.alloc (.cells #[.int .i64 x.fID,.int .i64 x.fTable,.string (strB x.fName),.slice aI x.fColumns.length cI,.bool x.fUnique,.int .i64 x.fState,.bool x.fBad] 41)).alloc (.cells #[.int .i64 0,.int .i64 0,.string {data:=#[]},.slice none 0 0,.bool false,.int .i64 0,.bool false] 41)):=((Keep.refl Nix w).alloc _).alloc _
  replace h3:=(jac (jab _)).nix h3 kk
  have hc:=Lib.hid (jlc aI x.fColumns.length cI x.fColumns _ h3 hr)
  clear hx h3 hr
  have x3:=row0.cell 3
  simp only[List.getElem?_cons_succ,List.getElem?_cons_zero]at x3
  go_enter Tryz.func77,Tryz.ntmps77
  go_wp2_with fail
  go_fit hc.out
  rintro e w1 ⟨a',cap',css,rfl,own,els,k1⟩
  replace row0:=row0.keep k1 id
  replace rowR:=rowR.keep k1 id
  replace kk:=kk.trans k1
  have hs0:=row0.lt
  have hs1:=rowR.lt
  have xf:=row0.frozen 3
  have x3:=row0.cell 3
  simp only[List.getElem?_cons_succ,List.getElem?_cons_zero]at x3
  have row1:=row0.set 3 (.slice a' x.fColumns.length cap')
  have kS:=(Keep.refl (fun b=>b=w.heap.size) w1).setCell (p:=⟨w.heap.size,3,none⟩) (fun _=>rfl) (.slice a' x.fColumns.length cap')
  simp only[List.set_cons_succ,List.set_cons_zero]at row1
  have rowR1:=rowR.keep kS (by omega)
  have hsz:w.heap.size+1+1≤w1.heap.size:=by omega
  have own1:=jad own kS (fun b hb e=>by have:=(own.lt b hb).1;simp at this;omega)
  have els1:Els (rInt .i64) (w1.setCell ⟨w.heap.size,3,none⟩ (.slice a' x.fColumns.length cap')) p css x.fColumns:=⟨els.1,fun i c y hc hy=>els.2 i c y hc hy⟩
  have kk1:=kk.then kS (fun i hi e=>by omega)
  have ld:=Whole.row (P:=Tryz.prog) S_Index rfl row1
  unfold Whole at ld
  have hst:=jaf (P:=Tryz.prog) (cs:=[.int .i64 x.fID,.int .i64 x.fTable,.string (strB x.fName),.slice a' x.fColumns.length cap',.bool x.fUnique,.int .i64 x.fState,.bool x.fBad]) S_Index rowR1 rfl rfl rfl
  have rowF:=rowR1.setRow [.int .i64 x.fID,.int .i64 x.fTable,.string (strB x.fName),.slice a' x.fColumns.length cap',.bool x.fUnique,.int .i64 x.fState,.bool x.fBad]
  have kF:=(Keep.refl (fun b=>b=w.heap.size+1) (w1.setCell ⟨w.heap.size,3,none⟩ (.slice a' x.fColumns.length cap'))).setRow (g:=w.heap.size+1) (fun _=>rfl) [.int .i64 x.fID,.int .i64 x.fTable,.string (strB x.fName),.slice a' x.fColumns.length cap',.bool x.fUnique,.int .i64 x.fState,.bool x.fBad].toArray
  have own2:=jad own1 kF (fun b hb e=>by have:=(own.lt b hb).1;simp at this;omega)
  have els2:Els (rInt .i64) ((w1.setCell ⟨w.heap.size,3,none⟩ (.slice a' x.fColumns.length cap')).setRow (w.heap.size+1) [.int .i64 x.fID,.int .i64 x.fTable,.string (strB x.fName),.slice a' x.fColumns.length cap',.bool x.fUnique,.int .i64 x.fState,.bool x.fBad].toArray) p css x.fColumns:=⟨els1.1,fun i c y hc hy=>els1.2 i c y hc hy⟩
  have hL:jcV (rInt .i64) ((w1.setCell ⟨w.heap.size,3,none⟩ (.slice a' x.fColumns.length cap')).setRow (w.heap.size+1) [.int .i64 x.fID,.int .i64 x.fTable,.string (strB x.fName),.slice a' x.fColumns.length cap',.bool x.fUnique,.int .i64 x.fState,.bool x.fBad].toArray) (jai w ((w1.setCell ⟨w.heap.size,3,none⟩ (.slice a' x.fColumns.length cap')).setRow (w.heap.size+1) [.int .i64 x.fID,.int .i64 x.fTable,.string (strB x.fName),.slice a' x.fColumns.length cap',.bool x.fUnique,.int .i64 x.fState,.bool x.fBad].toArray)) [.slice a' x.fColumns.length cap'] x.fColumns:=jeX own2 els2 nf (fun c y h=>jka h) (fun b hb hlt=>⟨by simp at hb;omega,hlt⟩)
  have hres:jbQ ((w1.setCell ⟨w.heap.size,3,none⟩ (.slice a' x.fColumns.length cap')).setRow (w.heap.size+1) [.int .i64 x.fID,.int .i64 x.fTable,.string (strB x.fName),.slice a' x.fColumns.length cap',.bool x.fUnique,.int .i64 x.fState,.bool x.fBad].toArray) (jai w ((w1.setCell ⟨w.heap.size,3,none⟩ (.slice a' x.fColumns.length cap')).setRow (w.heap.size+1) [.int .i64 x.fID,.int .i64 x.fTable,.string (strB x.fName),.slice a' x.fColumns.length cap',.bool x.fUnique,.int .i64 x.fState,.bool x.fBad].toArray)) [.int .i64 x.fID,.int .i64 x.fTable,.string (strB x.fName),.slice a' x.fColumns.length cap',.bool x.fUnique,.int .i64 x.fState,.bool x.fBad] x:=⟨[_],[_],[_],[_],[_],[_],[_],rfl,⟨rfl,jbd h0⟩,⟨rfl,jbd h1⟩,⟨rfl,h2⟩,hL,rfl,⟨rfl,jbd h5⟩,rfl⟩
  have kk2:=kk1.then kF (fun i hi e=>by omega)
  clear hc own own1 own2 els els1 els2 row0 row1 rowR rowR1 kS kF kk kk1 k1 hL
  go_wp2_with fail
  refine bodyPost_ret (results_cell_row (by rfl) _ _ _ _ _ _ _ (by rfl) rowF Tryz.underlying41 (by rfl) S_Index.info) rfl ?_
  exact⟨_,rfl,hres,kk2⟩
theorem jeD{p:Nat→Prop}(t:GTable)(cs:List Value)(w:World)(ht:jaG w p cs t)(hr1:t.fColumns.length*32≤140737488355328)(hr2:t.fKey.length*8≤140737488355328) :
    Calls Tryz.prog 76 #[.agg cs.toArray] w (Ret jbR w t):=by
  obtain⟨aC,cC,aK,cK,rfl,h0,h1,h2,h3,-⟩:=jbw ht
  have nf1:=(ja0 h2).2.2
  have nf2:=(ja0 h3).2.2
  have row0:RowIs ((w.alloc (.cells #[.int .i64 t.fID,.string (strB t.fName),.slice aC t.fColumns.length cC,.slice aK t.fKey.length cK] 39)).alloc (.cells #[.int .i64 0,.string {data:=#[]},.slice none 0 0,.slice none 0 0] 39)) w.heap.size 39 [.int .i64 t.fID,.string (strB t.fName),.slice aC t.fColumns.length cC,.slice aK t.fKey.length cK]:=(RowIs.alloc w _ _).keep ((Keep.refl Nix _).alloc _) id
  have rowR:RowIs ((w.alloc (.cells #[.int .i64 t.fID,.string (strB t.fName),.slice aC t.fColumns.length cC,.slice aK t.fKey.length cK] 39)).alloc (.cells #[.int .i64 0,.string {data:=#[]},.slice none 0 0,.slice none 0 0] 39)) (w.heap.size+1) 39 [.int .i64 0,.string {data:=#[]},.slice none 0 0,.slice none 0 0]:=RowIs.alloc_at (w.alloc (.cells #[.int .i64 t.fID,.string (strB t.fName),.slice aC t.fColumns.length cC,.slice aK t.fKey.length cK] 39)) _ (by simp) #[.int .i64 0,.string {data:=#[]},.slice none 0 0,.slice none 0 0] 39
  have kk:Keep Nix w ((w.alloc (.cells #[.int .i64 t.fID,.string (strB t.fName),.slice aC t.fColumns.length cC,.slice aK t.fKey.length cK] 39)).alloc (.cells #[.int .i64 0,.string {data:=#[]},.slice none 0 0,.slice none 0 0] 39)):=((Keep.refl Nix w).alloc _).alloc _
  clear ht
  go_enter Tryz.func76,Tryz.ntmps76
  go_wp2_with fail
  replace row0:=row0.same (w':=((w.alloc (.cells #[.int .i64 t.fID,.string (strB t.fName),.slice aC t.fColumns.length cC,.slice aK t.fKey.length cK] 39)).alloc (.cells #[.int .i64 0,.string {data:=#[]},.slice none 0 0,.slice none 0 0] 39)).drew)
  replace rowR:=rowR.same (w':=((w.alloc (.cells #[.int .i64 t.fID,.string (strB t.fName),.slice aC t.fColumns.length cC,.slice aK t.fKey.length cK] 39)).alloc (.cells #[.int .i64 0,.string {data:=#[]},.slice none 0 0,.slice none 0 0] 39)).drew)
  replace kk:=kk.drew
  have x2:=row0.cell 2
  have x3:=row0.cell 3
  have f2:=row0.frozen 2
  have f3:=row0.frozen 3
  simp only[List.getElem?_cons_succ,List.getElem?_cons_zero]at x2 x3
  go_region_with (first
    | (go_at_call 123;go_fit (jl4 aC t.fColumns.length cC t.fColumns _ ((jac rGColumn_lawful).nix h2 kk) hr1);rintro e w1 ⟨a1,cap1,css1,rfl,own1,els1,k1⟩;replace row0:=row0.keep k1 id;replace rowR:=rowR.keep k1 id;replace kk:=kk.trans k1;clear k1;replace x2:=row0.cell 2;replace x3:=row0.cell 3;replace f2:=row0.frozen 2;replace f3:=row0.frozen 3;simp only[List.getElem?_cons_succ,List.getElem?_cons_zero]at x2 x3)
    | (go_at_call 124;have hsA:=rowR.lt;go_fit (jlc aK t.fKey.length cK t.fKey _ ((jac (jab _)).nix h3 kk) hr2);rintro e w2 ⟨a2,cap2,css2,rfl,own2,els2,k1⟩;replace row0:=row0.keep k1 id;replace rowR:=rowR.keep k1 id;replace kk:=kk.trans k1;replace own1:=jad own1 k1 (fun _ _ h=>h);clear k1;replace x2:=row0.cell 2;replace x3:=row0.cell 3;replace f2:=row0.frozen 2;replace f3:=row0.frozen 3;simp only[List.getElem?_cons_succ,List.getElem?_cons_zero]at x2 x3))
  all_goals
    have hs0:=row0.lt
    have hs1:=rowR.lt
    have row1:=(row0.set 2 (.slice a1 t.fColumns.length cap1)).set 3 (.slice a2 t.fKey.length cap2)
    simp only[List.set_cons_succ,List.set_cons_zero]at row1
    have kS:Keep (fun b=>b=w.heap.size) w2 ((w2.setCell ⟨w.heap.size,2,none⟩ (.slice a1 t.fColumns.length cap1)).setCell ⟨w.heap.size,3,none⟩ (.slice a2 t.fKey.length cap2)):=((Keep.refl (fun b=>b=w.heap.size) w2).setCell (p:=⟨w.heap.size,2,none⟩) (fun _=>rfl) _).setCell (p:=⟨w.heap.size,3,none⟩) (fun _=>rfl) _
    have rowR1:=rowR.keep kS (by omega)
    have hb1:∀b,OwnB (.slice a1 t.fColumns.length cap1) b→w.heap.size+1+1≤b:=fun b hb=>by have:=(own1.lt b hb).1;simp at this;omega
    have hb2:∀b,OwnB (.slice a2 t.fKey.length cap2) b→w.heap.size+1+1≤b:=fun b hb=>by have:=(own2.lt b hb).1;first | omega | (simp at this;omega) | (simp at this hsA;omega)
    have own11:=jad own1 kS (fun b hb e=>by have:=hb1 b hb;omega)
    have own21:=jad own2 kS (fun b hb e=>by have:=hb2 b hb;omega)
    have kk1:=kk.then kS (fun i hi e=>by omega)
    have ld:=Whole.row (P:=Tryz.prog) S_Table rfl row1
    unfold Whole at ld
    have hst:=jaf (P:=Tryz.prog) (cs:=[.int .i64 t.fID,.string (strB t.fName),.slice a1 t.fColumns.length cap1,.slice a2 t.fKey.length cap2]) S_Table rowR1 rfl rfl rfl
    have rowF:=rowR1.setRow [.int .i64 t.fID,.string (strB t.fName),.slice a1 t.fColumns.length cap1,.slice a2 t.fKey.length cap2]
    have kF:=(Keep.refl (fun b=>b=w.heap.size+1) ((w2.setCell ⟨w.heap.size,2,none⟩ (.slice a1 t.fColumns.length cap1)).setCell ⟨w.heap.size,3,none⟩ (.slice a2 t.fKey.length cap2))).setRow (g:=w.heap.size+1) (fun _=>rfl) [.int .i64 t.fID,.string (strB t.fName),.slice a1 t.fColumns.length cap1,.slice a2 t.fKey.length cap2].toArray
    have own12:=jad own11 kF (fun b hb e=>by have:=hb1 b hb;omega)
    have own22:=jad own21 kF (fun b hb e=>by have:=hb2 b hb;omega)
    have e1:Els jbl (((w2.setCell ⟨w.heap.size,2,none⟩ (.slice a1 t.fColumns.length cap1)).setCell ⟨w.heap.size,3,none⟩ (.slice a2 t.fKey.length cap2)).setRow (w.heap.size+1) [.int .i64 t.fID,.string (strB t.fName),.slice a1 t.fColumns.length cap1,.slice a2 t.fKey.length cap2].toArray) p css1 t.fColumns:=⟨els1.1,fun i c y hc hy=>els1.2 i c y hc hy⟩
    have e2:Els (rInt .i64) (((w2.setCell ⟨w.heap.size,2,none⟩ (.slice a1 t.fColumns.length cap1)).setCell ⟨w.heap.size,3,none⟩ (.slice a2 t.fKey.length cap2)).setRow (w.heap.size+1) [.int .i64 t.fID,.string (strB t.fName),.slice a1 t.fColumns.length cap1,.slice a2 t.fKey.length cap2].toArray) p css2 t.fKey:=⟨els2.1,fun i c y hc hy=>els2.2 i c y hc hy⟩
    have hL1:jcV jbl (((w2.setCell ⟨w.heap.size,2,none⟩ (.slice a1 t.fColumns.length cap1)).setCell ⟨w.heap.size,3,none⟩ (.slice a2 t.fKey.length cap2)).setRow (w.heap.size+1) [.int .i64 t.fID,.string (strB t.fName),.slice a1 t.fColumns.length cap1,.slice a2 t.fKey.length cap2].toArray) (jai w (((w2.setCell ⟨w.heap.size,2,none⟩ (.slice a1 t.fColumns.length cap1)).setCell ⟨w.heap.size,3,none⟩ (.slice a2 t.fKey.length cap2)).setRow (w.heap.size+1) [.int .i64 t.fID,.string (strB t.fName),.slice a1 t.fColumns.length cap1,.slice a2 t.fKey.length cap2].toArray)) [.slice a1 t.fColumns.length cap1] t.fColumns:=jeX own12 e1 nf1 (fun c y h=>jjZ h) (fun b hb hlt=>⟨by simp at hb;omega,hlt⟩)
    have hL2:jcV (rInt .i64) (((w2.setCell ⟨w.heap.size,2,none⟩ (.slice a1 t.fColumns.length cap1)).setCell ⟨w.heap.size,3,none⟩ (.slice a2 t.fKey.length cap2)).setRow (w.heap.size+1) [.int .i64 t.fID,.string (strB t.fName),.slice a1 t.fColumns.length cap1,.slice a2 t.fKey.length cap2].toArray) (jai w (((w2.setCell ⟨w.heap.size,2,none⟩ (.slice a1 t.fColumns.length cap1)).setCell ⟨w.heap.size,3,none⟩ (.slice a2 t.fKey.length cap2)).setRow (w.heap.size+1) [.int .i64 t.fID,.string (strB t.fName),.slice a1 t.fColumns.length cap1,.slice a2 t.fKey.length cap2].toArray)) [.slice a2 t.fKey.length cap2] t.fKey:=jeX own22 e2 nf2 (fun c y h=>jka h) (fun b hb hlt=>⟨by first | omega | (simp at hb;omega) | (simp at hb hsA;omega),hlt⟩)
    have hres:jbR (((w2.setCell ⟨w.heap.size,2,none⟩ (.slice a1 t.fColumns.length cap1)).setCell ⟨w.heap.size,3,none⟩ (.slice a2 t.fKey.length cap2)).setRow (w.heap.size+1) [.int .i64 t.fID,.string (strB t.fName),.slice a1 t.fColumns.length cap1,.slice a2 t.fKey.length cap2].toArray) (jai w (((w2.setCell ⟨w.heap.size,2,none⟩ (.slice a1 t.fColumns.length cap1)).setCell ⟨w.heap.size,3,none⟩ (.slice a2 t.fKey.length cap2)).setRow (w.heap.size+1) [.int .i64 t.fID,.string (strB t.fName),.slice a1 t.fColumns.length cap1,.slice a2 t.fKey.length cap2].toArray)) [.int .i64 t.fID,.string (strB t.fName),.slice a1 t.fColumns.length cap1,.slice a2 t.fKey.length cap2] t:=⟨[_],[_],[_],[_],rfl,⟨rfl,jbd h0⟩,⟨rfl,h1⟩,hL1,hL2⟩
    have kk2:=kk1.then kF (fun i hi e=>by omega)
    clear own1 own2 own11 own21 own12 own22 els1 els2 e1 e2 row0 row1 rowR rowR1 kS kF kk kk1 hL1 hL2 x2 x3 f2 f3
    go_wp2_with fail
    refine bodyPost_ret (results_cell_row (by rfl) _ _ _ _ _ _ _ (by rfl) rowF Tryz.underlying39 (by rfl) S_Table.info) rfl ?_
    exact⟨_,rfl,hres,kk2⟩
end
end
section
theorem jm2{p:Nat→Prop}(c:GCatalog)(csc:List Value)(d:List UInt8)(w:World)(hc:jat w p csc c) :
  Calls Tryz.prog 108 #[.agg csc.toArray,.string (strB d)] w fun e w'=>e=.returned (.int .i64 (jbo (fun x=>decide (x.fName=d)) c.fIndexes))∧Keep Nix w w':=by
 obtain⟨aT,cT,aX,cX,rfl,-,-,hT,hX,-⟩:=jau hc
 have row0:RowIs ((w.alloc (.cells #[.int .i64 c.fVersion,.int .i64 c.fNext,.slice aT c.fTables.length cT,.slice aX c.fIndexes.length cX] 50)).alloc (.cells #[.string (strB d)] 9)) w.heap.size 50 [.int .i64 c.fVersion,.int .i64 c.fNext,.slice aT c.fTables.length cT,.slice aX c.fIndexes.length cX]:=(RowIs.alloc w _ _).keep ((Keep.refl Nix _).alloc _) id
 have rowN:RowIs ((w.alloc (.cells #[.int .i64 c.fVersion,.int .i64 c.fNext,.slice aT c.fTables.length cT,.slice aX c.fIndexes.length cX] 50)).alloc (.cells #[.string (strB d)] 9)) (w.heap.size+1) 9 [.string (strB d)]:=RowIs.alloc_at (w.alloc (.cells #[.int .i64 c.fVersion,.int .i64 c.fNext,.slice aT c.fTables.length cT,.slice aX c.fIndexes.length cX] 50)) _ (by simp) #[.string (strB d)] 9
 have kk:Keep Nix w ((w.alloc (.cells #[.int .i64 c.fVersion,.int .i64 c.fNext,.slice aT c.fTables.length cT,.slice aX c.fIndexes.length cX] 50)).alloc (.cells #[.string (strB d)] 9)):=((Keep.refl Nix w).alloc _).alloc _
 have hF:=Lib.hid (jgc (p:=p) aX c.fIndexes.length cX c.fIndexes 168 (.pointer (some ⟨w.heap.size+1,0,none⟩)) (fun x=>decide (x.fName=d)) _
  ((jac rGIndex_lawful).nix hX kk) Tryz.call168 (fun w' z cs' k' _ hz=>jpq z cs' (w.heap.size+1) d w' hz (Nat.lt_of_lt_of_le rowN.lt k'.size) ((rowN.keep k' id).cell 0)))
 clear hc hT hX
 have x3:=row0.cell 3
 simp only[List.getElem?_cons_succ,List.getElem?_cons_zero]at x3
 go_enter Tryz.func108,Tryz.ntmps108
 go_wp2_with fail
 go_fit hF.out
 rintro e w1 ⟨rfl,k1⟩
 go_wp2_with fail
 go_ret
 exact⟨rfl,kk.trans k1⟩
def jki(t:GTable):Prop:=t.fColumns.length≤1000∧t.fKey.length≤1000
def jkj(x:GIndex):Prop:=x.fColumns.length≤1000
def jb4(c:GCatalog):Prop:=(∀t∈c.fTables,jki t)∧(∀x∈c.fIndexes,jkj x)∧c.fTables.length≤1000∧c.fIndexes.length≤1000
def jnA{α:Type}(R:RD α)(w:World)(y:α×Bool)(e:Ending)(w':World):Prop:=∃cs:List Value,e=.returned (.tuple #[.agg cs.toArray,.bool y.2])∧R w' (jai w w') cs y.1∧Keep Nix w w'
theorem jhG{α:Type}{R:RD α}(w:World)(p:Nat→Prop)(a:Option Addr)(cap:Nat):jcV R w p [.slice a 0 cap] []:=
 ⟨a,cap,[],rfl,rfl,fun h=>absurd rfl h,Nat.zero_le _,Nat.zero_le _,fun i c x h=>by simp at h⟩
theorem zTab_f(w:World)(p:Nat→Prop):jbR w p [.int .i64 0,.string {data:=#[]},.slice none 0 0,.slice none 0 0] zTab:=⟨[_],[_],[_],[_],rfl,⟨rfl,by decide⟩,⟨rfl,by simp[zTab]⟩,jhG _ _ _ _,jhG _ _ _ _⟩
theorem jdZ{w:World}{p:Nat→Prop}{cs:List Value}{x:GTable}(h:jbR w p cs x):ones cs=true:=jef (jd2 h)
theorem jeP{w:World}{p:Nat→Prop}{cs:List Value}{x:GIndex}(h:jbQ w p cs x):ones cs=true:=jgj (jde h)
section
attribute [local go_sem ↓] jcd jc2
theorem jke{p:Nat→Prop}(c:GCatalog)(csc:List Value)(d:List UInt8)(w:World)(hc:jat w p csc c)(hs:∀t∈c.fTables,jki t) :
  Calls Tryz.prog 105 #[.agg csc.toArray,.string (strB d)] w (jnA jbR w (jbj (fun t=>decide (t.fName=d)) c.fTables zTab)):=by
 obtain⟨aT,cT,aX,cX,rfl,-,-,hT,-,-⟩:=jau hc
 have nT:=(ja0 hT).2.2
 have mT:c.fTables.length≤140737488351232:=by have:=far_len;omega
 clear nT hc
 have row0:RowIs (((w.alloc (.cells #[.int .i64 c.fVersion,.int .i64 c.fNext,.slice aT c.fTables.length cT,.slice aX c.fIndexes.length cX] 50)).alloc (.cells #[.string (strB d)] 9)).alloc (.cells #[.int .i64 0,.string {data:=#[]},.slice none 0 0,.slice none 0 0] 39)) w.heap.size 50 [.int .i64 c.fVersion,.int .i64 c.fNext,.slice aT c.fTables.length cT,.slice aX c.fIndexes.length cX]:=((RowIs.alloc w _ _).keep ((Keep.refl Nix _).alloc _) id).keep ((Keep.refl Nix _).alloc _) id
 have rowI:RowIs (((w.alloc (.cells #[.int .i64 c.fVersion,.int .i64 c.fNext,.slice aT c.fTables.length cT,.slice aX c.fIndexes.length cX] 50)).alloc (.cells #[.string (strB d)] 9)).alloc (.cells #[.int .i64 0,.string {data:=#[]},.slice none 0 0,.slice none 0 0] 39)) (w.heap.size+1) 9 [.string (strB d)]:=(RowIs.alloc_at (w.alloc (.cells #[.int .i64 c.fVersion,.int .i64 c.fNext,.slice aT c.fTables.length cT,.slice aX c.fIndexes.length cX] 50)) _ (by simp) #[.string (strB d)] 9).keep ((Keep.refl Nix _).alloc _) id
 have rowR:RowIs (((w.alloc (.cells #[.int .i64 c.fVersion,.int .i64 c.fNext,.slice aT c.fTables.length cT,.slice aX c.fIndexes.length cX] 50)).alloc (.cells #[.string (strB d)] 9)).alloc (.cells #[.int .i64 0,.string {data:=#[]},.slice none 0 0,.slice none 0 0] 39)) (w.heap.size+1+1) 39 [.int .i64 0,.string {data:=#[]},.slice none 0 0,.slice none 0 0]:=RowIs.alloc_at ((w.alloc (.cells #[.int .i64 c.fVersion,.int .i64 c.fNext,.slice aT c.fTables.length cT,.slice aX c.fIndexes.length cX] 50)).alloc (.cells #[.string (strB d)] 9)) _ (by simp) #[.int .i64 0,.string {data:=#[]},.slice none 0 0,.slice none 0 0] 39
 have kk:Keep Nix w (((w.alloc (.cells #[.int .i64 c.fVersion,.int .i64 c.fNext,.slice aT c.fTables.length cT,.slice aX c.fIndexes.length cX] 50)).alloc (.cells #[.string (strB d)] 9)).alloc (.cells #[.int .i64 0,.string {data:=#[]},.slice none 0 0,.slice none 0 0] 39)):=(((Keep.refl Nix w).alloc _).alloc _).alloc _
 have x2:=row0.cell 2
 simp only[List.getElem?_cons_succ,List.getElem?_cons_zero]at x2
 have hF:=Lib.hid (jgd (p:=p) aT c.fTables.length cT c.fTables 161 (.pointer (some ⟨w.heap.size+1,0,none⟩)) (fun t=>decide (t.fName=d)) _
  ((jac rGTable_lawful).nix hT kk) Tryz.call161 (fun w' z cs' k' _ hz=>jnZ z cs' (w.heap.size+1) d w' hz (Nat.lt_of_lt_of_le rowI.lt k'.size) ((rowI.keep k' id).cell 0)))
 rcases jb6 (fun t:GTable=>decide (t.fName=d)) c.fTables with⟨h1,h2⟩ | ⟨k,hk,h1,h2,h3⟩
 ·rw[h1]at hF
  have hR:=Lib.hid (jgE (z:=zTab) h2)
  have hbd:∀w',(Instr.build 39 #[]).run Tryz.prog w'=.ok (.agg #[.int .i64 0,.string {data:=#[]},.slice none 0 0,.slice none 0 0]) w':=fun w'=>by kernel_rfl
  clear h1 h2 hs
  go_enter Tryz.func105,Tryz.ntmps105
  go_wp2_with fail
  go_fit hF.out
  rintro e w1 ⟨rfl,k1⟩
  replace rowR:=rowR.keep k1 id
  replace kk:=kk.trans k1
  have hst:=jaf (P:=Tryz.prog) (cs:=[.int .i64 0,.string {data:=#[]},.slice none 0 0,.slice none 0 0]) S_Table rowR rfl rfl rfl
  have rowF:=rowR.setRow [.int .i64 0,.string {data:=#[]},.slice none 0 0,.slice none 0 0]
  have kF:=kk.setRow (g:=w.heap.size+1+1) (fun h=>by omega) [.int .i64 0,.string {data:=#[]},.slice none 0 0,.slice none 0 0].toArray
  clear k1 hF x2 rowI row0 rowR kk
  go_wp2_with fail
  refine bodyPost_ret (jag (by rfl) _ _ _ _ _ _ _ (by rfl) rowF Tryz.underlying39 (by rfl) S_Table.info) rfl ?_
  rw[hR.out]
  exact⟨_,rfl,zTab_f _ _,kF⟩
 ·rw[h1]at hF
  have hR:=Lib.hid (jgF (P:=fun t:GTable=>decide (t.fName=d)) (z:=zTab) k hk h2 h3)
  have hi0:(0:Int)≤(k:Int):=by omega
  have hi1:(k:Int)<(c.fTables.length:Int):=by omega
  obtain⟨hx1,hx2⟩:=hs _ (List.getElem_mem hk)
  clear h1 h2 h3 hs
  go_enter Tryz.func105,Tryz.ntmps105
  go_wp2_with fail
  go_fit hF.out
  rintro e w1 ⟨rfl,k1⟩
  replace rowR:=rowR.keep k1 id
  replace row0:=row0.keep k1 id
  replace kk:=kk.trans k1
  obtain⟨b,o,cc,cs,e1,-,hb,r,hcl⟩:=jaY rGTable_lawful (by decide) ((jac rGTable_lawful).nix hT kk) k hk
  simp only[List.cons.injEq,Value.slice.injEq,and_true]at e1
  obtain⟨rfl,-,-⟩:=e1
  have ld:=Whole.at (P:=Tryz.prog) S_Table (rGTable_lawful.len r) hcl
  unfold Whole at ld
  replace x2:=row0.cell 2
  simp only[List.getElem?_cons_succ,List.getElem?_cons_zero]at x2
  generalize c.fTables[k]=x at r hR hx1 hx2
  have hO:=Lib.hid (jeD x cs w1 r (by omega) (by omega))
  have hs1:=rowR.lt
  clear hF hcl k1 rowI
  go_wp2_with fail
  clear ld x2
  go_fit hO.out
  rintro e w2 ⟨cn,rfl,hN,k2⟩
  replace rowR:=rowR.keep k2 id
  replace kk:=kk.trans k2
  have hl4:=fGTable_lawful.len hN
  have hst:=jaf (P:=Tryz.prog) (cs:=cn) S_Table rowR rfl hl4 (jdZ hN)
  have rowF:=rowR.setRow cn
  have kS:Keep (·=w.heap.size+1+1) w2 (w2.setRow (w.heap.size+1+1) cn.toArray):=(Keep.refl (·=w.heap.size+1+1) w2).setRow (fun _=>rfl) cn.toArray
  have kF:=kk.setRow (g:=w.heap.size+1+1) (fun h=>by omega) cn.toArray
  have hN2:=fGTable_lawful.mono (q:=jai w (w2.setRow (w.heap.size+1+1) cn.toArray)) (fGTable_lawful.keep hN kS (fun b hb e=>by have:=hb.1;omega)) (fun b hb=>⟨by have:=hb.1;omega,by have:=hb.2;have:=kS.size;omega⟩)
  have hin:(Tryz.prog.info? 39).map (·.size)=some cn.toArray.size:=by rw[List.size_toArray,hl4];exact S_Table.info
  have HIN:=Lib.hid hin
  clear k2 row0 rowR kk kS hl4 hin hN hO
  go_wp2_with fail
  refine bodyPost_ret (jag (by rfl) _ _ _ _ _ _ _ (by rfl) rowF Tryz.underlying39 (by rfl) HIN.out) rfl ?_
  rw[hR.out]
  exact⟨_,rfl,hN2,kF⟩
end
section
attribute [local go_sem ↓] jc0 jdc jbB
end
end
end Go.Proofs.YtibaehlfpgipfaaGreat
