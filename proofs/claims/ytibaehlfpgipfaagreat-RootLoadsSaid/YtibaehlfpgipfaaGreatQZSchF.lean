/- SCHEMA: a catalog of one's own, by the program. Printed by gen27.py. -/
import Derived.Test.YtibaehlfpgipfaaGreatQZG11
import Derived.Deep.RegionHeld3
import Derived.Deep.AppendLies
namespace Go.Proofs.YtibaehlfpgipfaaGreat
open Go.RowKit
set_option maxRecDepth 100000
set_option maxHeartbeats 8000000
set_option linter.unusedSimpArgs false
theorem jgr{P:Program}{t e sz bytes:Nat}(T:SliceT P t e sz bytes){w:World}{cs:Array Value}{t':TypeId}{ops:Array Oper}{o:Oper}{a:Act}{K:Act→World→Prop}{Q:Exit→Act→World→Prop}{E:Prop}(hgd:o.guard=none)(s x:Operand)
  (ho:o.op=.call {callee:=.builtin .append,args:=#[s,x],argTypes:=#[t,t]})
  (base:Nat) {v:Value} {n:Nat} {xs:List Value} (hs:a.eval s=v) (hown:w.ownsRow base e sz v n xs)
  {c:Nat} (hx:a.eval x=.slice (some ⟨w.heap.size,0,none⟩) 1 c) (hl:cs.size=sz) (h1:∀u∈cs.toList,u.oneCell'=true)
  (h63:n+1≤maxLen) (hbytes:(n+1)*bytes≤140737488355328) (hbase:base≤w.heap.size)
  (h:∀a' cap' w',w'.ownsRow base e sz (.slice a' (n+1) cap') (n+1) (xs ++ cs.toList)→Keep (OwnB v) w w'→(∀b,OwnB (.slice a' (n+1) cap') b→OwnB v b∨w.heap.size≤b)→K (a.put o.dst (.slice a' (n+1) cap')) w') :
  if Region.wanted o (yielded ops a.tmps)=true then Oper.wp P o a (w.alloc (.cells cs t')) K Q else E:=by
 obtain⟨i,z,hi,hz,hsz,hby,hzs⟩:=T.info
 obtain⟨b,off,hb,hp,hlt,hc⟩:=Lies.block w cs t' (·=w.heap.size) rfl (fun e=>by
  have:=congrArg List.length e
  rw[Array.length_toList,hl,List.length_nil]at this
  exact absurd this (Nat.ne_of_gt T.pos))
 simp only[Option.some.injEq,Addr.mk.injEq]at hb
 obtain⟨rfl,rfl,-⟩:=hb
 refine step_append_lies (w.alloc (.cells cs t')) hgd s x t ho base e i z sz bytes T.under hi hz hsz hby hzs T.pos v n xs hs (hown.alloc _) ⟨w.heap.size,0,none⟩ 1 c cs.toList hx (by simp[hl]) (fun j u hu=>by rw[Addr.add_lit];exact hc j u hu) h1 (by decide) h63 hbytes (by simp;omega) (w.alloc (.cells cs t')).heap.size rfl ?_
 intro g cap' w' ho' hg hat hlt'
 refine h _ cap' w' ho' (((Keep.refl _ _).alloc _).grown hg fun _ hk _=>hk) (fun b hb=>?_)
 have hgb:b=g:=by simp[OwnB,Value.ownBlock]at hb;exact hb.symm
 subst hgb
 rcases hat with hat | hat
 ·exact .inl hat
 ·exact .inr (by subst hat;simp)
theorem Els.push0{α:Type}{R:RD α}{sz:Nat}{w wr w2 w3:World}{css:List (List Value)}{xs:List α}{v v':Value}{c:List Value}{x:α}(els:Els R wr (fun b=>jai w wr b∧¬OwnB v b) css xs)(L:Lawful R sz)(hc:R w2 (jai wr w2) c x)(k2:Keep Nix wr w2)(k3:Keep (OwnB v) w2 w3)(hw:w.heap.size≤wr.heap.size)
  (hv:∀b,OwnB v b→b<wr.heap.size) (hn:∀b,OwnB v' b→OwnB v b∨w2.heap.size≤b):Els R w3 (fun b=>jai w w3 b∧¬OwnB v' b) (css ++ [c]) (xs ++ [x]):=by
 have s2:=k2.size
 have s3:=k3.size
 refine Els.snoc ?_ ?_
 ·refine((els.keep L k2 (fun _ _ h=>h)).keep L k3 (fun b hb=>hb.2)).mono L (fun b hb=>⟨⟨hb.1.1,by have:=hb.1.2;omega⟩,fun h=>?_⟩)
  rcases hn b h with h | h
  ·exact hb.2 h
  ·have:=hb.1.2;omega
 ·refine L.mono (L.keep hc k3 (fun b hb h=>by have:=hv b h;have:=hb.1;omega)) (fun b hb=>⟨⟨by have:=hb.1;omega,by have:=hb.2;omega⟩,fun h=>?_⟩)
  rcases hn b h with h | h
  ·have:=hv b h;have:=hb.1;omega
  ·have:=hb.2;omega
def OwnCat(base:Nat)(w':World)(cs:List Value)(c:GCatalog):Prop:=∃(aT:Option Addr) (cT:Nat) (aX:Option Addr) (cX:Nat) (cssT cssX:List (List Value)) (m:Nat),cs=[.int .i64 c.fVersion,.int .i64 c.fNext,.slice aT c.fTables.length cT,.slice aX c.fIndexes.length cX]∧base≤m∧m≤w'.heap.size∧
 w'.ownsRow base 39 4 (.slice aT c.fTables.length cT) c.fTables.length cssT.flatten∧(∀b,OwnB (.slice aT c.fTables.length cT) b→b<m)∧Els jbR w' (fun b=>base≤b∧b<m∧¬OwnB (.slice aT c.fTables.length cT) b) cssT c.fTables∧
 w'.ownsRow m 41 7 (.slice aX c.fIndexes.length cX) c.fIndexes.length cssX.flatten∧Els jbQ w' (fun b=>m≤b∧b<w'.heap.size∧¬OwnB (.slice aX c.fIndexes.length cX) b) cssX c.fIndexes
def RetOwn(w:World)(c:GCatalog)(e:Ending)(w':World):Prop:=∃cs:List Value,e=.returned (.agg cs.toArray)∧OwnCat (w.heap.size+1+1+1) w' cs c∧Keep Nix w w'
section
attribute [local go_sem ↓] jcd jc2 jbB jcp jc0 jdc ji9 ji8
theorem jhm{p:Nat→Prop}(c:GCatalog)(csc:List Value)(w:World)(hc:jat w p csc c)(hs:jb4 c) :
  Calls Tryz.prog 34 #[.agg csc.toArray] w (RetOwn w c):=by
 obtain⟨aT,cT,aX,cX,rfl,hv,hn,hT,hX,-⟩:=jau hc
 obtain⟨hsT,hsX,nT,nX⟩:=hs
 have mT:c.fTables.length≤140737488351232:=by omega
 have mX:c.fIndexes.length≤140737488351232:=by omega
 have HST:=Lib.hid hsT
 have HSX:=Lib.hid hsX
 have row0:RowIs (((w.alloc (.cells #[.int .i64 c.fVersion,.int .i64 c.fNext,.slice aT c.fTables.length cT,.slice aX c.fIndexes.length cX] 50)).alloc (.cells #[.int .i64 0,.int .i64 0,.slice none 0 0,.slice none 0 0] 50)).alloc (.cells #[.int .i64 0,.int .i64 0,.slice none 0 0,.slice none 0 0] 50)) w.heap.size 50 [.int .i64 c.fVersion,.int .i64 c.fNext,.slice aT c.fTables.length cT,.slice aX c.fIndexes.length cX]:=((RowIs.alloc w _ _).keep ((Keep.refl Nix _).alloc _) id).keep ((Keep.refl Nix _).alloc _) id
 have rowR:RowIs (((w.alloc (.cells #[.int .i64 c.fVersion,.int .i64 c.fNext,.slice aT c.fTables.length cT,.slice aX c.fIndexes.length cX] 50)).alloc (.cells #[.int .i64 0,.int .i64 0,.slice none 0 0,.slice none 0 0] 50)).alloc (.cells #[.int .i64 0,.int .i64 0,.slice none 0 0,.slice none 0 0] 50)) (w.heap.size+1) 50 [.int .i64 0,.int .i64 0,.slice none 0 0,.slice none 0 0]:=(RowIs.alloc_at (w.alloc (.cells #[.int .i64 c.fVersion,.int .i64 c.fNext,.slice aT c.fTables.length cT,.slice aX c.fIndexes.length cX] 50)) _ (by simp) #[.int .i64 0,.int .i64 0,.slice none 0 0,.slice none 0 0] 50).keep ((Keep.refl Nix _).alloc _) id
 have rowO0:RowIs (((w.alloc (.cells #[.int .i64 c.fVersion,.int .i64 c.fNext,.slice aT c.fTables.length cT,.slice aX c.fIndexes.length cX] 50)).alloc (.cells #[.int .i64 0,.int .i64 0,.slice none 0 0,.slice none 0 0] 50)).alloc (.cells #[.int .i64 0,.int .i64 0,.slice none 0 0,.slice none 0 0] 50)) (w.heap.size+1+1) 50 [.int .i64 0,.int .i64 0,.slice none 0 0,.slice none 0 0]:=RowIs.alloc_at ((w.alloc (.cells #[.int .i64 c.fVersion,.int .i64 c.fNext,.slice aT c.fTables.length cT,.slice aX c.fIndexes.length cX] 50)).alloc (.cells #[.int .i64 0,.int .i64 0,.slice none 0 0,.slice none 0 0] 50)) _ (by simp) #[.int .i64 0,.int .i64 0,.slice none 0 0,.slice none 0 0] 50
 have hst:=jaf (P:=Tryz.prog) (cs:=[.int .i64 c.fVersion,.int .i64 c.fNext,.slice none 0 0,.slice none 0 0]) S_Catalog rowO0 rfl rfl rfl
 have rowO:=rowO0.setRow [.int .i64 c.fVersion,.int .i64 c.fNext,.slice none 0 0,.slice none 0 0]
 have kS:Keep (fun b=>b=w.heap.size+1+1) (((w.alloc (.cells #[.int .i64 c.fVersion,.int .i64 c.fNext,.slice aT c.fTables.length cT,.slice aX c.fIndexes.length cX] 50)).alloc (.cells #[.int .i64 0,.int .i64 0,.slice none 0 0,.slice none 0 0] 50)).alloc (.cells #[.int .i64 0,.int .i64 0,.slice none 0 0,.slice none 0 0] 50)) ((((w.alloc (.cells #[.int .i64 c.fVersion,.int .i64 c.fNext,.slice aT c.fTables.length cT,.slice aX c.fIndexes.length cX] 50)).alloc (.cells #[.int .i64 0,.int .i64 0,.slice none 0 0,.slice none 0 0] 50)).alloc (.cells #[.int .i64 0,.int .i64 0,.slice none 0 0,.slice none 0 0] 50)).setRow (w.heap.size+1+1) [.int .i64 c.fVersion,.int .i64 c.fNext,.slice none 0 0,.slice none 0 0].toArray):=(Keep.refl (fun b=>b=w.heap.size+1+1) _).setRow (fun _=>rfl) _
 replace row0:=row0.keep kS (by omega)
 replace rowR:=rowR.keep kS (by omega)
 have kk:Keep Nix w ((((w.alloc (.cells #[.int .i64 c.fVersion,.int .i64 c.fNext,.slice aT c.fTables.length cT,.slice aX c.fIndexes.length cX] 50)).alloc (.cells #[.int .i64 0,.int .i64 0,.slice none 0 0,.slice none 0 0] 50)).alloc (.cells #[.int .i64 0,.int .i64 0,.slice none 0 0,.slice none 0 0] 50)).setRow (w.heap.size+1+1) [.int .i64 c.fVersion,.int .i64 c.fNext,.slice none 0 0,.slice none 0 0].toArray):=((((Keep.refl Nix w).alloc _).alloc _).alloc _).then kS (fun i hi e=>by omega)
 have hbd:∀w',(Instr.build 50 #[(0,.int .i64 c.fVersion),(1,.int .i64 c.fNext)]).run Tryz.prog w'=.ok (.agg #[.int .i64 c.fVersion,.int .i64 c.fNext,.slice none 0 0,.slice none 0 0]) w':=fun w'=>by kernel_rfl
 obtain⟨w0,hw0⟩:∃w0:World,w0.heap.size=w.heap.size+1+1+1:=⟨((((w.alloc (.cells #[.int .i64 c.fVersion,.int .i64 c.fNext,.slice aT c.fTables.length cT,.slice aX c.fIndexes.length cX] 50)).alloc (.cells #[.int .i64 0,.int .i64 0,.slice none 0 0,.slice none 0 0] 50)).alloc (.cells #[.int .i64 0,.int .i64 0,.slice none 0 0,.slice none 0 0] 50)).setRow (w.heap.size+1+1) [.int .i64 c.fVersion,.int .i64 c.fNext,.slice none 0 0,.slice none 0 0].toArray),by simp⟩
 clear hc hsT hsX kS rowO0
 have x0:=row0.cell 0
 have x1:=row0.cell 1
 have x2:=row0.cell 2
 simp only[List.getElem?_cons_succ,List.getElem?_cons_zero]at x0 x1 x2
 go_enter Tryz.func34,Tryz.ntmps34
 go_wp2_with fail
 clear hst hbd x0 x1 x2
 go_loopw [16] (fun i wr=>∃(k:Nat) (a:Option Addr) (cap:Nat) (css:List (List Value)),k≤c.fTables.length∧i=.int .i64 k∧wr.ownsRow (w.heap.size+1+1+1) 39 4 (.slice a k cap) k css.flatten∧Els jbR wr (fun b=>jai w0 wr b∧¬OwnB (.slice a k cap) b) css (c.fTables.take k)∧RowIs wr (w.heap.size+1+1) 50 [.int .i64 c.fVersion,.int .i64 c.fNext,.slice a k cap,.slice none 0 0]∧RowIs wr w.heap.size 50 [.int .i64 c.fVersion,.int .i64 c.fNext,.slice aT c.fTables.length cT,.slice aX c.fIndexes.length cX]∧RowIs wr (w.heap.size+1) 50 [.int .i64 0,.int .i64 0,.slice none 0 0,.slice none 0 0]∧Keep Nix w wr) (fun i _=>c.fTables.length - (intOf i).toNat)
 case atStart=>exact⟨0,none,0,[],by omega,rfl,World.ownsRow_nil _ _ _ _,Els.nil _ _ _,rowO,row0,rowR,kk⟩
 case round=>
  clear row0 kk rowR rowO
  obtain⟨k,ao,co,css,hk,rfl,own,els,rowO,row0,rowR,kk⟩:=hrel
  have hbO:w.heap.size+1+1<wr.heap.size:=rowO.lt
  by_cases hlt:k<c.fTables.length
  focus
   have hi0:(0:Int)≤(k:Int):=by omega
   have hi1:(k:Int)<(c.fTables.length:Int):=by omega
   obtain⟨b,o,cc,cs,e1,-,hb,r,hcl⟩:=jaY rGTable_lawful (by decide) ((jac rGTable_lawful).nix hT kk) k hlt
   simp only[List.cons.injEq,Value.slice.injEq,and_true]at e1
   obtain⟨rfl,-,-⟩:=e1
   have HTK:Hid (c.fTables.take (k+1)=c.fTables.take k ++ [c.fTables[k]]):=List.take_succ_eq_append_getElem hlt
   obtain⟨hx1,hx2⟩:=HST.out _ (List.getElem_mem hlt)
   generalize c.fTables[k]=x at r HTK hx1 hx2
   have hlen:=rGTable_lawful.len r
   have ones_:=jef r
   have ld:=Whole.at (P:=Tryz.prog) S_Table hlen hcl
   unfold Whole at ld
   have hst:=jaf (P:=Tryz.prog) (cs:=cs) S_Table (RowIs.alloc wr #[.int .i64 0,.string {data:=#[]},.slice none 0 0,.slice none 0 0] 39) rfl hlen ones_
   have rowX:=(RowIs.alloc wr #[.int .i64 0,.string {data:=#[]},.slice none 0 0,.slice none 0 0] 39).setRow cs
   have kV:Keep Nix wr ((wr.alloc (.cells #[.int .i64 0,.string {data:=#[]},.slice none 0 0,.slice none 0 0] 39)).setRow wr.heap.size cs.toArray):=((Keep.refl Nix wr).alloc (.cells #[.int .i64 0,.string {data:=#[]},.slice none 0 0,.slice none 0 0] 39)).setRow (fun h=>absurd h (Nat.lt_irrefl _)) _
   replace row0:=row0.keep kV id
   replace rowR:=rowR.keep kV id
   replace rowO:=rowO.keep kV id
   replace kk:=kk.trans kV
   replace r:=rGTable_lawful.nix r kV
   have hob0:∀b,OwnB (.slice ao k co) b→b<wr.heap.size:=fun b hb=>(own.lt b hb).2
   replace own:=jad own kV (fun _ _ h=>h)
   have hsz:=kV.size
   have els1:=(els.keep fGTable_lawful kV (fun _ _ h=>h)).mono (q:=fun b=>jai w0 ((wr.alloc (.cells #[.int .i64 0,.string {data:=#[]},.slice none 0 0,.slice none 0 0] 39)).setRow wr.heap.size cs.toArray) b∧¬OwnB (.slice ao k co) b) fGTable_lawful (fun b hb=>⟨⟨hb.1.1,by have:=hb.1.2;omega⟩,hb.2⟩)
   clear kV hcl els
   go_wp2_with fail
   clear ld hst
   generalize hwx:((wr.alloc (.cells #[.int .i64 0,.string {data:=#[]},.slice none 0 0,.slice none 0 0] 39)).setRow wr.heap.size cs.toArray)=wx at *
   have hobx:∀b,OwnB (.slice ao k co) b→b<wr.heap.size:=hob0
   generalize wr.heap.size=bx at *
   clear hwx
   have hbx:=rowX.lt
   replace row0:=row0.same (w':=wx.drew)
   replace rowR:=rowR.same (w':=wx.drew)
   replace rowO:=rowO.same (w':=wx.drew)
   replace rowX:=rowX.same (w':=wx.drew)
   replace own:=jfI own (w':=wx.drew)
   replace els1:=els1.keep fGTable_lawful ((Keep.refl Nix wx).drew) (fun _ _ h=>h)
   replace r:=rGTable_lawful.nix r ((Keep.refl Nix wx).drew)
   replace kk:=kk.drew
   have hwl:w0.heap.size≤wx.drew.heap.size:=by have:w.heap.size+1+1<wx.drew.heap.size:=rowO.lt;omega
   have hvx:=fun b hb=>(own.lt b hb).2
   refine wp_region_held_drew (S:=(fun w'=>(ja1 39 (.pointer (some ⟨bx,0,none⟩))).run Tryz.prog w'=.ok (.value (.agg cs.toArray)) w')) (by kernel_rfl) (Whole.row S_Table hlen rowX) (fun jaa=>?_)
   refine tk 0 rfl jaa ?_
   refine tk 2 rfl jaa ?_
   refine wpAnyH_ready (rs:=[1,3]) (by kernel_rfl) (by simp) ?_
   refine AllReadyH.cons rfl (fun K hK=>?_) (AllReadyH.cons rfl (fun K hK=>?_) AllReadyH.nil)
   focus
    have x2:=rowO.cell 2
    have f2:=rowO.frozen 2
    simp only[List.getElem?_cons_succ,List.getElem?_cons_zero]at x2
    try simp only[zz1,zz2,zz3]
    go_simp
    clear x2 f2
    refine hK.out _ _ (Whole.row S_Table hlen rowX) (fun jaa=>?_)
    clear hK K
    try simp only[Act.put,zz1,zz2,zz3,zz4,zz5,zz6]
    refine wpAnyH_ready (rs:=[3]) (by kernel_rfl) (by simp) ?_
    refine AllReadyH.cons rfl (fun K hK=>?_) AllReadyH.nil
    go_simp
    go_fit (jeD x cs _ r (by omega) (by omega))
    rintro e w1 ⟨cn,rfl,hN,k1⟩
    replace row0:=row0.keep k1 id
    replace rowR:=rowR.keep k1 id
    replace rowO:=rowO.keep k1 id
    replace rowX:=rowX.keep k1 id
    replace kk:=kk.trans k1
    replace own:=jad own k1 (fun _ _ h=>h)
    have hln:=fGTable_lawful.len hN
    have hls:=jb3 (P:=Tryz.prog) T_lTable (by decide) cn hln w1
    clear r
    go_wp2_with fail
    refine hK.out _ _ (Whole.row S_Table hlen rowX) (fun jaa=>?_)
    clear hK K
    try simp only[Act.put,zz1,zz2,zz3,zz4,zz5,zz6]
    refine wpAnyH_ready (rs:=[4]) (by kernel_rfl) (by simp) ?_
    refine AllReadyH.cons rfl (fun K hK=>?_) AllReadyH.nil
    try simp only[zz1,zz2,zz3]
    go_simp
    clear hls
    have rowX4:=rowX.keep ((Keep.refl Nix w1).alloc (.cells cn.toArray 39)) id
    have rowO4:=rowO.keep ((Keep.refl Nix w1).alloc (.cells cn.toArray 39)) id
    refine ?h1a
   rotate_left
   focus
    go_simp
    go_fit (jeD x cs _ r (by omega) (by omega))
    rintro e w1 ⟨cn,rfl,hN,k1⟩
    replace row0:=row0.keep k1 id
    replace rowR:=rowR.keep k1 id
    replace rowO:=rowO.keep k1 id
    replace rowX:=rowX.keep k1 id
    replace kk:=kk.trans k1
    replace own:=jad own k1 (fun _ _ h=>h)
    have hln:=fGTable_lawful.len hN
    have hls:=jb3 (P:=Tryz.prog) T_lTable (by decide) cn hln w1
    clear r
    go_wp2_with fail
    refine hK.out _ _ (Whole.row S_Table hlen rowX) (fun jaa=>?_)
    clear hK K
    try simp only[Act.put,zz1,zz2,zz3,zz4,zz5,zz6]
    refine wpAnyH_ready (rs:=[1,4]) (by kernel_rfl) (by simp) ?_
    refine AllReadyH.cons rfl (fun K hK=>?_) (AllReadyH.cons rfl (fun K hK=>?_) AllReadyH.nil)
    focus
     have x2:=rowO.cell 2
     have f2:=rowO.frozen 2
     simp only[List.getElem?_cons_succ,List.getElem?_cons_zero]at x2
     try simp only[zz1,zz2,zz3]
     go_simp
     clear x2 f2
     refine hK.out _ _ (Whole.row S_Table hlen rowX) (fun jaa=>?_)
     clear hK K
     try simp only[Act.put,zz1,zz2,zz3,zz4,zz5,zz6]
     refine wpAnyH_ready (rs:=[4]) (by kernel_rfl) (by simp) ?_
     refine AllReadyH.cons rfl (fun K hK=>?_) AllReadyH.nil
     try simp only[zz1,zz2,zz3]
     go_simp
     clear hls
     have rowX4:=rowX.keep ((Keep.refl Nix w1).alloc (.cells cn.toArray 39)) id
     have rowO4:=rowO.keep ((Keep.refl Nix w1).alloc (.cells cn.toArray 39)) id
     refine ?h1b
    rotate_left
    focus
     try simp only[zz1,zz2,zz3]
     go_simp
     clear hls
     have rowX4:=rowX.keep ((Keep.refl Nix w1).alloc (.cells cn.toArray 39)) id
     have rowO4:=rowO.keep ((Keep.refl Nix w1).alloc (.cells cn.toArray 39)) id
     refine hK.out _ _ (Whole.row S_Table hlen rowX4) (fun jaa=>?_)
     clear hK K
     try simp only[Act.put,zz1,zz2,zz3,zz4,zz5,zz6]
     refine wpAnyH_ready (rs:=[1]) (by kernel_rfl) (by simp) ?_
     refine AllReadyH.cons rfl (fun K hK=>?_) AllReadyH.nil
     have x2:=rowO4.cell 2
     have f2:=rowO4.frozen 2
     simp only[List.getElem?_cons_succ,List.getElem?_cons_zero]at x2
     try simp only[zz1,zz2,zz3]
     go_simp
     clear x2 f2
     refine ?h1c
    rotate_left
   rotate_left 2
  rotate_left 3
  ·obtain rfl:k=c.fTables.length:=by omega
   have hTge:∀b,OwnB (.slice ao c.fTables.length co) b→w.heap.size+1+1+1≤b:=fun b hb=>(own.lt b hb).1
   have hTlt:∀b,OwnB (.slice ao c.fTables.length co) b→b<wr.heap.size:=fun b hb=>(own.lt b hb).2
   have ownT:=own
   have elsT:Els jbR wr (fun b=>jai w0 wr b∧¬OwnB (.slice ao c.fTables.length co) b) css c.fTables:=by
    have e:c.fTables.take c.fTables.length=c.fTables:=List.take_length
    rw[e]at els
    exact els
   obtain⟨cssT,hcssT⟩:∃cssT,cssT=css:=⟨_,rfl⟩
   rw[←hcssT]at ownT elsT
   have hbO:w.heap.size+1+1+1≤wr.heap.size:=rowO.lt
   obtain⟨wo,rfl⟩:∃wo:World,wo=wr:=⟨_,rfl⟩
   clear els own HST hk hlt hcssT
   have x3:=row0.cell 3
   simp only[List.getElem?_cons_succ,List.getElem?_cons_zero]at x3
   go_wp2_with fail
   clear x3
   go_loopw [31] (fun i wi=>∃(k:Nat) (a:Option Addr) (cap:Nat) (css:List (List Value)),k≤c.fIndexes.length∧i=.int .i64 k∧wi.ownsRow wo.heap.size 41 7 (.slice a k cap) k css.flatten∧Els jbQ wi (fun b=>jai wo wi b∧¬OwnB (.slice a k cap) b) css (c.fIndexes.take k)∧RowIs wi (w.heap.size+1+1) 50 [.int .i64 c.fVersion,.int .i64 c.fNext,.slice ao c.fTables.length co,.slice a k cap]∧wi.ownsRow (w.heap.size+1+1+1) 39 4 (.slice ao c.fTables.length co) c.fTables.length cssT.flatten∧Els jbR wi (fun b=>jai w0 wo b∧¬OwnB (.slice ao c.fTables.length co) b) cssT c.fTables∧RowIs wi w.heap.size 50 [.int .i64 c.fVersion,.int .i64 c.fNext,.slice aT c.fTables.length cT,.slice aX c.fIndexes.length cX]∧RowIs wi (w.heap.size+1) 50 [.int .i64 0,.int .i64 0,.slice none 0 0,.slice none 0 0]∧wo.heap.size≤wi.heap.size∧Keep Nix w wi) (fun i _=>c.fIndexes.length - (intOf i).toNat)
   case atStart=>exact⟨0,none,0,[],by omega,rfl,World.ownsRow_nil _ _ _ _,Els.nil _ _ _,rowO,ownT,elsT,row0,rowR,Nat.le_refl _,kk⟩
   case round=>
    clear row0 kk rowR rowO ownT elsT
    obtain⟨k,ai,ci,css,hk,rfl,own,els,rowO,ownT,elsT,row0,rowR,hwo,kk⟩:=hrel
    have aoe:ao=ao:=rfl
    by_cases hlt:k<c.fIndexes.length
    focus
     have hi0:(0:Int)≤(k:Int):=by omega
     have hi1:(k:Int)<(c.fIndexes.length:Int):=by omega
     obtain⟨b,o,cc,cs,e1,-,hb,r,hcl⟩:=jaY rGIndex_lawful (by decide) ((jac rGIndex_lawful).nix hX kk) k hlt
     simp only[List.cons.injEq,Value.slice.injEq,and_true]at e1
     obtain⟨rfl,-,-⟩:=e1
     have HTK:Hid (c.fIndexes.take (k+1)=c.fIndexes.take k ++ [c.fIndexes[k]]):=List.take_succ_eq_append_getElem hlt
     have hx1:=HSX.out _ (List.getElem_mem hlt)
     unfold jkj at hx1
     generalize c.fIndexes[k]=x at r HTK hx1
     have hlen:=rGIndex_lawful.len r
     have ones_:=jgj r
     have ld:=Whole.at (P:=Tryz.prog) S_Index hlen hcl
     unfold Whole at ld
     have hst:=jaf (P:=Tryz.prog) (cs:=cs) S_Index (RowIs.alloc wr #[.int .i64 0,.int .i64 0,.string {data:=#[]},.slice none 0 0,.bool false,.int .i64 0,.bool false] 41) rfl hlen ones_
     have rowX:=(RowIs.alloc wr #[.int .i64 0,.int .i64 0,.string {data:=#[]},.slice none 0 0,.bool false,.int .i64 0,.bool false] 41).setRow cs
     have kV:Keep Nix wr ((wr.alloc (.cells #[.int .i64 0,.int .i64 0,.string {data:=#[]},.slice none 0 0,.bool false,.int .i64 0,.bool false] 41)).setRow wr.heap.size cs.toArray):=((Keep.refl Nix wr).alloc (.cells #[.int .i64 0,.int .i64 0,.string {data:=#[]},.slice none 0 0,.bool false,.int .i64 0,.bool false] 41)).setRow (fun h=>absurd h (Nat.lt_irrefl _)) _
     replace row0:=row0.keep kV id
     replace rowR:=rowR.keep kV id
     replace rowO:=rowO.keep kV id
     replace kk:=kk.trans kV
     replace r:=rGIndex_lawful.nix r kV
     replace ownT:=jad ownT kV (fun _ _ h=>h)
     replace elsT:=elsT.keep fGTable_lawful kV (fun _ _ h=>h)
     have hob0:∀b,OwnB (.slice ai k ci) b→b<wr.heap.size:=fun b hb=>(own.lt b hb).2
     replace own:=jad own kV (fun _ _ h=>h)
     have hsz:=kV.size
     have els1:=(els.keep fGIndex_lawful kV (fun _ _ h=>h)).mono (q:=fun b=>jai wo ((wr.alloc (.cells #[.int .i64 0,.int .i64 0,.string {data:=#[]},.slice none 0 0,.bool false,.int .i64 0,.bool false] 41)).setRow wr.heap.size cs.toArray) b∧¬OwnB (.slice ai k ci) b) fGIndex_lawful (fun b hb=>⟨⟨hb.1.1,by have:=hb.1.2;omega⟩,hb.2⟩)
     clear kV hcl els
     go_wp2_with fail
     clear ld hst
     generalize hwx:((wr.alloc (.cells #[.int .i64 0,.int .i64 0,.string {data:=#[]},.slice none 0 0,.bool false,.int .i64 0,.bool false] 41)).setRow wr.heap.size cs.toArray)=wx at *
     have hobx:∀b,OwnB (.slice ai k ci) b→b<wr.heap.size:=hob0
     generalize wr.heap.size=bx at *
     clear hwx
     have hbx:=rowX.lt
     replace row0:=row0.same (w':=wx.drew)
     replace rowR:=rowR.same (w':=wx.drew)
     replace rowO:=rowO.same (w':=wx.drew)
     replace rowX:=rowX.same (w':=wx.drew)
     replace own:=jfI own (w':=wx.drew)
     replace els1:=els1.keep fGIndex_lawful ((Keep.refl Nix wx).drew) (fun _ _ h=>h)
     replace r:=rGIndex_lawful.nix r ((Keep.refl Nix wx).drew)
     replace ownT:=jfI ownT (w':=wx.drew)
     replace elsT:=elsT.keep fGTable_lawful ((Keep.refl Nix wx).drew) (fun _ _ h=>h)
     replace kk:=kk.drew
     have hwl:wo.heap.size≤wx.drew.heap.size:=Nat.le_trans hwo hsz
     have hvx:=fun b hb=>(own.lt b hb).2
     refine wp_region_held_drew (S:=(fun w'=>(ja1 41 (.pointer (some ⟨bx,0,none⟩))).run Tryz.prog w'=.ok (.value (.agg cs.toArray)) w')) (by kernel_rfl) (Whole.row S_Index hlen rowX) (fun jaa=>?_)
     refine tk 0 rfl jaa ?_
     refine tk 2 rfl jaa ?_
     refine wpAnyH_ready (rs:=[1,3]) (by kernel_rfl) (by simp) ?_
     refine AllReadyH.cons rfl (fun K hK=>?_) (AllReadyH.cons rfl (fun K hK=>?_) AllReadyH.nil)
     focus
      have x2:=rowO.cell 3
      have f2:=rowO.frozen 3
      simp only[List.getElem?_cons_succ,List.getElem?_cons_zero]at x2
      try simp only[zz1,zz2,zz3]
      go_simp
      clear x2 f2
      refine hK.out _ _ (Whole.row S_Index hlen rowX) (fun jaa=>?_)
      clear hK K
      try simp only[Act.put,zz1,zz2,zz3,zz4,zz5,zz6]
      refine wpAnyH_ready (rs:=[3]) (by kernel_rfl) (by simp) ?_
      refine AllReadyH.cons rfl (fun K hK=>?_) AllReadyH.nil
      go_simp
      go_fit (jfH x cs _ r (by omega))
      rintro e w1 ⟨cn,rfl,hN,k1⟩
      replace row0:=row0.keep k1 id
      replace rowR:=rowR.keep k1 id
      replace rowO:=rowO.keep k1 id
      replace rowX:=rowX.keep k1 id
      replace kk:=kk.trans k1
      replace own:=jad own k1 (fun _ _ h=>h)
      have hln:=fGIndex_lawful.len hN
      have hls:=jb3 (P:=Tryz.prog) T_lIndex (by decide) cn hln w1
      replace ownT:=jad ownT k1 (fun _ _ h=>h)
      replace elsT:=elsT.keep fGTable_lawful k1 (fun _ _ h=>h)
      have hwl1:=Nat.le_trans hwl k1.size
      clear r
      go_wp2_with fail
      refine hK.out _ _ (Whole.row S_Index hlen rowX) (fun jaa=>?_)
      clear hK K
      try simp only[Act.put,zz1,zz2,zz3,zz4,zz5,zz6]
      refine wpAnyH_ready (rs:=[4]) (by kernel_rfl) (by simp) ?_
      refine AllReadyH.cons rfl (fun K hK=>?_) AllReadyH.nil
      try simp only[zz1,zz2,zz3]
      go_simp
      clear hls
      have rowX4:=rowX.keep ((Keep.refl Nix w1).alloc (.cells cn.toArray 41)) id
      have rowO4:=rowO.keep ((Keep.refl Nix w1).alloc (.cells cn.toArray 41)) id
      refine ?h2a
     rotate_left
     focus
      go_simp
      go_fit (jfH x cs _ r (by omega))
      rintro e w1 ⟨cn,rfl,hN,k1⟩
      replace row0:=row0.keep k1 id
      replace rowR:=rowR.keep k1 id
      replace rowO:=rowO.keep k1 id
      replace rowX:=rowX.keep k1 id
      replace kk:=kk.trans k1
      replace own:=jad own k1 (fun _ _ h=>h)
      have hln:=fGIndex_lawful.len hN
      have hls:=jb3 (P:=Tryz.prog) T_lIndex (by decide) cn hln w1
      replace ownT:=jad ownT k1 (fun _ _ h=>h)
      replace elsT:=elsT.keep fGTable_lawful k1 (fun _ _ h=>h)
      have hwl1:=Nat.le_trans hwl k1.size
      clear r
      go_wp2_with fail
      refine hK.out _ _ (Whole.row S_Index hlen rowX) (fun jaa=>?_)
      clear hK K
      try simp only[Act.put,zz1,zz2,zz3,zz4,zz5,zz6]
      refine wpAnyH_ready (rs:=[1,4]) (by kernel_rfl) (by simp) ?_
      refine AllReadyH.cons rfl (fun K hK=>?_) (AllReadyH.cons rfl (fun K hK=>?_) AllReadyH.nil)
      focus
       have x2:=rowO.cell 3
       have f2:=rowO.frozen 3
       simp only[List.getElem?_cons_succ,List.getElem?_cons_zero]at x2
       try simp only[zz1,zz2,zz3]
       go_simp
       clear x2 f2
       refine hK.out _ _ (Whole.row S_Index hlen rowX) (fun jaa=>?_)
       clear hK K
       try simp only[Act.put,zz1,zz2,zz3,zz4,zz5,zz6]
       refine wpAnyH_ready (rs:=[4]) (by kernel_rfl) (by simp) ?_
       refine AllReadyH.cons rfl (fun K hK=>?_) AllReadyH.nil
       try simp only[zz1,zz2,zz3]
       go_simp
       clear hls
       have rowX4:=rowX.keep ((Keep.refl Nix w1).alloc (.cells cn.toArray 41)) id
       have rowO4:=rowO.keep ((Keep.refl Nix w1).alloc (.cells cn.toArray 41)) id
       refine ?h2b
      rotate_left
      focus
       try simp only[zz1,zz2,zz3]
       go_simp
       clear hls
       have rowX4:=rowX.keep ((Keep.refl Nix w1).alloc (.cells cn.toArray 41)) id
       have rowO4:=rowO.keep ((Keep.refl Nix w1).alloc (.cells cn.toArray 41)) id
       refine hK.out _ _ (Whole.row S_Index hlen rowX4) (fun jaa=>?_)
       clear hK K
       try simp only[Act.put,zz1,zz2,zz3,zz4,zz5,zz6]
       refine wpAnyH_ready (rs:=[1]) (by kernel_rfl) (by simp) ?_
       refine AllReadyH.cons rfl (fun K hK=>?_) AllReadyH.nil
       have x2:=rowO4.cell 3
       have f2:=rowO4.frozen 3
       simp only[List.getElem?_cons_succ,List.getElem?_cons_zero]at x2
       try simp only[zz1,zz2,zz3]
       go_simp
       clear x2 f2
       refine ?h2c
      rotate_left
     rotate_left 2
    rotate_left 3
    ·obtain rfl:k=c.fIndexes.length:=by omega
     have elsX:Els jbQ wr (fun b=>jai wo wr b∧¬OwnB (.slice ai c.fIndexes.length ci) b) css c.fIndexes:=by
      have e:c.fIndexes.take c.fIndexes.length=c.fIndexes:=List.take_length
      rw[e]at els
      exact els
     have hXge:∀b,OwnB (.slice ai c.fIndexes.length ci) b→wo.heap.size≤b:=fun b hb=>(own.lt b hb).1
     have ld:=Whole.row (P:=Tryz.prog) S_Catalog rfl rowO
     unfold Whole at ld
     have hst:=jaf (P:=Tryz.prog) (cs:=[.int .i64 c.fVersion,.int .i64 c.fNext,.slice ao c.fTables.length co,.slice ai c.fIndexes.length ci]) S_Catalog rowR rfl rfl rfl
     have rowF:=rowR.setRow [.int .i64 c.fVersion,.int .i64 c.fNext,.slice ao c.fTables.length co,.slice ai c.fIndexes.length ci]
     have kS:Keep (·=w.heap.size+1) wr (wr.setRow (w.heap.size+1) ([.int .i64 c.fVersion,.int .i64 c.fNext,.slice ao c.fTables.length co,.slice ai c.fIndexes.length ci]).toArray):=(Keep.refl (·=w.heap.size+1) wr).setRow (fun _=>rfl) _
     have kF:=kk.setRow (g:=w.heap.size+1) (fun h=>by omega) ([.int .i64 c.fVersion,.int .i64 c.fNext,.slice ao c.fTables.length co,.slice ai c.fIndexes.length ci]).toArray
     have hss:=kS.size
     have hres:OwnCat (w.heap.size+1+1+1) (wr.setRow (w.heap.size+1) ([.int .i64 c.fVersion,.int .i64 c.fNext,.slice ao c.fTables.length co,.slice ai c.fIndexes.length ci]).toArray) [.int .i64 c.fVersion,.int .i64 c.fNext,.slice ao c.fTables.length co,.slice ai c.fIndexes.length ci] c:=⟨ao,co,ai,ci,cssT,css,wo.heap.size,rfl,hbO,Nat.le_trans hwo hss,
      jad ownT kS (fun b hb e=>by have:=hTge b hb;omega),hTlt,(elsT.keep fGTable_lawful kS (fun b hb e=>by have:=hb.1.1;omega)).mono fGTable_lawful (fun b hb=>⟨by have:=hb.1.1;omega,hb.1.2,hb.2⟩),
      jad own kS (fun b hb e=>by have:=hXge b hb;omega),(elsX.keep fGIndex_lawful kS (fun b hb e=>by have:=hb.1.1;omega)).mono fGIndex_lawful (fun b hb=>⟨hb.1.1,by have:=hb.1.2;omega,hb.2⟩)⟩
     clear ownT elsT elsX own els row0 rowR rowO kk kS
     go_wp2_with fail
     refine bodyPost_ret (results_cell_row (by rfl) _ _ _ _ _ _ _ (by rfl) rowF Tryz.underlying50 (by rfl) S_Catalog.info) rfl ?_
     exact⟨_,rfl,hres,kF⟩
    case h2a | h2b | h2c=>
     refine hK.out _ _ (Whole.row S_Index hlen rowX4) (fun jaa=>?_)
     clear hK K
     try simp only[Act.put,zz1,zz2,zz3,zz4,zz5,zz6]
     refine wpAnyH_ready (rs:=[5]) (by kernel_rfl) (by simp) ?_
     refine AllReadyH.cons rfl (fun K hK=>?_) AllReadyH.nil
     have hb0:wo.heap.size≤w1.heap.size:=hwl1
     have hbx1:=hbx
     refine jgr T_lIndex (by rfl) (.tmp 36) (.tmp 39) (by rfl) (wo.heap.size) (by rfl) own (by rfl) (by simpa using hln) (by simpa [ones] using jeP hN) (by unfold maxLen;omega) (by omega) hb0 ?_
     intro a' cap' w6 own6 k6 jax
     have hn6:∀b,OwnB (.slice ai k ci) b→wo.heap.size≤b:=fun b hb=>(own.lt b hb).1
     have els2:=els1.push0 fGIndex_lawful hN k1 k6 hwl hvx jax
     replace row0:=row0.keep k6 (fun hb=>by have:=hn6 _ hb;omega)
     replace rowR:=rowR.keep k6 (fun hb=>by have:=hn6 _ hb;omega)
     replace rowO:=rowO.keep k6 (fun hb=>by have:=hn6 _ hb;omega)
     replace rowX:=rowX.keep k6 (fun hb=>by have:=hobx _ hb;omega)
     replace kk:=kk.then k6 (fun i hi hb=>by have:=hn6 _ hb;omega)
     replace ownT:=jad ownT k6 (fun b hb h=>by have:=hn6 _ h;have:=hTlt b hb;omega)
     replace elsT:=elsT.keep fGTable_lawful k6 (fun b hb h=>by have:=hn6 _ h;have:=hb.1.2;omega)
     have hwl6:=Nat.le_trans hwl1 k6.size
     clear own hN
     refine hK.out _ _ (Whole.row S_Index hlen rowX) (fun jaa=>?_)
     clear hK K
     try simp only[Act.put,zz1,zz2,zz3,zz4,zz5,zz6]
     refine tk 6 rfl jaa ?_
     refine wpAnyH_ready (rs:=[7]) (by kernel_rfl) (by simp) ?_
     refine AllReadyH.cons rfl (fun K hK=>?_) AllReadyH.nil
     have x2:=rowO.cell 3
     have f2:=rowO.frozen 3
     simp only[List.getElem?_cons_succ,List.getElem?_cons_zero]at x2
     have rowO7:=rowO.set 3 (.slice a' (k+1) cap')
     simp only[List.set_cons_succ,List.set_cons_zero]at rowO7
     have k7:=(Keep.refl (fun b=>b=w.heap.size+1+1) w6).setCell (p:=⟨w.heap.size+1+1,3,none⟩) (fun _=>rfl) (.slice a' (k+1) cap')
     try simp only[zz1,zz2,zz3]
     go_simp
     clear x2 f2
     have rowX7:=rowX.keep k7 (by omega)
     refine hK.out _ _ (Whole.row S_Index hlen rowX7) (fun jaa=>?_)
     clear hK K
     try simp only[Act.put,zz1,zz2,zz3,zz4,zz5,zz6]
     refine wpAnyH_done (by kernel_rfl) ?_ _
     clear jaa rowX rowX7
     replace row0:=row0.keep k7 (by omega)
     replace rowR:=rowR.keep k7 (by omega)
     have hn7:∀b,OwnB (.slice a' (k+1) cap') b→wo.heap.size≤b:=fun b hb=>(own6.lt b hb).1
     replace own6:=jad own6 k7 (fun b hb e=>by have:=hn7 b hb;omega)
     have hs7:=k7.size
     have els7:=(els2.keep fGIndex_lawful k7 (fun b hb e=>by have:=hb.1.1;omega)).mono (q:=fun b=>jai wo (w6.setCell ⟨w.heap.size+1+1,3,none⟩ (.slice a' (k+1) cap')) b∧¬OwnB (.slice a' (k+1) cap') b) fGIndex_lawful (fun b hb=>⟨⟨hb.1.1,by have:=hb.1.2;omega⟩,hb.2⟩)
     replace kk:=kk.then k7 (fun i hi e=>by omega)
     replace ownT:=jad ownT k7 (fun b hb e=>by have:=hTge b hb;omega)
     replace elsT:=elsT.keep fGTable_lawful k7 (fun b hb e=>by have:=hb.1.1;omega)
     have hwl7:=Nat.le_trans hwl6 k7.size
     clear els1 els2 k6 k7 jax rowO
     go_wp2_with fail
     go_roundw
     case rel=>exact⟨k+1,a',cap',css ++ [cn],by omega,by go_num,by simpa using own6,by rw[HTK.out];exact els7,rowO7,ownT,elsT,row0,rowR,hwl7,kk⟩
     case measure=>simp[intOf];omega
  case h1a | h1b | h1c=>
   refine hK.out _ _ (Whole.row S_Table hlen rowX4) (fun jaa=>?_)
   clear hK K
   try simp only[Act.put,zz1,zz2,zz3,zz4,zz5,zz6]
   refine wpAnyH_ready (rs:=[5]) (by kernel_rfl) (by simp) ?_
   refine AllReadyH.cons rfl (fun K hK=>?_) AllReadyH.nil
   have hb0:w.heap.size+1+1+1≤w1.heap.size:=rowO.lt
   have hbx1:=hbx
   refine jgr T_lTable (by rfl) (.tmp 21) (.tmp 24) (by rfl) (w.heap.size+1+1+1) (by rfl) own (by rfl) (by simpa using hln) (by simpa [ones] using jdZ hN) (by unfold maxLen;omega) (by omega) hb0 ?_
   intro a' cap' w6 own6 k6 jax
   have hn6:∀b,OwnB (.slice ao k co) b→w.heap.size+1+1+1≤b:=fun b hb=>(own.lt b hb).1
   have els2:=els1.push0 fGTable_lawful hN k1 k6 hwl hvx jax
   replace row0:=row0.keep k6 (fun hb=>by have:=hn6 _ hb;omega)
   replace rowR:=rowR.keep k6 (fun hb=>by have:=hn6 _ hb;omega)
   replace rowO:=rowO.keep k6 (fun hb=>by have:=hn6 _ hb;omega)
   replace rowX:=rowX.keep k6 (fun hb=>by have:=hobx _ hb;omega)
   replace kk:=kk.then k6 (fun i hi hb=>by have:=hn6 _ hb;omega)
   clear own hN
   refine hK.out _ _ (Whole.row S_Table hlen rowX) (fun jaa=>?_)
   clear hK K
   try simp only[Act.put,zz1,zz2,zz3,zz4,zz5,zz6]
   refine tk 6 rfl jaa ?_
   refine wpAnyH_ready (rs:=[7]) (by kernel_rfl) (by simp) ?_
   refine AllReadyH.cons rfl (fun K hK=>?_) AllReadyH.nil
   have x2:=rowO.cell 2
   have f2:=rowO.frozen 2
   simp only[List.getElem?_cons_succ,List.getElem?_cons_zero]at x2
   have rowO7:=rowO.set 2 (.slice a' (k+1) cap')
   simp only[List.set_cons_succ,List.set_cons_zero]at rowO7
   have k7:=(Keep.refl (fun b=>b=w.heap.size+1+1) w6).setCell (p:=⟨w.heap.size+1+1,2,none⟩) (fun _=>rfl) (.slice a' (k+1) cap')
   try simp only[zz1,zz2,zz3]
   go_simp
   clear x2 f2
   have rowX7:=rowX.keep k7 (by omega)
   refine hK.out _ _ (Whole.row S_Table hlen rowX7) (fun jaa=>?_)
   clear hK K
   try simp only[Act.put,zz1,zz2,zz3,zz4,zz5,zz6]
   refine wpAnyH_done (by kernel_rfl) ?_ _
   clear jaa rowX rowX7
   replace row0:=row0.keep k7 (by omega)
   replace rowR:=rowR.keep k7 (by omega)
   have hn7:∀b,OwnB (.slice a' (k+1) cap') b→w.heap.size+1+1+1≤b:=fun b hb=>(own6.lt b hb).1
   replace own6:=jad own6 k7 (fun b hb e=>by have:=hn7 b hb;omega)
   have hs7:=k7.size
   have els7:=(els2.keep fGTable_lawful k7 (fun b hb e=>by have:=hb.1.1;omega)).mono (q:=fun b=>jai w0 (w6.setCell ⟨w.heap.size+1+1,2,none⟩ (.slice a' (k+1) cap')) b∧¬OwnB (.slice a' (k+1) cap') b) fGTable_lawful (fun b hb=>⟨⟨hb.1.1,by have:=hb.1.2;omega⟩,hb.2⟩)
   replace kk:=kk.then k7 (fun i hi e=>by omega)
   clear els1 els2 k6 k7 jax rowO
   go_wp2_with fail
   go_roundw
   case rel=>exact⟨k+1,a',cap',css ++ [cn],by omega,by go_num,by simpa using own6,by rw[HTK.out];exact els7,rowO7,row0,rowR,kk⟩
   case measure=>simp[intOf];omega
end
theorem jd4{α:Type}{R R':RD α}{w:World}{p q:Nat→Prop}{base e sz:Nat}{a:Option Addr}{cap:Nat}{css:List (List Value)}{l:List α}(own:w.ownsRow base e sz (.slice a l.length cap) l.length css.flatten)(els:Els R w p css l)(hf:l.length≤far)
  (hR:∀(c:List Value) (x:α),R w p c x→R' w q c x) (hq:∀b,base≤b→OwnB (.slice a l.length cap) b→q b):jap R' w q [.slice a l.length cap] l:=
 ⟨a,cap,css,rfl,els.1,(Lies.of_owned own).mono fun b hb=>hq b hb.1 hb.2,(jbu own).2.1,hf,fun i c x hc hx=>hR c x (els.2 i c x hc hx)⟩
theorem OwnCat.read{base:Nat}{w:World}{cs:List Value}{c:GCatalog}(h:OwnCat base w cs c)(hv:jae c.fVersion)(hn:jae c.fNext)(nT:c.fTables.length≤far)(nX:c.fIndexes.length≤far):jat w (fun b=>base≤b∧b<w.heap.size) cs c:=by
 obtain⟨aT,cT,aX,cX,cssT,cssX,m,rfl,hb,hm,ownT,hT,elsT,ownX,elsX⟩:=h
 refine jcs w _ hv hn ?_ ?_
 ·exact jd4 ownT elsT nT (fun d y hy=>rGTable_lawful.mono (jd2 hy) (fun b hb=>⟨hb.1,by have:=hb.2.1;omega⟩)) (fun b h1 h2=>⟨h1,by have:=hT b h2;omega⟩)
 ·exact jd4 ownX elsX nX (fun d y hy=>rGIndex_lawful.mono (jde hy) (fun b hb=>⟨by have:=hb.1;omega,hb.2.1⟩)) (fun b h1 h2=>⟨by omega,(ownX.lt b h2).2⟩)
theorem Own_c{p:Nat→Prop}(c:GCatalog)(csc:List Value)(w:World)(hc:jat w p csc c)(hs:jb4 c) :
  Calls Tryz.prog 34 #[.agg csc.toArray] w (Ret jat w c):=by
 obtain⟨_,_,_,_,-,hv,hn,hT,hX,-⟩:=jau hc
 exact(jhm c csc w hc hs).mono fun e w' ⟨cs,he,ho,k⟩=>⟨cs,he,rGCatalog_lawful.mono (ho.read hv hn (ja0 hT).2.2 (ja0 hX).2.2) (fun b hb=>⟨by have:=hb.1;omega,hb.2⟩),k⟩
end Go.Proofs.YtibaehlfpgipfaaGreat
