/- ROUTE: New; a group's part of a span; awake. Printed by mac.py. -/
import Derived.Test.YtibaehlfpgipfaaGreatQZG13
import Derived.Maps.AppendAt
import Derived.Maps.OwnSet
import Derived.Deep.DeepCutAuto
import Derived.Deep.CutBlock
namespace Go.Proofs.YtibaehlfpgipfaaGreat
open Go.RowKit
set_option maxRecDepth 100000
set_option maxHeartbeats 4000000
set_option linter.unusedSimpArgs false
section
section
attribute [local go_sem ↓] jbC
def newF(b s:Int):GRoutes×Int:=if 1≤b∧b≤4∧1≤s∧s≤4 then(⟨0,b,[⟨b+1,[120]⟩],0,[]⟩,0) else(⟨0,0,[],0,[]⟩,1)
def RetRE(w:World)(y:GRoutes×Int)(e:Ending)(w':World):Prop:=∃cs:List Value,e=.returned (.tuple #[.agg cs.toArray,.int .i64 y.2])∧jaz w' (jai w w') cs y.1∧Keep Nix w w'
theorem jlR{α:Type}(R:RD α)(w:World)(p:Nat→Prop):jap R w p [.slice none 0 0] []:=⟨none,0,[],rfl,rfl,fun h=>absurd rfl h,Nat.le_refl _,Nat.zero_le _,fun i c x h=>by simp at h⟩
theorem jg1:jae 0:=by unfold jae;omega
theorem jjo(w:World)(p:Nat→Prop):jaz w p [.int .i64 0,.int .i64 0,.slice none 0 0,.int .i64 0,.slice none 0 0] ⟨0,0,[],0,[]⟩:=
 jc1 (x:=⟨0,0,[],0,[]⟩) w p jg1 jg1 (jlR _ w p) jg1 (LB.nil0 w p)
theorem New_c(b s:Int)(w:World):Calls Tryz.prog 22 #[.int .i64 b,.int .i64 s] w (RetRE w (newF b s)):=by
 have hinfo:(Tryz.prog.info? 53).map (·.size)=some 5:=by kernel_rfl
 by_cases h:1≤b∧b≤4∧1≤s∧s≤4
 ·have HP:Hid (newF b s=(⟨0,b,[⟨b+1,[120]⟩],0,[]⟩,0)):=by show _=_;unfold newF;rw[if_pos h]
  rw[HP.out]
  obtain⟨h1,h2,h3,h4⟩:=h
  have k1:=fun(w:World) (o:Obj)=>(Keep.refl Nix w).alloc o
  have kk:Keep Nix w (((w.alloc (.cells #[.int .i64 0,.int .i64 b,.slice (some ⟨w.heap.size+1+1,0,none⟩) 1 1,.int .i64 0,.slice none 0 0] 53)).alloc (.cells #[.int .u8 120] 5)).alloc (.cells #[.int .i64 (b+1),.slice (some ⟨w.heap.size+1,0,none⟩) 1 1] 97)):=((k1 _ _).trans (k1 _ _)).trans (k1 _ _)
  have rowF:RowIs (((w.alloc (.cells #[.int .i64 0,.int .i64 b,.slice (some ⟨w.heap.size+1+1,0,none⟩) 1 1,.int .i64 0,.slice none 0 0] 53)).alloc (.cells #[.int .u8 120] 5)).alloc (.cells #[.int .i64 (b+1),.slice (some ⟨w.heap.size+1,0,none⟩) 1 1] 97)) w.heap.size 53 [.int .i64 0,.int .i64 b,.slice (some ⟨w.heap.size+1+1,0,none⟩) 1 1,.int .i64 0,.slice none 0 0]:=((RowIs.alloc w _ _).keep (k1 _ _) id).keep (k1 _ _) id
  have rowB:RowIs (((w.alloc (.cells #[.int .i64 0,.int .i64 b,.slice (some ⟨w.heap.size+1+1,0,none⟩) 1 1,.int .i64 0,.slice none 0 0] 53)).alloc (.cells #[.int .u8 120] 5)).alloc (.cells #[.int .i64 (b+1),.slice (some ⟨w.heap.size+1,0,none⟩) 1 1] 97)) (w.heap.size+1) 5 [.int .u8 120]:=by
   have h:=(RowIs.alloc (w.alloc (.cells #[.int .i64 0,.int .i64 b,.slice (some ⟨w.heap.size+1+1,0,none⟩) 1 1,.int .i64 0,.slice none 0 0] 53)) #[.int .u8 120] 5).keep (k1 _ (.cells #[.int .i64 (b+1),.slice (some ⟨w.heap.size+1,0,none⟩) 1 1] 97)) id
   simpa using h
  have rowO:RowIs (((w.alloc (.cells #[.int .i64 0,.int .i64 b,.slice (some ⟨w.heap.size+1+1,0,none⟩) 1 1,.int .i64 0,.slice none 0 0] 53)).alloc (.cells #[.int .u8 120] 5)).alloc (.cells #[.int .i64 (b+1),.slice (some ⟨w.heap.size+1,0,none⟩) 1 1] 97)) (w.heap.size+1+1) 97 [.int .i64 (b+1),.slice (some ⟨w.heap.size+1,0,none⟩) 1 1]:=by
   have h:=RowIs.alloc ((w.alloc (.cells #[.int .i64 0,.int .i64 b,.slice (some ⟨w.heap.size+1+1,0,none⟩) 1 1,.int .i64 0,.slice none 0 0] 53)).alloc (.cells #[.int .u8 120] 5)) #[.int .i64 (b+1),.slice (some ⟨w.heap.size+1,0,none⟩) 1 1] 97
   simpa using h
  have LB1:=LB.row (c:=120) rowB (jai w (((w.alloc (.cells #[.int .i64 0,.int .i64 b,.slice (some ⟨w.heap.size+1+1,0,none⟩) 1 1,.int .i64 0,.slice none 0 0] 53)).alloc (.cells #[.int .u8 120] 5)).alloc (.cells #[.int .i64 (b+1),.slice (some ⟨w.heap.size+1,0,none⟩) 1 1] 97))) ⟨by omega,rowB.lt⟩
  have LL:jap jbv (((w.alloc (.cells #[.int .i64 0,.int .i64 b,.slice (some ⟨w.heap.size+1+1,0,none⟩) 1 1,.int .i64 0,.slice none 0 0] 53)).alloc (.cells #[.int .u8 120] 5)).alloc (.cells #[.int .i64 (b+1),.slice (some ⟨w.heap.size+1,0,none⟩) 1 1] 97)) (jai w (((w.alloc (.cells #[.int .i64 0,.int .i64 b,.slice (some ⟨w.heap.size+1+1,0,none⟩) 1 1,.int .i64 0,.slice none 0 0] 53)).alloc (.cells #[.int .u8 120] 5)).alloc (.cells #[.int .i64 (b+1),.slice (some ⟨w.heap.size+1,0,none⟩) 1 1] 97))) [.slice (some ⟨w.heap.size+1+1,0,none⟩) 1 1] [⟨b+1,[120]⟩]:=
   ⟨_,1,[[.int .i64 (b+1),.slice (some ⟨w.heap.size+1,0,none⟩) 1 1]],rfl,rfl,fun _=>⟨_,0,rfl,⟨by omega,rowO.lt⟩,rowO.lt,fun j u hu=>by rw[Nat.zero_add,rowO.cell];exact hu⟩,Nat.le_refl _,by show 1≤far;decide,fun i c x hc hx=>by
    match i,hc,hx with
    | 0,hc,hx=>
     cases hc;cases hx
     exact jfJ (x:=⟨b+1,[120]⟩) _ _ (by unfold jae;show _≤b+1∧b+1≤_;omega) LB1⟩
  have hR:=jc1 (x:=⟨0,b,[⟨b+1,[120]⟩],0,[]⟩) (((w.alloc (.cells #[.int .i64 0,.int .i64 b,.slice (some ⟨w.heap.size+1+1,0,none⟩) 1 1,.int .i64 0,.slice none 0 0] 53)).alloc (.cells #[.int .u8 120] 5)).alloc (.cells #[.int .i64 (b+1),.slice (some ⟨w.heap.size+1,0,none⟩) 1 1] 97)) (jai w (((w.alloc (.cells #[.int .i64 0,.int .i64 b,.slice (some ⟨w.heap.size+1+1,0,none⟩) 1 1,.int .i64 0,.slice none 0 0] 53)).alloc (.cells #[.int .u8 120] 5)).alloc (.cells #[.int .i64 (b+1),.slice (some ⟨w.heap.size+1,0,none⟩) 1 1] 97))) jg1 (by unfold jae;show _≤b∧b≤_;omega) LL jg1 (LB.nil0 _ _)
  clear k1 rowB rowO LB1 LL
  go_enter Tryz.func22,Tryz.ntmps22
  go_wp2_with fail
  refine bodyPost_ret (jag (by rfl) _ _ _ _ _ _ _ (by rfl) rowF Tryz.underlying53 (by rfl) hinfo) rfl ?_
  exact⟨_,rfl,hR,kk⟩
 ·have HP:Hid (newF b s=(⟨0,0,[],0,[]⟩,1)):=by show _=_;unfold newF;rw[if_neg h]
  rw[HP.out]
  have k1:Keep Nix w (w.alloc (.cells #[.int .i64 0,.int .i64 0,.slice none 0 0,.int .i64 0,.slice none 0 0] 53)):=(Keep.refl Nix w).alloc _
  have rowF:RowIs (w.alloc (.cells #[.int .i64 0,.int .i64 0,.slice none 0 0,.int .i64 0,.slice none 0 0] 53)) w.heap.size 53 [.int .i64 0,.int .i64 0,.slice none 0 0,.int .i64 0,.slice none 0 0]:=RowIs.alloc w _ _
  rcases Int.lt_or_le b 1 with h1 | h1
  ·clear h
   go_enter Tryz.func22,Tryz.ntmps22
   go_wp2_with fail
   refine bodyPost_ret (jag (by rfl) _ _ _ _ _ _ _ (by rfl) rowF Tryz.underlying53 (by rfl) hinfo) rfl ?_
   exact⟨_,rfl,jjo _ _,k1⟩
  rcases Int.lt_or_le 4 b with h2 | h2
  ·clear h
   go_enter Tryz.func22,Tryz.ntmps22
   go_wp2_with fail
   refine bodyPost_ret (jag (by rfl) _ _ _ _ _ _ _ (by rfl) rowF Tryz.underlying53 (by rfl) hinfo) rfl ?_
   exact⟨_,rfl,jjo _ _,k1⟩
  rcases Int.lt_or_le s 1 with h3 | h3
  ·clear h
   go_enter Tryz.func22,Tryz.ntmps22
   go_wp2_with fail
   refine bodyPost_ret (jag (by rfl) _ _ _ _ _ _ _ (by rfl) rowF Tryz.underlying53 (by rfl) hinfo) rfl ?_
   exact⟨_,rfl,jjo _ _,k1⟩
  have h4:4<s:=by omega
  clear h
  go_enter Tryz.func22,Tryz.ntmps22
  go_wp2_with fail
  refine bodyPost_ret (jag (by rfl) _ _ _ _ _ _ _ (by rfl) rowF Tryz.underlying53 (by rfl) hinfo) rfl ?_
  exact⟨_,rfl,jjo _ _,k1⟩
end
section
attribute [local go_sem ↓] jbC
end
end
theorem joF{P:Program}{ops:Array Oper}{o:Oper}{a:Act}{K:Act→World→Prop}{Q:Exit→Act→World→Prop}{E:Prop}{w w':World}{t:TypeId}{v y r:Value}(hw:Region.wanted o (yielded ops a.tmps)=true)(s x:Operand)
  (ho:o.op=.call {callee:=.builtin .append,args:=#[s,x],argTypes:=#[t,t]}) (hs:a.eval s=v) (hx:a.eval x=y) (hrun:(Builtin.append_ #[t,t] o.type #[v,y]).run P w=.ok r w') (h:K (a.put o.dst r) w') :
  if Region.wanted o (yielded ops a.tmps)=true then Oper.wp P o a w K Q else E:=by
 rw[if_pos hw]
 unfold Oper.wp
 simp only[execOp,ho,resolve,invoke,builtin,List.map_toArray,List.map_cons,List.map_nil,hs,hx,hrun,Sem.run_bind,Sem.run_pure,Result.andThen_ok]
 exact h
theorem jnG{P:Program}{t e sz bytes:Nat}(T:SliceT P t e sz bytes){w:World}{cs:List Value}(t' ty:TypeId)(base:Nat){v:Value}{n:Nat}{xs:List Value}(hown:w.ownsRow base e sz v n xs)(hl:cs.length=sz)(h1:ones cs=true)
  (h63:n+1≤maxLen) (hbytes:(n+1)*bytes≤140737488355328) (hbase:base≤w.heap.size) :
  ∃a' cap' w',(Builtin.append_ #[t,t] ty #[v,.slice (some ⟨w.heap.size,0,none⟩) 1 1]).run P (w.alloc (.cells cs.toArray t'))=.ok (.slice a' (n+1) cap') w'∧w'.ownsRow base e sz (.slice a' (n+1) cap') (n+1) (xs ++ cs)∧Keep (OwnB v) w w'∧(∀b,OwnB (.slice a' (n+1) cap') b→OwnB v b∨w.heap.size≤b):=by
 obtain⟨i,z,hi,hz,hsz,hby,hzs⟩:=T.info
 obtain⟨v',w',hrun,hown',hg,-,hf⟩:=run_append_own_at (P:=P) (w.alloc (.cells cs.toArray t')) base t ty e i z sz bytes T.under hi hz hsz hby hzs T.pos v n xs (hown.alloc _) ⟨w.heap.size,0,none⟩ 1 1 cs (by omega) (fun j u hu=>by
   rw[Addr.add_lit,World.cell?_alloc_at _ _ _ _ rfl,Nat.zero_add];simpa using hu) (fun u hu=>List.all_eq_true.1 h1 u hu) h63 hbytes (by simp;omega)
 obtain⟨a',cap',rfl⟩:=jdn hown'
 refine⟨a',cap',w',hrun,hown',((Keep.refl _ w).alloc _).grown hg (fun _ hk _=>hk),fun b hb=>?_⟩
 rcases hf with h | h
 ·have hb':(Value.slice a' (n+1) cap').ownBlock=some b:=hb
  exact .inl (h.symm.trans hb')
 ·right
  have hb':(Value.slice a' (n+1) cap').ownBlock=some b:=hb
  rw[h]at hb'
  simp at hb'
  omega
theorem jnt{P:Program}{t e sz bytes:Nat}(T:SliceT P t e sz bytes){ops:Array Oper}{o:Oper}{a:Act}{K:Act→World→Prop}{Q:Exit→Act→World→Prop}{E:Prop}{w:World}{cs:List Value}{t':TypeId}(hgd:o.guard=none)(s x:Operand)
  (ho:o.op=.call {callee:=.builtin .append,args:=#[s,x],argTypes:=#[t,t]})
  (base:Nat) {v:Value} {n:Nat} {xs:List Value} (hs:a.eval s=v) (hx:a.eval x=.slice (some ⟨w.heap.size,0,none⟩) 1 1) (hown:w.ownsRow base e sz v n xs) (hl:cs.length=sz) (h1:ones cs=true)
  (h63:n+1≤maxLen) (hbytes:(n+1)*bytes≤140737488355328) (hbase:base≤w.heap.size)
  (h:∀a' cap' w',w'.ownsRow base e sz (.slice a' (n+1) cap') (n+1) (xs ++ cs)→Keep (OwnB v) w w'→(∀b,OwnB (.slice a' (n+1) cap') b→OwnB v b∨w.heap.size≤b)→K (a.put o.dst (.slice a' (n+1) cap')) w') :
  if Region.wanted o (yielded ops a.tmps)=true then Oper.wp P o a (w.alloc (.cells cs.toArray t')) K Q else E:=by
 obtain⟨a',cap',w',hrun,h2,h3,h4⟩:=jnG T t' o.type base hown hl h1 h63 hbytes hbase
 exact joF (by simp[Region.wanted,hgd]) s x ho hs hx hrun (h _ _ _ h2 h3 h4)
def upI(n:Int):Int:=IntKind.i64.wrap (n+1)
theorem jny(n:Int):jae (upI n):=by unfold upI jae IntKind.wrap;simp[IntKind.bits,IntKind.signed];omega
def jcH(r:GRoutes):GRoutes:=⟨upI r.fEpoch,r.fBase,r.fSpans,0,[]⟩
theorem jkT{p:Nat→Prop}(r:GRoutes)(csr:List Value)(w:World)(hr:jaz w p csr r) :
  Calls Tryz.prog 69 #[.agg csr.toArray] w fun e w'=>∃cs,e=.returned (.agg cs.toArray)∧jaz w' p cs (jcH r)∧Keep Nix w w':=by
 have HR:=Lib.hid hr
 obtain⟨aS,cS,aC,cC,rfl,hE,hB,hS,hM,hC,-⟩:=jav hr
 have k1:=fun(w:World) (o:Obj)=>(Keep.refl Nix w).alloc o
 have kk:Keep Nix w (((w.alloc (.cells #[.int .i64 r.fEpoch,.int .i64 r.fBase,.slice aS r.fSpans.length cS,.int .i64 r.fMoving,.slice aC r.fCut.length cC] 53))).alloc (.cells #[.int .i64 0,.int .i64 0,.slice none 0 0,.int .i64 0,.slice none 0 0] 53)):=(k1 _ _).trans (k1 _ _)
 have row0:RowIs (((w.alloc (.cells #[.int .i64 r.fEpoch,.int .i64 r.fBase,.slice aS r.fSpans.length cS,.int .i64 r.fMoving,.slice aC r.fCut.length cC] 53))).alloc (.cells #[.int .i64 0,.int .i64 0,.slice none 0 0,.int .i64 0,.slice none 0 0] 53)) w.heap.size 53 [.int .i64 r.fEpoch,.int .i64 r.fBase,.slice aS r.fSpans.length cS,.int .i64 r.fMoving,.slice aC r.fCut.length cC]:=(RowIs.alloc w _ _).keep (k1 _ _) id
 have rowR:RowIs (((w.alloc (.cells #[.int .i64 r.fEpoch,.int .i64 r.fBase,.slice aS r.fSpans.length cS,.int .i64 r.fMoving,.slice aC r.fCut.length cC] 53))).alloc (.cells #[.int .i64 0,.int .i64 0,.slice none 0 0,.int .i64 0,.slice none 0 0] 53)) (w.heap.size+1) 53 [.int .i64 0,.int .i64 0,.slice none 0 0,.int .i64 0,.slice none 0 0]:=by
  have h:=RowIs.alloc (w.alloc (.cells #[.int .i64 r.fEpoch,.int .i64 r.fBase,.slice aS r.fSpans.length cS,.int .i64 r.fMoving,.slice aC r.fCut.length cC] 53)) #[.int .i64 0,.int .i64 0,.slice none 0 0,.int .i64 0,.slice none 0 0] 53
  simpa using h
 have hinfo:(Tryz.prog.info? 53).map (·.size)=some 5:=by kernel_rfl
 have HE:=Lib.hid (show IntKind.i64.wrap (r.fEpoch+1)=upI r.fEpoch from rfl)
 have HB:=Lib.hid hB
 have HL:=Lib.hid hS
 clear hr k1 hE hM hC hB hS
 go_enter Tryz.func69,Tryz.ntmps69
 go_upto_region 1 with fail
 generalize (((w.alloc (.cells #[.int .i64 r.fEpoch,.int .i64 r.fBase,.slice aS r.fSpans.length cS,.int .i64 r.fMoving,.slice aC r.fCut.length cC] 53))).alloc (.cells #[.int .i64 0,.int .i64 0,.slice none 0 0,.int .i64 0,.slice none 0 0] 53))=w1 at *
 generalize hbs:w.heap.size=bs at *
 have y0:=row0.cell 0
 (try simp only[List.getElem?_cons_zero]at y0)
 have y1:=row0.cell 1
 (try simp only[List.getElem?_cons_succ]at y1);(try simp only[List.getElem?_cons_zero]at y1)
 have y2:=row0.cell 2
 (try simp only[List.getElem?_cons_succ]at y2);(try simp only[List.getElem?_cons_zero]at y2)
 have y3:=row0.cell 3
 (try simp only[List.getElem?_cons_succ]at y3);(try simp only[List.getElem?_cons_zero]at y3)
 have y4:=row0.cell 4
 (try simp only[List.getElem?_cons_succ]at y4);(try simp only[List.getElem?_cons_zero]at y4)
 have f0:=row0.frozen 0
 have f3:=row0.frozen 3
 have f4:=row0.frozen 4
 have z0:=rowR.cell 0
 (try simp only[List.getElem?_cons_zero]at z0)
 have z1:=rowR.cell 1
 (try simp only[List.getElem?_cons_succ]at z1);(try simp only[List.getElem?_cons_zero]at z1)
 have z2:=rowR.cell 2
 (try simp only[List.getElem?_cons_succ]at z2);(try simp only[List.getElem?_cons_zero]at z2)
 have z3:=rowR.cell 3
 (try simp only[List.getElem?_cons_succ]at z3);(try simp only[List.getElem?_cons_zero]at z3)
 have z4:=rowR.cell 4
 (try simp only[List.getElem?_cons_succ]at z4);(try simp only[List.getElem?_cons_zero]at z4)
 have g0:=rowR.frozen 0
 have g1:=rowR.frozen 1
 have g2:=rowR.frozen 2
 have g3:=rowR.frozen 3
 have g4:=rowR.frozen 4
 have kS:Keep (·=bs) w1 (((w1.setCell ⟨bs,3,none⟩ (.int .i64 0)).setCell ⟨bs,4,none⟩ (.slice none 0 0)).setCell ⟨bs,0,none⟩ (.int .i64 (upI r.fEpoch))):=(((Keep.refl (·=bs) w1).setCell (p:=⟨bs,3,none⟩) (fun _=>rfl) _).setCell (p:=⟨bs,4,none⟩) (fun _=>rfl) _).setCell (p:=⟨bs,0,none⟩) (fun _=>rfl) _
 have kT:Keep (·=bs+1) (((w1.setCell ⟨bs,3,none⟩ (.int .i64 0)).setCell ⟨bs,4,none⟩ (.slice none 0 0)).setCell ⟨bs,0,none⟩ (.int .i64 (upI r.fEpoch))) ((((((((w1.setCell ⟨bs,3,none⟩ (.int .i64 0)).setCell ⟨bs,4,none⟩ (.slice none 0 0)).setCell ⟨bs,0,none⟩ (.int .i64 (upI r.fEpoch))).setCell ⟨bs+1,0,none⟩ (.int .i64 (upI r.fEpoch))).setCell ⟨bs+1,1,none⟩ (.int .i64 r.fBase)).setCell ⟨bs+1,2,none⟩ (.slice aS r.fSpans.length cS)).setCell ⟨bs+1,3,none⟩ (.int .i64 0)).setCell ⟨bs+1,4,none⟩ (.slice none 0 0)):=(((((Keep.refl (·=bs+1) _).setCell (p:=⟨bs+1,0,none⟩) (fun _=>rfl) _).setCell (p:=⟨bs+1,1,none⟩) (fun _=>rfl) _).setCell (p:=⟨bs+1,2,none⟩) (fun _=>rfl) _).setCell (p:=⟨bs+1,3,none⟩) (fun _=>rfl) _).setCell (p:=⟨bs+1,4,none⟩) (fun _=>rfl) _
 have rowF:RowIs ((((((((w1.setCell ⟨bs,3,none⟩ (.int .i64 0)).setCell ⟨bs,4,none⟩ (.slice none 0 0)).setCell ⟨bs,0,none⟩ (.int .i64 (upI r.fEpoch))).setCell ⟨bs+1,0,none⟩ (.int .i64 (upI r.fEpoch))).setCell ⟨bs+1,1,none⟩ (.int .i64 r.fBase)).setCell ⟨bs+1,2,none⟩ (.slice aS r.fSpans.length cS)).setCell ⟨bs+1,3,none⟩ (.int .i64 0)).setCell ⟨bs+1,4,none⟩ (.slice none 0 0)) (bs+1) 53 [.int .i64 (upI r.fEpoch),.int .i64 r.fBase,.slice aS r.fSpans.length cS,.int .i64 0,.slice none 0 0]:=((((((rowR.keep kS (by omega)).set 0 _).set 1 _).set 2 _).set 3 _).set 4 _)
 have k5:=(kk.then kS (fun i hi e=>by omega)).then kT (fun i hi e=>by omega)
 clear row0 rowR kk kS kT
 have hu:IntKind.i64.wrap (r.fEpoch+1)=upI r.fEpoch:=HE.out
 go_wp2_with fail
 refine bodyPost_ret (results_cell_row (by rfl) _ _ _ _ _ _ _ (by rfl) rowF Tryz.underlying53 (by rfl) hinfo) rfl ?_
 exact⟨_,rfl,jc1 (x:=jcH r) _ _ (jny _) HB.out ((jac rGOwner_lawful).nix HL.out k5) jg1 (LB.nil0 _ _),k5⟩
def OwnR(base:Nat)(w':World)(cs:List Value)(r:GRoutes):Prop:=∃a c aC cC css,cs=[.int .i64 r.fEpoch,.int .i64 r.fBase,.slice a r.fSpans.length c,.int .i64 r.fMoving,.slice aC r.fCut.length cC]∧w'.ownsRow base 97 2 (.slice a r.fSpans.length c) r.fSpans.length css.flatten∧Els jbv w' (fun b=>(base≤b∧b<w'.heap.size)∧¬OwnB (.slice a r.fSpans.length c) b) css r.fSpans∧LB w' (fun b=>(base≤b∧b<w'.heap.size)∧¬OwnB (.slice a r.fSpans.length c) b) aC cC r.fCut
theorem jfx{p:Nat→Prop}(r:GRoutes)(csr:List Value)(w:World)(hr:jaz w p csr r)(hn4:r.fSpans.length≤30) :
  Calls Tryz.prog 41 #[.agg csr.toArray] w fun e w'=>∃cs,e=.returned (.agg cs.toArray)∧OwnR w.heap.size w' cs r∧Keep Nix w w':=by
 obtain⟨aS,cS,aC,cC,rfl,hE,hB,hS,hM,hC,-⟩:=jav hr
 have k1:=fun(w:World) (o:Obj)=>(Keep.refl Nix w).alloc o
 have kk:Keep Nix w (((w.alloc (.cells #[.int .i64 r.fEpoch,.int .i64 r.fBase,.slice aS r.fSpans.length cS,.int .i64 r.fMoving,.slice aC r.fCut.length cC] 53))).alloc (.cells #[.int .i64 0,.int .i64 0,.slice none 0 0,.int .i64 0,.slice none 0 0] 53)):=(k1 _ _).trans (k1 _ _)
 have row0:RowIs (((w.alloc (.cells #[.int .i64 r.fEpoch,.int .i64 r.fBase,.slice aS r.fSpans.length cS,.int .i64 r.fMoving,.slice aC r.fCut.length cC] 53))).alloc (.cells #[.int .i64 0,.int .i64 0,.slice none 0 0,.int .i64 0,.slice none 0 0] 53)) w.heap.size 53 [.int .i64 r.fEpoch,.int .i64 r.fBase,.slice aS r.fSpans.length cS,.int .i64 r.fMoving,.slice aC r.fCut.length cC]:=(RowIs.alloc w _ _).keep (k1 _ _) id
 have rowR:RowIs (((w.alloc (.cells #[.int .i64 r.fEpoch,.int .i64 r.fBase,.slice aS r.fSpans.length cS,.int .i64 r.fMoving,.slice aC r.fCut.length cC] 53))).alloc (.cells #[.int .i64 0,.int .i64 0,.slice none 0 0,.int .i64 0,.slice none 0 0] 53)) (w.heap.size+1) 53 [.int .i64 0,.int .i64 0,.slice none 0 0,.int .i64 0,.slice none 0 0]:=by
  have h:=RowIs.alloc (w.alloc (.cells #[.int .i64 r.fEpoch,.int .i64 r.fBase,.slice aS r.fSpans.length cS,.int .i64 r.fMoving,.slice aC r.fCut.length cC] 53)) #[.int .i64 0,.int .i64 0,.slice none 0 0,.int .i64 0,.slice none 0 0] 53
  simpa using h
 have hinfo:(Tryz.prog.info? 53).map (·.size)=some 5:=by kernel_rfl
 have HL:=Lib.hid hS
 have HC:=Lib.hid (show LB w p aC cC r.fCut from hC)
 clear hr k1 hE hM hC hB hS
 go_enter Tryz.func41,Tryz.ntmps41
 go_upto_region 1 with fail
 generalize (((w.alloc (.cells #[.int .i64 r.fEpoch,.int .i64 r.fBase,.slice aS r.fSpans.length cS,.int .i64 r.fMoving,.slice aC r.fCut.length cC] 53))).alloc (.cells #[.int .i64 0,.int .i64 0,.slice none 0 0,.int .i64 0,.slice none 0 0] 53))=w1 at *
 generalize hbs:w.heap.size=bs at *
 have hs1:bs+1+1≤w1.heap.size:=rowR.lt
 have y2:=row0.cell 2
 (try simp only[List.getElem?_cons_succ]at y2);(try simp only[List.getElem?_cons_zero]at y2)
 go_wp2_with fail
 clear y2
 go_loopw [3,9] (fun l i wr=>∃(k:Nat) (a:Option Addr) (cap:Nat) (css:List (List Value)),k≤r.fSpans.length∧i=.int .i64 k∧l=.slice a k cap∧wr.ownsRow w1.heap.size 97 2 (.slice a k cap) k css.flatten∧Els jbv wr (fun b=>jai w1 wr b∧¬OwnB (.slice a k cap) b) css (r.fSpans.take k)∧RowIs wr bs 53 [.int .i64 r.fEpoch,.int .i64 r.fBase,.slice aS r.fSpans.length cS,.int .i64 r.fMoving,.slice aC r.fCut.length cC]∧RowIs wr (bs+1) 53 [.int .i64 0,.int .i64 0,.slice none 0 0,.int .i64 0,.slice none 0 0]∧Keep Nix w1 wr) (fun _ i _=>r.fSpans.length - (intOf i).toNat)
 case atStart=>exact⟨0,none,0,[],by omega,rfl,rfl,World.ownsRow_nil _ _ _ _,Els.nil _ _ _,row0,rowR,Keep.refl _ _⟩
 case round=>
  clear row0 rowR
  obtain⟨k,a,cap,css,hk,rfl,rfl,own,els,row0,rowR,kw⟩:=hrel
  have hsw:=kw.size
  by_cases hlt:k<r.fSpans.length
  ·have hi1:(k:Int)<(r.fSpans.length:Int):=by omega
   have hi0:(0:Int)≤(k:Int):=by omega
   have hx:Hid (r.fSpans.take (k+1)=r.fSpans.take k ++ [r.fSpans[k]]):=List.take_succ_eq_append_getElem hlt
   have hS1:=(jac rGOwner_lawful).nix HL.out (kk.trans kw)
   obtain⟨b1,o1,_,_,e1,-,hbx,xr,xc⟩:=jaY rGOwner_lawful (by decide) hS1 k hlt
   simp only[List.cons.injEq,Value.slice.injEq,and_true]at e1
   obtain⟨rfl,-,-⟩:=e1
   have xf:=jcF hlt
   clear xf hS1
   generalize r.fSpans[k]=x at *
   obtain⟨aF,cF,rfl,hg,hF,-⟩:=jca xr
   have hF:LB wr p aF cF x.fFrom:=hF
   have HG:=Lib.hid hg
   have x0:=xc 0 _ rfl
   (try simp only[Nat.add_zero]at x0)
   have x1:=xc 1 _ rfl
   have kE:Keep Nix wr (wr.alloc (.cells #[.int .i64 x.fGroup,.slice aF x.fFrom.length cF] 97)):=(Keep.refl Nix wr).alloc _
   have rowE:RowIs (wr.alloc (.cells #[.int .i64 x.fGroup,.slice aF x.fFrom.length cF] 97)) wr.heap.size 97 [.int .i64 x.fGroup,.slice aF x.fFrom.length cF]:=RowIs.alloc wr _ _
   go_upto_region 5 with fail
   clear x0 x1 xr xc hg
   replace hF:=hF.keep kE
   generalize hbe:wr.heap.size=be at *
   generalize wr.alloc (.cells #[.int .i64 x.fGroup,.slice aF x.fFrom.length cF] 97)=wE at *
   have hbN:¬OwnB (.slice a k cap) be:=fun h=>by have:=(own.lt _ h).2;omega
   have hO:∀w',Keep (OwnB (.slice a k cap)) wE w'→(fun w'=>w'.cell? ⟨be,0,none⟩=some (.int .i64 x.fGroup)∧w'.cell? ⟨be,1,none⟩=some (.slice aF x.fFrom.length cF)) w':=fun w' k'=>⟨(rowE.keep k' hbN).cell 0,(rowE.keep k' hbN).cell 1⟩
   have HO:=Lib.hid hO
   have kd:Keep Nix wE wE.drew:=(Keep.refl Nix wE).drew
   clear hO
   refine wp_region_held_drew (S:=(fun w'=>w'.cell? ⟨be,0,none⟩=some (.int .i64 x.fGroup)∧w'.cell? ⟨be,1,none⟩=some (.slice aF x.fFrom.length cF))) (by kernel_rfl) ((HO.out _ kd.nix)) (fun jaa=>?_)
   generalize wE.drew=wd at *
   refine tk 0 rfl jaa ?_
   refine tk 1 rfl jaa ?_
   refine tk 2 rfl jaa ?_
   refine tk 3 rfl jaa ?_
   refine tk 4 rfl jaa ?_
   refine wpAnyH_ready (rs:=[5]) (by kernel_rfl) (by simp) ?_
   refine AllReadyH.cons rfl (fun K hK=>?_) AllReadyH.nil
   go_simp
   go_fit (jhs aF cF x.fFrom wd (hF.keep kd))
   rintro e w2 ⟨a1,c1,rfl,L1,k2⟩
   have L1:LB w2 (jai wd w2) a1 c1 x.fFrom:=L1
   have kr2:Keep Nix wr w2:=(kE.trans kd).trans k2
   have kd2:=kd.trans k2
   have hsd:be≤wd.heap.size:=by rw[←hbe];exact(kE.trans kd).size
   clear k2
   go_wp2_with fail
   refine hK.out _ _ ((HO.out _ kd2.nix)) (fun jaa=>?_)
   clear hK K
   try simp only[Act.put,zz1,zz2,zz3,zz4,zz5,zz6]
   refine tk 6 rfl jaa ?_
   refine wpAnyH_ready (rs:=[7]) (by kernel_rfl) (by simp) ?_
   refine AllReadyH.cons rfl (fun K hK=>?_) AllReadyH.nil
   go_simp
   refine hK.out _ _ ((HO.out _ (kd2.alloc _).nix)) (fun jaa=>?_)
   clear hK K
   try simp only[Act.put,zz1,zz2,zz3,zz4,zz5,zz6]
   refine wpAnyH_ready (rs:=[8]) (by kernel_rfl) (by simp) ?_
   refine AllReadyH.cons rfl (fun K hK=>?_) AllReadyH.nil
   refine jnt (w:=w2) (cs:=[.int .i64 x.fGroup,.slice a1 x.fFrom.length c1]) T_lOwner (by rfl) (.tmp 13) (.tmp 20) (by rfl) w1.heap.size (by rfl) (by rfl) (jad own kr2 (fun _ _ h=>h)) rfl rfl (by unfold maxLen;omega) (by omega) (by have:=kr2.size;omega) ?_
   intro aN cN w6 own6 k6 jax
   have kr6:Keep Nix w1 w6:=(kw.trans kr2).then k6 (fun i hi hb=>by have:=(own.lt i hb).1;omega)
   refine hK.out _ _ ((HO.out _ (kd2.nix.trans k6))) (fun jaa=>?_)
   clear hK K
   try simp only[Act.put,zz1,zz2,zz3,zz4,zz5,zz6]
   refine tk 9 rfl jaa ?_
   refine wpAnyH_done (by kernel_rfl) ?_ _
   have hc2:jbv w2 (jai wr w2) [.int .i64 x.fGroup,.slice a1 x.fFrom.length c1] x:=jfJ w2 (jai wr w2) HG.out (L1.mono (fun b hb=>⟨by have:=hb.1;omega,hb.2⟩))
   have els6:=els.push rGOwner_lawful hc2 (kr2.nix (S:=(·=0))) k6 (by omega) (by rw[hbe];exact hsw) (fun b hb=>(own.lt b hb).2) jax
   rw[←hx.out]at els6
   replace own6:w6.ownsRow w1.heap.size 97 2 (.slice aN (k+1) cN) (k+1) (css ++ [[.int .i64 x.fGroup,.slice a1 x.fFrom.length c1]]:List (List Value)).flatten:=by rw[List.flatten_append];simpa using own6
   replace row0:=(row0.keep kr2 id).keep k6 (fun h=>by have:=(own.lt _ h).1;omega)
   replace rowR:=(rowR.keep kr2 id).keep k6 (fun h=>by have:=(own.lt _ h).1;omega)
   clear jaa HO own els rowE hF kE kd kd2 k6 kr2 L1 kw
   go_wp2_with fail
   go_roundw
   case rel=>exact⟨k+1,aN,cN,(css ++ [[.int .i64 x.fGroup,.slice a1 x.fFrom.length c1]]:List (List Value)),by omega,by go_num,rfl,own6,els6,row0,rowR,kr6⟩
   case measure=>simp[intOf];omega
  ·obtain rfl:k=r.fSpans.length:=by omega
   rw[List.take_length]at els
   have y4:=row0.cell 4
   (try simp only[List.getElem?_cons_succ]at y4);(try simp only[List.getElem?_cons_zero]at y4)
   go_wp2_with fail
   go_fit (jhs aC cC r.fCut wr (HC.out.keep (kk.trans kw)))
   rintro e w2 ⟨aD,cD,rfl,LD,k2⟩
   have LD:LB w2 (jai wr w2) aD cD r.fCut:=LD
   replace row0:=row0.keep k2 id
   replace rowR:=rowR.keep k2 id
   have hs2:=k2.size
   clear y4
   have y0:=row0.cell 0
   (try simp only[List.getElem?_cons_zero]at y0)
   have y1:=row0.cell 1
   (try simp only[List.getElem?_cons_succ]at y1);(try simp only[List.getElem?_cons_zero]at y1)
   have y2:=row0.cell 2
   (try simp only[List.getElem?_cons_succ]at y2);(try simp only[List.getElem?_cons_zero]at y2)
   have y3:=row0.cell 3
   (try simp only[List.getElem?_cons_succ]at y3);(try simp only[List.getElem?_cons_zero]at y3)
   have y4:=row0.cell 4
   (try simp only[List.getElem?_cons_succ]at y4);(try simp only[List.getElem?_cons_zero]at y4)
   have f2:=row0.frozen 2
   have f4:=row0.frozen 4
   have z0:=rowR.cell 0
   (try simp only[List.getElem?_cons_zero]at z0)
   have z1:=rowR.cell 1
   (try simp only[List.getElem?_cons_succ]at z1);(try simp only[List.getElem?_cons_zero]at z1)
   have z2:=rowR.cell 2
   (try simp only[List.getElem?_cons_succ]at z2);(try simp only[List.getElem?_cons_zero]at z2)
   have z3:=rowR.cell 3
   (try simp only[List.getElem?_cons_succ]at z3);(try simp only[List.getElem?_cons_zero]at z3)
   have z4:=rowR.cell 4
   (try simp only[List.getElem?_cons_succ]at z4);(try simp only[List.getElem?_cons_zero]at z4)
   have g0:=rowR.frozen 0
   have g1:=rowR.frozen 1
   have g2:=rowR.frozen 2
   have g3:=rowR.frozen 3
   have g4:=rowR.frozen 4
   have kS:Keep (·=bs) w2 ((w2.setCell ⟨bs,2,none⟩ (.slice a r.fSpans.length cap)).setCell ⟨bs,4,none⟩ (.slice aD r.fCut.length cD)):=((Keep.refl (·=bs) w2).setCell (p:=⟨bs,2,none⟩) (fun _=>rfl) _).setCell (p:=⟨bs,4,none⟩) (fun _=>rfl) _
   have kT:Keep (·=bs+1) ((w2.setCell ⟨bs,2,none⟩ (.slice a r.fSpans.length cap)).setCell ⟨bs,4,none⟩ (.slice aD r.fCut.length cD)) (((((((w2.setCell ⟨bs,2,none⟩ (.slice a r.fSpans.length cap)).setCell ⟨bs,4,none⟩ (.slice aD r.fCut.length cD)).setCell ⟨bs+1,0,none⟩ (.int .i64 r.fEpoch)).setCell ⟨bs+1,1,none⟩ (.int .i64 r.fBase)).setCell ⟨bs+1,2,none⟩ (.slice a r.fSpans.length cap)).setCell ⟨bs+1,3,none⟩ (.int .i64 r.fMoving)).setCell ⟨bs+1,4,none⟩ (.slice aD r.fCut.length cD)):=(((((Keep.refl (·=bs+1) _).setCell (p:=⟨bs+1,0,none⟩) (fun _=>rfl) _).setCell (p:=⟨bs+1,1,none⟩) (fun _=>rfl) _).setCell (p:=⟨bs+1,2,none⟩) (fun _=>rfl) _).setCell (p:=⟨bs+1,3,none⟩) (fun _=>rfl) _).setCell (p:=⟨bs+1,4,none⟩) (fun _=>rfl) _
   have rowF:RowIs (((((((w2.setCell ⟨bs,2,none⟩ (.slice a r.fSpans.length cap)).setCell ⟨bs,4,none⟩ (.slice aD r.fCut.length cD)).setCell ⟨bs+1,0,none⟩ (.int .i64 r.fEpoch)).setCell ⟨bs+1,1,none⟩ (.int .i64 r.fBase)).setCell ⟨bs+1,2,none⟩ (.slice a r.fSpans.length cap)).setCell ⟨bs+1,3,none⟩ (.int .i64 r.fMoving)).setCell ⟨bs+1,4,none⟩ (.slice aD r.fCut.length cD)) (bs+1) 53 [.int .i64 r.fEpoch,.int .i64 r.fBase,.slice a r.fSpans.length cap,.int .i64 r.fMoving,.slice aD r.fCut.length cD]:=((((((rowR.keep kS (by omega)).set 0 _).set 1 _).set 2 _).set 3 _).set 4 _)
   have kU:Keep (fun b=>b=bs∨b=bs+1) w2 (((((((w2.setCell ⟨bs,2,none⟩ (.slice a r.fSpans.length cap)).setCell ⟨bs,4,none⟩ (.slice aD r.fCut.length cD)).setCell ⟨bs+1,0,none⟩ (.int .i64 r.fEpoch)).setCell ⟨bs+1,1,none⟩ (.int .i64 r.fBase)).setCell ⟨bs+1,2,none⟩ (.slice a r.fSpans.length cap)).setCell ⟨bs+1,3,none⟩ (.int .i64 r.fMoving)).setCell ⟨bs+1,4,none⟩ (.slice aD r.fCut.length cD)):=(kS.mono (fun _ h=>.inl h)).trans (kT.mono (fun _ h=>.inr h))
   have hs3:=kU.size
   have k5:Keep Nix w (((((((w2.setCell ⟨bs,2,none⟩ (.slice a r.fSpans.length cap)).setCell ⟨bs,4,none⟩ (.slice aD r.fCut.length cD)).setCell ⟨bs+1,0,none⟩ (.int .i64 r.fEpoch)).setCell ⟨bs+1,1,none⟩ (.int .i64 r.fBase)).setCell ⟨bs+1,2,none⟩ (.slice a r.fSpans.length cap)).setCell ⟨bs+1,3,none⟩ (.int .i64 r.fMoving)).setCell ⟨bs+1,4,none⟩ (.slice aD r.fCut.length cD)):=((kk.trans kw).trans k2).then kU (fun i hi e=>by rcases e with e | e <;> omega)
   have own5:World.ownsRow (((((((w2.setCell ⟨bs,2,none⟩ (.slice a r.fSpans.length cap)).setCell ⟨bs,4,none⟩ (.slice aD r.fCut.length cD)).setCell ⟨bs+1,0,none⟩ (.int .i64 r.fEpoch)).setCell ⟨bs+1,1,none⟩ (.int .i64 r.fBase)).setCell ⟨bs+1,2,none⟩ (.slice a r.fSpans.length cap)).setCell ⟨bs+1,3,none⟩ (.int .i64 r.fMoving)).setCell ⟨bs+1,4,none⟩ (.slice aD r.fCut.length cD)) bs 97 2 (.slice a r.fSpans.length cap) r.fSpans.length css.flatten:=jbY (jad (jad own k2 (fun _ _ h=>h)) kU (fun b hb e=>by have:=(own.lt b hb).1;rcases e with e | e <;> omega)) (by omega)
   have els5:=((els.keep rGOwner_lawful k2 (fun _ _ h=>h)).keep rGOwner_lawful kU (fun b hb e=>by have:=hb.1.1;rcases e with e | e <;> omega)).mono (q:=fun b=>(bs≤b∧b<((((((((w2.setCell ⟨bs,2,none⟩ (.slice a r.fSpans.length cap)).setCell ⟨bs,4,none⟩ (.slice aD r.fCut.length cD)).setCell ⟨bs+1,0,none⟩ (.int .i64 r.fEpoch)).setCell ⟨bs+1,1,none⟩ (.int .i64 r.fBase)).setCell ⟨bs+1,2,none⟩ (.slice a r.fSpans.length cap)).setCell ⟨bs+1,3,none⟩ (.int .i64 r.fMoving)).setCell ⟨bs+1,4,none⟩ (.slice aD r.fCut.length cD))).heap.size)∧¬OwnB (.slice a r.fSpans.length cap) b) rGOwner_lawful (fun b hb=>⟨⟨by have:=hb.1.1;omega,by have:=hb.1.2;omega⟩,hb.2⟩)
   have LD5:=LD.to (s':=fun b=>(bs≤b∧b<((((((((w2.setCell ⟨bs,2,none⟩ (.slice a r.fSpans.length cap)).setCell ⟨bs,4,none⟩ (.slice aD r.fCut.length cD)).setCell ⟨bs+1,0,none⟩ (.int .i64 r.fEpoch)).setCell ⟨bs+1,1,none⟩ (.int .i64 r.fBase)).setCell ⟨bs+1,2,none⟩ (.slice a r.fSpans.length cap)).setCell ⟨bs+1,3,none⟩ (.int .i64 r.fMoving)).setCell ⟨bs+1,4,none⟩ (.slice aD r.fCut.length cD))).heap.size)∧¬OwnB (.slice a r.fSpans.length cap) b) kU (fun b hb e=>by have:=hb.1;rcases e with e | e <;> omega) (fun b hb=>⟨⟨by have:=hb.1;omega,by have:=hb.2;omega⟩,fun h=>by have:=(own.lt b h).2;have:=hb.1;omega⟩)
   clear row0 rowR kS kT kU own els LD kk kw k2 HL HC
   go_wp2_with fail
   refine bodyPost_ret (results_cell_row (by rfl) _ _ _ _ _ _ _ (by rfl) rowF Tryz.underlying53 (by rfl) hinfo) rfl ?_
   exact⟨_,rfl,by rw[hbs];exact⟨a,cap,aD,cD,css,rfl,own5,els5,LD5⟩,k5⟩
theorem jlt(w:World):(zeroValue 3).run Tryz.prog w=.ok (.int .i64 0) w:=by kernel_rfl
def jcm(v:Value):Option (DataW Value×List MemPlace):=some (.held v,[])
theorem uK:Go.Maps.Keyed Tryz.prog 28:=Go.Maps.int_keyed Tryz.underlying28
def keyU(k:Int):Lit:=.int .u64 k
theorem jg2{k:Int}(h:jaw k):keyOf Tryz.prog 28 (.int .u64 k)=some (keyU k):=Go.Maps.keyOf_int_mk Tryz.underlying28 (jgS h)
theorem jij{k:Int}(h:jaw k):WideAt.IsKeyLit (keyU k):=uK.key (jg2 h)
theorem jik{k k':Int}(h:k'≠k):keyU k'≠keyU k:=fun e=>h (by simpa [keyU] using e)
def decO(x:Option Int):Int:=match x with | none=>0 | some n=>n
def DecIs(w:World)(bM n:Nat)(D:DataW Value)(dec:Int→Option Int):Prop:=
 w.ownsMap Tryz.prog 28 jcm bM n D∧∀k,jaw k→D.atKey (keyU k) (.held (.int .i64 0))=.held (.int .i64 (decO (dec k)))∧Maps.has D (keyU k)=(dec k).isSome
theorem jec{w w':World}{bM n:Nat}{D:DataW Value}(h:w.ownsMap Tryz.prog 28 jcm bM n D){S:Nat→Prop}(k:Keep S w w')(hs:¬S bM):w'.ownsMap Tryz.prog 28 jcm bM n D:=by
 have hlt:=h.lt
 obtain⟨es,clock,hb,r⟩:=h
 exact⟨es,clock,(k.block bM hlt hs).trans hb,r⟩
theorem DecIs.keep{w w':World}{bM n:Nat}{D:DataW Value}{dec:Int→Option Int}(h:DecIs w bM n D dec){S:Nat→Prop}(k:Keep S w w')(hs:¬S bM):DecIs w' bM n D dec:=⟨jec h.1 k hs,h.2⟩
theorem jnS{w:World}{bM n:Nat}{D:DataW Value}{dec:Int→Option Int}(h:DecIs w bM n D dec){k:Int}(hk:jaw k) :
  (Instr.lookup 77 (.map (some bM)) (.int .u64 k) true).run Tryz.prog w=.ok (.tuple #[.int .i64 (decO (dec k)),.bool (dec k).isSome]) w:=by
 obtain⟨h1,h2⟩:=h.2 k hk
 obtain⟨v',ps,hrun,h3⟩:=h.1.look_ok uK Tryz.underlying77 (jlt w) (show jcm (.int .i64 0)=some (.held (.int .i64 0),[]) from rfl) (jg2 hk)
 rw[h1]at h3
 simp only[jcm,Option.some.injEq,Prod.mk.injEq,DataW.held.injEq]at h3
 rw[h3.1,h2]at hrun
 exact hrun
theorem jg0{w:World}{bM n:Nat}{D:DataW Value}{dec:Int→Option Int}(m:DecIs w bM n D dec)(hn:n<1000000){k x:Int}(hk:jaw k) :
  ∃w',(Instr.mapUpdate 77 (.map (some bM)) (.int .u64 k) (.int .i64 x)).run Tryz.prog w=.ok () w'∧DecIs w' bM (n+1) (D.put (keyU k) (.held (.int .i64 x))) (fun i=>if i=k then some x else dec i)∧Keep (fun b=>b=bM) w w':=by
 obtain⟨w',hrun,own',hg⟩:=m.1.update uK Tryz.underlying77 (by unfold maxLen;omega) (jg2 hk) (show jcm (.int .i64 x)=some (.held (.int .i64 x),[]) from rfl)
 have kk:Keep (fun b=>b=bM) w w':=(Keep.refl _ w).grown hg (fun i hi _=>by cases hi;rfl)
 refine⟨w',hrun,⟨own',fun i hi=>?_⟩,kk⟩
 by_cases hik:i=k
 ·subst hik
  exact⟨by simpa [decO] using Maps.atKey_put_same m.1.isMap (jij hk) _ _,by simpa using Maps.has_put_same m.1.isMap (jij hk) _⟩
 ·obtain⟨h1,h2⟩:=m.2 i hi
  refine⟨(Maps.atKey_put_other (jik hik) _ _).trans (by simpa [hik] using h1),?_⟩
  rw[Maps.has_put_other (jik hik)];simpa [hik] using h2
theorem DecIs.made(w:World):DecIs (w.alloc (.map #[] 0)) w.heap.size 0 (.map []) (fun _=>none):=⟨World.ownsMap_made _ _ _ _,fun _ _=>⟨rfl,rfl⟩⟩
structure RootS where
 spare:Int
 cats:List GCatalog
 routes:GRoutes
 begun:Int
 dec:Int→Option Int
 order:List Int
def ivU(x:Int):Value:=.int .u64 x
def Deep(O:Nat→Prop)(g bM:Nat)(vC vO:Value)(b:Nat):Prop:=O b∧b≠g∧b≠bM∧¬OwnB vC b∧¬OwnB vO b
structure RootAt(w:World)(O:Nat→Prop)(g n:Nat)(R:RootS)(bM:Nat)(aC:Option Addr)(cC:Nat)(aO:Option Addr)(cO:Nat)(aS:Option Addr)(cS:Nat)(aU:Option Addr)(cU:Nat)(cssC:List (List Value))(D:DataW Value):Prop where
 row:RowIs w g 79 [.int .i64 R.spare,.slice aC R.cats.length cC,.int .i64 R.routes.fEpoch,.int .i64 R.routes.fBase,.slice aS R.routes.fSpans.length cS,.int .i64 R.routes.fMoving,.slice aU R.routes.fCut.length cU,.int .u64 R.begun,.map (some bM),.slice aO R.order.length cO]
 oM:O bM
 ne:bM≠g
 oC:∀b,OwnB (.slice aC R.cats.length cC) b→O b∧b≠g∧b≠bM
 oO:∀b,OwnB (.slice aO R.order.length cO) b→O b∧b≠g∧b≠bM
 co:∀b,OwnB (.slice aC R.cats.length cC) b→¬OwnB (.slice aO R.order.length cO) b
 rowC:w.ownsRow 0 50 4 (.slice aC R.cats.length cC) R.cats.length cssC.flatten
 els:Els jat w (Deep O g bM (.slice aC R.cats.length cC) (.slice aO R.order.length cO)) cssC R.cats
 rts:jaz w (Deep O g bM (.slice aC R.cats.length cC) (.slice aO R.order.length cO)) [.int .i64 R.routes.fEpoch,.int .i64 R.routes.fBase,.slice aS R.routes.fSpans.length cS,.int .i64 R.routes.fMoving,.slice aU R.routes.fCut.length cU] R.routes
 rowO:w.ownsRow 0 28 1 (.slice aO R.order.length cO) R.order.length (R.order.map ivU)
 dec:DecIs w bM n D R.dec
structure RootOk(R:RootS):Prop where
 ex:R.cats≠[]
 len:R.cats.length≤100000∧R.order.length≤100000
 small:∀c∈R.cats,jb4 c∧c.fVersion≤1000000
 ver:∀(i:Nat) (c:GCatalog),R.cats[i]?=some c→c.fVersion=(i:Int)
 spans:R.routes.fSpans.length≤30
 u64:jaw R.begun
 place:∀k p,R.dec k=some p→0≤p∧p≤(R.order.length:Int)
structure IsRoot(w:World)(O:Nat→Prop)(g n:Nat)(R:RootS):Prop where
 lt:∀b,O b→b<w.heap.size
 og:O g
 ok:RootOk R
 body:∃bM aC cC aO cO aS cS aU cU cssC D,RootAt w O g n R bM aC cC aO cO aS cS aU cU cssC D
theorem RootAt.keep{w w':World}{O:Nat→Prop}{g n:Nat}{R:RootS}{bM cC cO cS cU:Nat}{aC aO aS aU:Option Addr}{cssC:List (List Value)}{D:DataW Value}(h:RootAt w O g n R bM aC cC aO cO aS cS aU cU cssC D){S:Nat→Prop}(k:Keep S w w')(og:O g)(hs:∀b,O b→¬S b):RootAt w' O g n R bM aC cC aO cO aS cS aU cU cssC D:=
 ⟨h.row.keep k (hs g og),h.oM,h.ne,h.oC,h.oO,h.co,jad h.rowC k (fun b hb=>hs b (h.oC b hb).1),h.els.keep rGCatalog_lawful k (fun b hb=>hs b hb.1),rGRoutes_lawful.keep h.rts k (fun b hb=>hs b hb.1),jad h.rowO k (fun b hb=>hs b (h.oO b hb).1),h.dec.keep k (hs bM h.oM)⟩
theorem IsRoot.keep{w w':World}{O:Nat→Prop}{g n:Nat}{R:RootS}(h:IsRoot w O g n R){S:Nat→Prop}(k:Keep S w w')(hs:∀b,O b→¬S b):IsRoot w' O g n R:=by
 obtain⟨lt,og,ok,bM,aC,cC,aO,cO,aS,cS,aU,cU,cssC,D,B⟩:=h
 exact⟨fun b hb=>Nat.lt_of_lt_of_le (lt b hb) k.size,og,ok,bM,aC,cC,aO,cO,aS,cS,aU,cU,cssC,D,B.keep k og hs⟩
theorem IsRoot.nix{w w':World}{O:Nat→Prop}{g n:Nat}{R:RootS}(h:IsRoot w O g n R)(k:Keep Nix w w'):IsRoot w' O g n R:=h.keep k (fun _ _ h=>h)
theorem jp3(w:World)(e sz:Nat)(cs:List Value)(h:cs.length=sz):(w.alloc (.cells cs.toArray e)).ownsRow 0 e sz (.slice (some ⟨w.heap.size,0,none⟩) 1 1) 1 cs:=
 ⟨by simp[h],.inr ⟨w.heap.size,1,cs.toArray,rfl,Nat.zero_le _,heap_alloc_new _ _,Nat.le_refl _,by unfold maxLen;decide,by simp[h],by simp[←h]⟩⟩
def cat1:GCatalog:=⟨0,1,[],[]⟩
def jbT(s:Int)(r:GRoutes):RootS:=⟨s,[cat1],r,0,fun _=>none,[]⟩
theorem jbW{α:Type}{R:RD α}(w:World)(p:Nat→Prop):jap R w p [.slice none 0 0] []:=⟨none,0,[],rfl,rfl,Lies.nil _ _ _,Nat.le_refl _,Nat.zero_le _,fun i c x h=>by cases h⟩
theorem jiJ(b s:Int)(w:World)(hb:1≤b∧b≤4)(hs:1≤s∧s≤4) :
  Calls Tryz.prog 6 #[.int .i64 b,.int .i64 s] w fun e w'=>∃g O,e=.returned (.tuple #[.pointer (some ⟨g,0,none⟩),.int .i64 0])∧IsRoot w' O g 0 (jbT s ⟨0,b,[⟨b+1,[120]⟩],0,[]⟩)∧(∀b,O b→w.heap.size≤b)∧Keep Nix w w':=by
 have hN:=New_c b s w
 rw[show newF b s=(⟨0,b,[⟨b+1,[120]⟩],0,[]⟩,0)by unfold newF;rw[if_pos ⟨hb.1,hb.2,hs.1,hs.2⟩]]at hN
 replace hN:=Lib.hid hN
 obtain⟨r,HR⟩:∃r:GRoutes,Hid ((⟨0,b,[⟨b+1,[120]⟩],0,[]⟩:GRoutes)=r):=⟨_,rfl⟩
 have hn1:r.fSpans.length≤30:=by rw[←HR.out];show 1≤30;decide
 rw[HR.out]at hN ⊢
 have hmm:=@run_makeMap Tryz.prog
 go_enter Tryz.func6,Tryz.ntmps6
 go_wp2_with fail
 go_fit hN.out
 rintro e w1 ⟨cs,rfl,hr,k1⟩
 have hr2:=hr
 obtain⟨aS,cS,aU,cU,rfl,-⟩:=jav hr
 have hs1:=k1.size
 have row0:=RowIs.alloc w1 #[.int .i64 r.fEpoch,.int .i64 r.fBase,.slice aS r.fSpans.length cS,.int .i64 r.fMoving,.slice aU r.fCut.length cU] 53
 have x0:=row0.cell 0
 (try simp only[List.getElem?_cons_zero]at x0)
 have x1:=row0.cell 1
 (try simp only[List.getElem?_cons_succ]at x1);(try simp only[List.getElem?_cons_zero]at x1)
 have x2:=row0.cell 2
 (try simp only[List.getElem?_cons_succ]at x2);(try simp only[List.getElem?_cons_zero]at x2)
 have x3:=row0.cell 3
 (try simp only[List.getElem?_cons_succ]at x3);(try simp only[List.getElem?_cons_zero]at x3)
 have x4:=row0.cell 4
 (try simp only[List.getElem?_cons_succ]at x4);(try simp only[List.getElem?_cons_zero]at x4)
 have kB:Keep Nix (w1.alloc (.cells #[.int .i64 r.fEpoch,.int .i64 r.fBase,.slice aS r.fSpans.length cS,.int .i64 r.fMoving,.slice aU r.fCut.length cU] 53)) (((w1.alloc (.cells #[.int .i64 r.fEpoch,.int .i64 r.fBase,.slice aS r.fSpans.length cS,.int .i64 r.fMoving,.slice aU r.fCut.length cU] 53))).alloc (.cells #[.int .i64 0,.int .i64 1,.slice none 0 0,.slice none 0 0] 50)):=(Keep.refl Nix _).alloc _
 have rowB:=row0.keep kB id
 have z0:=rowB.cell 0
 (try simp only[List.getElem?_cons_zero]at z0)
 have z1:=rowB.cell 1
 (try simp only[List.getElem?_cons_succ]at z1);(try simp only[List.getElem?_cons_zero]at z1)
 have z2:=rowB.cell 2
 (try simp only[List.getElem?_cons_succ]at z2);(try simp only[List.getElem?_cons_zero]at z2)
 have z3:=rowB.cell 3
 (try simp only[List.getElem?_cons_succ]at z3);(try simp only[List.getElem?_cons_zero]at z3)
 have z4:=rowB.cell 4
 (try simp only[List.getElem?_cons_succ]at z4);(try simp only[List.getElem?_cons_zero]at z4)
 clear hr row0 rowB kB
 go_wp2_with fail
 refine bodyPost_ret (results_tmp2 rfl _ _ _) rfl ?_
 have sA:Hid (((w1.alloc (.cells #[.int .i64 r.fEpoch,.int .i64 r.fBase,.slice aS r.fSpans.length cS,.int .i64 r.fMoving,.slice aU r.fCut.length cU] 53))).heap.size=w1.heap.size+1):=by show _=_;simp
 have sB:Hid (((((w1.alloc (.cells #[.int .i64 r.fEpoch,.int .i64 r.fBase,.slice aS r.fSpans.length cS,.int .i64 r.fMoving,.slice aU r.fCut.length cU] 53))).alloc (.cells #[.int .i64 0,.int .i64 1,.slice none 0 0,.slice none 0 0] 50))).heap.size=w1.heap.size+1+1):=by show _=_;simp
 have sC:Hid (((((((w1.alloc (.cells #[.int .i64 r.fEpoch,.int .i64 r.fBase,.slice aS r.fSpans.length cS,.int .i64 r.fMoving,.slice aU r.fCut.length cU] 53))).alloc (.cells #[.int .i64 0,.int .i64 1,.slice none 0 0,.slice none 0 0] 50))).alloc (.map #[] 0))).heap.size=w1.heap.size+1+1+1):=by show _=_;simp
 have sD:Hid (((((((((w1.alloc (.cells #[.int .i64 r.fEpoch,.int .i64 r.fBase,.slice aS r.fSpans.length cS,.int .i64 r.fMoving,.slice aU r.fCut.length cU] 53))).alloc (.cells #[.int .i64 0,.int .i64 1,.slice none 0 0,.slice none 0 0] 50))).alloc (.map #[] 0))).alloc (.cells #[.int .i64 s,.slice (some ⟨w1.heap.size+1,0,none⟩) 1 1,.int .i64 r.fEpoch,.int .i64 r.fBase,.slice aS r.fSpans.length cS,.int .i64 r.fMoving,.slice aU r.fCut.length cU,.int .u64 0,.map (some (w1.heap.size+1+1)),.slice none 0 0] 79))).heap.size=w1.heap.size+1+1+1+1):=by show _=_;simp
 have kA:Keep Nix w1 (w1.alloc (.cells #[.int .i64 r.fEpoch,.int .i64 r.fBase,.slice aS r.fSpans.length cS,.int .i64 r.fMoving,.slice aU r.fCut.length cU] 53)):=(Keep.refl Nix w1).alloc _
 have kB:Keep Nix (w1.alloc (.cells #[.int .i64 r.fEpoch,.int .i64 r.fBase,.slice aS r.fSpans.length cS,.int .i64 r.fMoving,.slice aU r.fCut.length cU] 53)) (((w1.alloc (.cells #[.int .i64 r.fEpoch,.int .i64 r.fBase,.slice aS r.fSpans.length cS,.int .i64 r.fMoving,.slice aU r.fCut.length cU] 53))).alloc (.cells #[.int .i64 0,.int .i64 1,.slice none 0 0,.slice none 0 0] 50)):=(Keep.refl Nix _).alloc _
 have kC:Keep Nix (((w1.alloc (.cells #[.int .i64 r.fEpoch,.int .i64 r.fBase,.slice aS r.fSpans.length cS,.int .i64 r.fMoving,.slice aU r.fCut.length cU] 53))).alloc (.cells #[.int .i64 0,.int .i64 1,.slice none 0 0,.slice none 0 0] 50)) (((((w1.alloc (.cells #[.int .i64 r.fEpoch,.int .i64 r.fBase,.slice aS r.fSpans.length cS,.int .i64 r.fMoving,.slice aU r.fCut.length cU] 53))).alloc (.cells #[.int .i64 0,.int .i64 1,.slice none 0 0,.slice none 0 0] 50))).alloc (.map #[] 0)):=(Keep.refl Nix _).alloc _
 have kD:Keep Nix (((((w1.alloc (.cells #[.int .i64 r.fEpoch,.int .i64 r.fBase,.slice aS r.fSpans.length cS,.int .i64 r.fMoving,.slice aU r.fCut.length cU] 53))).alloc (.cells #[.int .i64 0,.int .i64 1,.slice none 0 0,.slice none 0 0] 50))).alloc (.map #[] 0)) (((((((w1.alloc (.cells #[.int .i64 r.fEpoch,.int .i64 r.fBase,.slice aS r.fSpans.length cS,.int .i64 r.fMoving,.slice aU r.fCut.length cU] 53))).alloc (.cells #[.int .i64 0,.int .i64 1,.slice none 0 0,.slice none 0 0] 50))).alloc (.map #[] 0))).alloc (.cells #[.int .i64 s,.slice (some ⟨w1.heap.size+1,0,none⟩) 1 1,.int .i64 r.fEpoch,.int .i64 r.fBase,.slice aS r.fSpans.length cS,.int .i64 r.fMoving,.slice aU r.fCut.length cU,.int .u64 0,.map (some (w1.heap.size+1+1)),.slice none 0 0] 79)):=(Keep.refl Nix _).alloc _
 have k4:=((kA.trans kB).trans kC).trans kD
 have rowX:RowIs (((((((w1.alloc (.cells #[.int .i64 r.fEpoch,.int .i64 r.fBase,.slice aS r.fSpans.length cS,.int .i64 r.fMoving,.slice aU r.fCut.length cU] 53))).alloc (.cells #[.int .i64 0,.int .i64 1,.slice none 0 0,.slice none 0 0] 50))).alloc (.map #[] 0))).alloc (.cells #[.int .i64 s,.slice (some ⟨w1.heap.size+1,0,none⟩) 1 1,.int .i64 r.fEpoch,.int .i64 r.fBase,.slice aS r.fSpans.length cS,.int .i64 r.fMoving,.slice aU r.fCut.length cU,.int .u64 0,.map (some (w1.heap.size+1+1)),.slice none 0 0] 79)) (w1.heap.size+1+1+1) 79 [.int .i64 s,.slice (some ⟨w1.heap.size+1,0,none⟩) 1 1,.int .i64 r.fEpoch,.int .i64 r.fBase,.slice aS r.fSpans.length cS,.int .i64 r.fMoving,.slice aU r.fCut.length cU,.int .u64 0,.map (some (w1.heap.size+1+1)),.slice none 0 0]:=by
  have h:=RowIs.alloc (((((w1.alloc (.cells #[.int .i64 r.fEpoch,.int .i64 r.fBase,.slice aS r.fSpans.length cS,.int .i64 r.fMoving,.slice aU r.fCut.length cU] 53))).alloc (.cells #[.int .i64 0,.int .i64 1,.slice none 0 0,.slice none 0 0] 50))).alloc (.map #[] 0)) #[.int .i64 s,.slice (some ⟨w1.heap.size+1,0,none⟩) 1 1,.int .i64 r.fEpoch,.int .i64 r.fBase,.slice aS r.fSpans.length cS,.int .i64 r.fMoving,.slice aU r.fCut.length cU,.int .u64 0,.map (some (w1.heap.size+1+1)),.slice none 0 0] 79
  rw[sC.out]at h
  exact h
 have own:=jad (jp3 (w1.alloc (.cells #[.int .i64 r.fEpoch,.int .i64 r.fBase,.slice aS r.fSpans.length cS,.int .i64 r.fMoving,.slice aU r.fCut.length cU] 53)) 50 4 [.int .i64 0,.int .i64 1,.slice none 0 0,.slice none 0 0] rfl) (kC.trans kD) (fun _ _ h=>h)
 rw[sA.out]at own
 have dec:=(DecIs.made (((w1.alloc (.cells #[.int .i64 r.fEpoch,.int .i64 r.fBase,.slice aS r.fSpans.length cS,.int .i64 r.fMoving,.slice aU r.fCut.length cU] 53))).alloc (.cells #[.int .i64 0,.int .i64 1,.slice none 0 0,.slice none 0 0] 50))).keep kD id
 rw[sB.out]at dec
 have z1:=sD.out
 refine⟨w1.heap.size+1+1+1,fun b=>w.heap.size≤b∧b<w1.heap.size+1+1+1+1,rfl,⟨fun b hb=>by have:=hb.2;omega,⟨by omega,by omega⟩,⟨by simp[jbT],⟨by simp[jbT],by simp[jbT]⟩,fun c hc=>?_,fun i c h=>(by
  have hi:[cat1][i]?=some c:=h
  match i,hi with
  | 0,hi=>cases hi;rfl
  | i+1,hi=>simp at hi),hn1,⟨by simp[jbT],by simp[jbT]⟩,fun k p h=>by simp[jbT]at h⟩,w1.heap.size+1+1,some ⟨w1.heap.size+1,0,none⟩,1,none,0,aS,cS,aU,cU,[[.int .i64 0,.int .i64 1,.slice none 0 0,.slice none 0 0]],_,⟨rowX,⟨by omega,by omega⟩,by omega,fun b hb=>?_,fun b hb=>(by cases hb),fun b hb h=>(by cases h),own,⟨rfl,fun i c x hc hx=>?_⟩,?_,World.ownsRow_nil _ _ _ _,dec⟩⟩,fun b hb=>hb.1,k1.trans k4⟩
 ·have hc:c=cat1:=by simpa [jbT] using hc
  subst hc
  exact⟨⟨fun t h=>(by cases h),fun t h=>(by cases h),Nat.zero_le _,Nat.zero_le _⟩,by show(0:Int)≤_;decide⟩
 ·have hb:b=w1.heap.size+1:=by
   have:(Value.slice (some ⟨w1.heap.size+1,0,none⟩) 1 1).ownBlock=some b:=hb
   simpa [Value.ownBlock] using this.symm
  subst hb
  exact⟨⟨by omega,by omega⟩,by omega,by omega⟩
 ·match i,hc,hx with
  | 0,hc,hx=>
   have hc':c=[.int .i64 0,.int .i64 1,.slice none 0 0,.slice none 0 0]:=by simpa using hc.symm
   have hx':x=cat1:=by simpa [jbT] using hx.symm
   subst hc' hx'
   exact jcs _ _ (x:=cat1) ⟨by show _≤(0:Int);decide,by show(0:Int)≤_;decide⟩ ⟨by show _≤(1:Int);decide,by show(1:Int)≤_;decide⟩ (jbW _ _) (jbW _ _)
  | i+1,hc,hx=>simp at hc
 ·refine rGRoutes_lawful.mono (rGRoutes_lawful.nix hr2 k4) (fun b hb=>⟨⟨hb.1,by have:=hb.2;omega⟩,by have:=hb.2;omega,by have:=hb.2;omega,fun h=>?_,fun h=>(by cases h)⟩)
  have:(Value.slice (some ⟨w1.heap.size+1,0,none⟩) 1 1).ownBlock=some b:=h
  have:w1.heap.size+1=b:=by simpa [Value.ownBlock] using this
  have:=hb.2
  omega
theorem jg7{w:World}{base e sz n cap:Nat}{a:Option Addr}{xs:List Value}(h:w.ownsRow base e sz (.slice a n cap) n xs)(h0:0<n):∃b rest,a=some ⟨b,0,none⟩∧base≤b∧RowIs w b e (xs ++ rest)∧(xs ++ rest).length=cap*sz∧xs.length=n*sz∧n≤cap∧cap≤maxLen:=by
 have hx:=h.1
 obtain⟨-,h1,h2⟩:=jbu h
 cases a with
 | none=>
  rcases h.2 with⟨h3,h4⟩ | ⟨g,cap',cur,h3,_⟩
  ·omega
  ·cases h3
 | some a=>
  obtain⟨b,rest,rfl,h3,h4,h5⟩:=RowIs.of_owned h
  exact⟨b,rest,rfl,h3,h4,h5,hx,h1,h2⟩
def jah(R:RootS):GCatalog:=R.cats.getLast?.getD cat1
theorem jdu(O:Nat→Prop)(g n:Nat)(R:RootS)(w:World)(H:IsRoot w O g n R) :
  Calls Tryz.prog 23 #[.pointer (some ⟨g,0,none⟩)] w (Ret jat w (jah R)):=by
 have hinfo:(Tryz.prog.info? 50).map (·.size)=some 4:=by kernel_rfl
 have H0:=Lib.hid H.lt
 have kA:Keep Nix w (w.alloc (.cells #[.int .i64 0,.int .i64 0,.slice none 0 0,.slice none 0 0] 50)):=(Keep.refl Nix w).alloc _
 have rowZ:RowIs (w.alloc (.cells #[.int .i64 0,.int .i64 0,.slice none 0 0,.slice none 0 0] 50)) w.heap.size 50 [.int .i64 0,.int .i64 0,.slice none 0 0,.slice none 0 0]:=RowIs.alloc w _ _
 obtain⟨lt,og,ok,bM,aC,cC,aO,cO,aS,cS,aU,cU,cssC,D,B⟩:=H.nix kA
 have hpos:0<R.cats.length:=List.length_pos_iff.2 ok.ex
 obtain⟨m,hm⟩:∃m,R.cats.length=m+1:=⟨R.cats.length - 1,by omega⟩
 have hlen:=ok.len.1
 have hmlt:m<R.cats.length:=by omega
 have hlast:jah R=R.cats[m]:=by
  unfold jah
  rw[List.getLast?_eq_getElem?,hm,Nat.add_sub_cancel,List.getElem?_eq_getElem hmlt]
  rfl
 have hsm:=ok.small _ (List.getElem_mem hmlt)
 have hmc:m<cssC.length:=by rw[B.els.1];exact hmlt
 have hel:=B.els.2 m _ _ (List.getElem?_eq_getElem hmc) (List.getElem?_eq_getElem hmlt)
 have hce:cssC[m]?=some cssC[m]:=List.getElem?_eq_getElem hmc
 obtain⟨b,rest,rfl,hb,rowb,hlr,hlx,hc,hmx⟩:=jg7 B.rowC hpos
 have hob:=B.oC b rfl
 have rowX:=B.row
 have hcl:∀d∈cssC,d.length=4:=by
  intro d hd
  obtain⟨i,hi,rfl⟩:=List.mem_iff_getElem.1 hd
  exact rGCatalog_lawful.len (B.els.2 i _ (R.cats[i]'(by rw[←B.els.1];exact hi)) (List.getElem?_eq_getElem hi) (List.getElem?_eq_getElem _))
 rw[hlast]
 generalize hcc:R.cats[m]=c at *
 generalize cssC[m]=cm at *
 have hel2:=hel
 obtain⟨aT,cT,aX,cX,rfl,-⟩:=jau hel
 have hcell:∀j u,([.int .i64 c.fVersion,.int .i64 c.fNext,.slice aT c.fTables.length cT,.slice aX c.fIndexes.length cX]:List Value)[j]?=some u→(cssC.flatten ++ rest)[m*4+j]?=some u:=fun j u hu=>by
  have:=jeH cssC hcl m _ hce j u hu
  rw[List.getElem?_append_left (List.getElem?_eq_some_iff.1 this).1]
  exact this
 have HM:=Lib.hid hm
 have kd:Keep Nix (w.alloc (.cells #[.int .i64 0,.int .i64 0,.slice none 0 0,.slice none 0 0] 50)) ((w.alloc (.cells #[.int .i64 0,.int .i64 0,.slice none 0 0,.slice none 0 0] 50))).drew:=(Keep.refl Nix _).drew
 have HSS:Hid (∀w',Keep Nix (w.alloc (.cells #[.int .i64 0,.int .i64 0,.slice none 0 0,.slice none 0 0] 50)) w'→w'.cell? ⟨g,1,none⟩=some (.slice (some ⟨b,0,none⟩) R.cats.length cC)∧w'.cell? ⟨b,m*4,none⟩=some (.int .i64 c.fVersion)∧w'.cell? ⟨b,m*4+1,none⟩=some (.int .i64 c.fNext)∧w'.cell? ⟨b,m*4+2,none⟩=some (.slice aT c.fTables.length cT)∧w'.cell? ⟨b,m*4+3,none⟩=some (.slice aX c.fIndexes.length cX)):=fun w' k=>by
  have r1:=rowX.keep k id
  have r2:=rowb.keep k id
  exact⟨by simpa using r1.cell 1,(r2.cell (m*4)).trans (hcell 0 _ rfl),(r2.cell (m*4+1)).trans (hcell 1 _ rfl),(r2.cell (m*4+2)).trans (hcell 2 _ rfl),(r2.cell (m*4+3)).trans (hcell 3 _ rfl)⟩
 have hi0:(0:Int)≤(m:Int):=by omega
 have hi1:(m:Int)<(R.cats.length:Int):=by omega
 have hsub:IntKind.i64.wrap ((R.cats.length:Int) - 1)=(m:Int):=by rw[IntKind.wrap_i64];omega
 have HO:=Lib.hid (fun w' (k:Keep Nix (w.alloc (.cells #[.int .i64 0,.int .i64 0,.slice none 0 0,.slice none 0 0] 50)) w')=>Own_c c [.int .i64 c.fVersion,.int .i64 c.fNext,.slice aT c.fTables.length cT,.slice aX c.fIndexes.length cX] w' (rGCatalog_lawful.nix hel2 k) hsm.1)
 have HRZ:=Lib.hid rowZ
 clear hel hel2 hcell hce hcl hlr hlx rowb rowX B rowZ hm hmc hcc hlast
 go_enter Tryz.func23,Tryz.ntmps23
 go_upto_region 1 with fail
 refine wp_region_held_drew (S:=(fun w'=>w'.cell? ⟨g,1,none⟩=some (.slice (some ⟨b,0,none⟩) R.cats.length cC)∧w'.cell? ⟨b,m*4,none⟩=some (.int .i64 c.fVersion)∧w'.cell? ⟨b,m*4+1,none⟩=some (.int .i64 c.fNext)∧w'.cell? ⟨b,m*4+2,none⟩=some (.slice aT c.fTables.length cT)∧w'.cell? ⟨b,m*4+3,none⟩=some (.slice aX c.fIndexes.length cX))) (by kernel_rfl) (HSS.out _ kd) (fun jaa=>?_)
 have HRZ:=Lib.hid (HRZ.out.keep kd id)
 have HO:=Lib.hid (fun w' (k:Keep Nix ((w.alloc (.cells #[.int .i64 0,.int .i64 0,.slice none 0 0,.slice none 0 0] 50))).drew w')=>HO.out w' (kd.trans k))
 have HSS:=Lib.hid (fun w' (k:Keep Nix ((w.alloc (.cells #[.int .i64 0,.int .i64 0,.slice none 0 0,.slice none 0 0] 50))).drew w')=>HSS.out w' (kd.trans k))
 have kk:Keep Nix w ((w.alloc (.cells #[.int .i64 0,.int .i64 0,.slice none 0 0,.slice none 0 0] 50))).drew:=kA.trans kd
 have hsz:Hid (w.heap.size<((w.alloc (.cells #[.int .i64 0,.int .i64 0,.slice none 0 0,.slice none 0 0] 50))).drew.heap.size):=HRZ.out.lt
 clear kd kA
 generalize ((w.alloc (.cells #[.int .i64 0,.int .i64 0,.slice none 0 0,.slice none 0 0] 50))).drew=w2 at *
 refine tk 0 rfl jaa ?_
 refine tk 1 rfl jaa ?_
 refine tk 2 rfl jaa ?_
 refine tk 3 rfl jaa ?_
 refine tk 4 rfl jaa ?_
 refine tk 5 rfl jaa ?_
 refine tk 6 rfl jaa ?_
 refine tk 7 rfl jaa ?_
 refine tk 8 rfl jaa ?_
 refine tk 9 rfl jaa ?_
 refine tk 10 rfl jaa ?_
 refine tk 11 rfl jaa ?_
 have HC:=Lib.hid (HO.out w2 (Keep.refl _ _))
 refine wpAnyH_ready (rs:=[12]) (by kernel_rfl) (by simp) ?_
 refine AllReadyH.cons rfl (fun K hK=>?_) AllReadyH.nil
 try simp only[zz1,zz2,zz3]
 go_simp
 go_fit HC.out
 rintro e w3 ⟨cn,rfl,rn,k3⟩
 clear HC
 go_wp2_with fail
 refine hK.out _ _ ((HSS.out _ k3)) (fun jaa=>?_)
 clear hK K
 try simp only[Act.put,zz1,zz2,zz3,zz4,zz5,zz6]
 have rn2:=rn
 obtain⟨bT,dT,bX,dX,rfl,-⟩:=jau rn
 have rowZ:=HRZ.out.keep k3 id
 have z0:=rowZ.cell 0
 (try simp only[List.getElem?_cons_zero]at z0)
 have z1:=rowZ.cell 1
 (try simp only[List.getElem?_cons_succ]at z1);(try simp only[List.getElem?_cons_zero]at z1)
 have z2:=rowZ.cell 2
 (try simp only[List.getElem?_cons_succ]at z2);(try simp only[List.getElem?_cons_zero]at z2)
 have z3:=rowZ.cell 3
 (try simp only[List.getElem?_cons_succ]at z3);(try simp only[List.getElem?_cons_zero]at z3)
 have zf0:=rowZ.frozen 0
 have zf1:=rowZ.frozen 1
 have zf2:=rowZ.frozen 2
 have zf3:=rowZ.frozen 3
 have kS:Keep (·=w.heap.size) w3 ((((w3.setCell ⟨w.heap.size,0,none⟩ (.int .i64 c.fVersion)).setCell ⟨w.heap.size,1,none⟩ (.int .i64 c.fNext)).setCell ⟨w.heap.size,2,none⟩ (.slice bT c.fTables.length dT)).setCell ⟨w.heap.size,3,none⟩ (.slice bX c.fIndexes.length dX)):=((((Keep.refl (·=w.heap.size) w3).setCell (p:=⟨w.heap.size,0,none⟩) (fun _=>rfl) _).setCell (p:=⟨w.heap.size,1,none⟩) (fun _=>rfl) _).setCell (p:=⟨w.heap.size,2,none⟩) (fun _=>rfl) _).setCell (p:=⟨w.heap.size,3,none⟩) (fun _=>rfl) _
 have rowR:RowIs ((((w3.setCell ⟨w.heap.size,0,none⟩ (.int .i64 c.fVersion)).setCell ⟨w.heap.size,1,none⟩ (.int .i64 c.fNext)).setCell ⟨w.heap.size,2,none⟩ (.slice bT c.fTables.length dT)).setCell ⟨w.heap.size,3,none⟩ (.slice bX c.fIndexes.length dX)) w.heap.size 50 [.int .i64 c.fVersion,.int .i64 c.fNext,.slice bT c.fTables.length dT,.slice bX c.fIndexes.length dX]:=(((rowZ.set 0 (.int .i64 c.fVersion)).set 1 (.int .i64 c.fNext)).set 2 (.slice bT c.fTables.length dT)).set 3 (.slice bX c.fIndexes.length dX)
 have HZR:=Lib.hid rowR
 clear rn rowR rowZ HO
 refine wpAnyH_ready (rs:=[13]) (by kernel_rfl) (by simp) ?_
 refine AllReadyH.cons rfl (fun K hK=>?_) AllReadyH.nil
 try simp only[zz1,zz2,zz3]
 go_simp
 have hH:=jaa
 have hbw:b≠w.heap.size∧g≠w.heap.size:=by
  have:=H0.out b hob.1
  have:=H0.out g og
  omega
 refine hK.out _ _ (⟨(kS.cell (by have:=hsz.out;have:=k3.size;have:=H0.out g og;show g<_;omega) hbw.2).trans hH.1,(kS.cell (by have:=hsz.out;have:=k3.size;have:=H0.out b hob.1;show b<_;omega) hbw.1).trans hH.2.1,(kS.cell (by have:=hsz.out;have:=k3.size;have:=H0.out b hob.1;show b<_;omega) hbw.1).trans hH.2.2.1,(kS.cell (by have:=hsz.out;have:=k3.size;have:=H0.out b hob.1;show b<_;omega) hbw.1).trans hH.2.2.2.1,(kS.cell (by have:=hsz.out;have:=k3.size;have:=H0.out b hob.1;show b<_;omega) hbw.1).trans hH.2.2.2.2⟩) (fun jaa=>?_)
 clear hK K
 try simp only[Act.put,zz1,zz2,zz3,zz4,zz5,zz6]
 refine wpAnyH_done (by kernel_rfl) ?_ _
 clear jaa hH z0 z1 z2 z3 zf0 zf1 zf2 zf3
 go_wp2_with fail
 refine bodyPost_ret (results_cell_row (by rfl) _ _ _ _ _ _ _ (by rfl) HZR.out Tryz.underlying50 (by rfl) hinfo) rfl ?_
 have hsS:=kS.size
 have hsz1:=hsz.out
 have hkk:=kk.size
 exact⟨[.int .i64 c.fVersion,.int .i64 c.fNext,.slice bT c.fTables.length dT,.slice bX c.fIndexes.length dX],rfl,rGCatalog_lawful.mono (rGCatalog_lawful.keep rn2 kS (fun b hb e=>by have:=hb.1;omega)) (fun b hb=>⟨by have:=hb.1;omega,by have:=hb.2;omega⟩),(kk.trans k3).then kS (fun i hi e=>by omega)⟩
end Go.Proofs.YtibaehlfpgipfaaGreat
