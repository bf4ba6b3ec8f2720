/- ROUTE: slices.Insert of one owner. Printed by mac.py. -/
import Derived.Test.YtibaehlfpgipfaaGreatQZG14
import Derived.Lib.AppendZerosOnto
import Derived.Lib.Overlaps
import Derived.Laws.CopyRow
import Derived.Deep.RegionLaw
import Derived.Laws.Externs
namespace Go.Proofs.YtibaehlfpgipfaaGreat
open Go.RowKit
set_option maxRecDepth 100000
set_option maxHeartbeats 4000000
set_option linter.unusedSimpArgs false
theorem jou{w:World}{base e sz n cap:Nat}{a:Option Addr}{xs:List Value}(h:w.ownsRow base e sz (.slice a n cap) n xs)(h0:0<n):∃b rest,a=some ⟨b,0,none⟩∧base≤b∧RowIs w b e (xs ++ rest)∧(xs ++ rest).length=cap*sz∧xs.length=n*sz∧n≤cap∧cap≤maxLen:=by
 have hx:=h.1
 obtain⟨-,h1,h2⟩:=jbu h
 cases a with
 | none=>
  rcases h.2 with⟨h3,h4⟩ | ⟨g,cap',cur,h3,_⟩
  ·omega
  ·cases h3
 | some a=>
  obtain⟨b,rest,rfl,h3,h4,h5⟩:=RowIs.of_owned h
  exact⟨b,rest,rfl,h3,h4,h5,hx,h1,h2⟩
theorem jew{P:Program}(w:World)(dT sT ty elem:TypeId)(sz g o dLen dCap:Nat)(a:Addr)(sLen sCap m:Nat)(cur:List Value)(t:TypeId)(cs:List Value)
  (hu:P.underlying dT=some (.slice elem)) (hs:(P.info? elem).map (·.size)=some sz) (hg:RowIs w g t cur) (hm:m=Nat.min sLen dLen) (hn:cs.length=m*sz)
  (hsrc:∀j v,cs[j]?=some v→w.cell? (a.add j)=some v) (hfit:o+cs.length≤cur.length) (h1:∀v∈cs,v.oneCell'=true) :
  (Builtin.copy_ #[dT,sT] ty #[.slice (some ⟨g,o,none⟩) dLen dCap,.slice (some a) sLen sCap]).run P w=.ok (goInt m) (w.setRow g (cur.take o ++ cs ++ cur.drop (o+cs.length)).toArray):=by
 have hl:=run_loadCells_list (P:=P) w a cs hsrc
 have hst:=run_storeCells_at P g o t cs 0 cur.toArray w hg (by simpa using hfit) h1
 cases hq:P.info? elem with
 | none=>
  simp[hq]at hs
 | some i=>
  have hi:i.size=sz:=by simpa [hq] using hs
  simp[Builtin.copy_,run_underlying hu,Builtin.lenOf,Builtin.firstCells,sizeOf,typeInfo,hq,hi,←hm,←hn,hl,hst]
theorem jgu{P:Program}(w:World){ops:Array Oper}{rest:List Oper}{o:Oper}{a:Act}{Q:Exit→Act→World→Prop}(hgd:o.guard=none)(d s:Operand)(t t':TypeId)
  (ho:o.op=.call {callee:=.builtin .copy,args:=#[d,s],argTypes:=#[t,t']}) (v u:Value) (hd:a.eval d=v) (hs:a.eval s=u) {v':Value} {w':World}
  (hr:(Builtin.copy_ #[t,t'] o.type #[v,u]).run P w=.ok v' w') (h:wpList P ops Q rest (a.put o.dst v') w'):wpList P ops Q (o :: rest) a w:=by
 refine wpList_plain hgd fun K hK=>?_
 unfold Oper.wp
 simp only[execOp,ho,resolve,invoke,builtin,List.map_toArray,List.map_cons,List.map_nil,hd,hs,hr,Sem.run_bind,Sem.run_pure,Result.andThen_ok]
 exact hK _ _ h
theorem jfX{P:Program}{ops:Array Oper}{o:Oper}{a:Act}{w:World}{K:Act→World→Prop}{Q:Exit→Act→World→Prop}{E:Prop}(hg:o.guard=none)(d x:Operand)(dT sT:TypeId)
  (hop:o.op=Op.call {callee:=Callee.builtin Builtin.copy,args:=#[d,x],argTypes:=#[dT,sT]}) (v u:Value) (hd:a.eval d=v) (hx:a.eval x=u) {v':Value} {w':World}
  (hr:(Builtin.copy_ #[dT,sT] o.type #[v,u]).run P w=.ok v' w') (hK:K (a.put o.dst v') w'):if Region.wanted o (yielded ops a.tmps)=true then Oper.wp P o a w K Q else E:=by
 rw[if_pos (by simp[Region.wanted,hg])]
 unfold Oper.wp
 simp only[execOp,hop,resolve,invoke,builtin,List.map_toArray,List.map_cons,List.map_nil,hd,hx,hr,Sem.run_bind,Sem.run_pure,Result.andThen_ok]
 exact hK
def InsP(w:World)(g n:Nat)(ys:List Value)(e:Ending)(w':World):Prop:=∃a' c',e=.returned (.slice a' (n+1) c')∧Lies w' (fun b=>b=g∨w.heap.size≤b) a' ys∧n+1≤c'∧Keep (·=g) w w'
theorem joW(w:World)(base g n c b1:Nat)(xs xc:List Value)(own:w.ownsRow base 97 2 (.slice (some ⟨g,0,none⟩) n c) n xs)(rowX:RowIs w b1 97 xc)(hxc:xc.length=2)(h1:∀u∈xc,u.oneCell'=true)(hn:n≤30)(hb:base≤w.heap.size) :
  Calls Tryz.prog 114 #[.slice (some ⟨g,0,none⟩) n c,.int .i64 n,.slice (some ⟨b1,0,none⟩) 1 1] w (InsP w g n (xs ++ xc)):=by
 obtain⟨i,z,hi,hz,hsz,hby,hzs⟩:=T_lOwner.info
 have hnc:n≤c:=(jbu own).2.1
 have hr:∀ty,∃v' w',(Builtin.append_ #[51,51] ty #[.slice (some ⟨g,0,none⟩) n c,.slice (some ⟨b1,0,none⟩) 1 1]).run Tryz.prog w=.ok v' w'∧InsP w g n (xs ++ xc) (.returned v') w':=fun ty=>by
  obtain⟨v',w',hrun,hown',hg,-,hf⟩:=run_append_own_at (P:=Tryz.prog) w base 51 ty 97 i z 2 32 T_lOwner.under hi hz hsz hby hzs T_lOwner.pos _ n xs own ⟨b1,0,none⟩ 1 1 xc (by omega) (fun j u hu=>by
   rw[Addr.add_lit,rowX.cell,Nat.zero_add];exact hu) h1 (by unfold maxLen;omega) (by omega) hb
  obtain⟨a',cap',rfl⟩:=jdn hown'
  refine⟨_,_,hrun,a',cap',rfl,(Lies.of_owned hown').mono (fun b hb=>?_),(jbu hown').2.1,(Keep.refl _ w).grown hg (fun k hk _=>by cases hk;rfl)⟩
  rcases hf with h | h
  ·left;have:=hb.2;rw[h]at this;cases this;rfl
  ·right;have:=hb.2;rw[h]at this;cases this;exact Nat.le_refl _
 obtain⟨v',w',hrun,hI⟩:=hr 51
 have HI:=Lib.hid hI
 clear hr own rowX h1 hi hz hsz hby hzs hI
 by_cases hcn:c=n
 ·subst hcn
  go_enter Tryz.func114,Tryz.ntmps114
  go_wp2_with (at_builtin;refine Lib.wpList_append_run _ rfl _ _ _ _ rfl _ _ rfl rfl _ _ hrun ?_)
  go_ret
  exact HI.out
 ·go_enter Tryz.func114,Tryz.ntmps114
  go_wp2_with (at_builtin;refine Lib.wpList_append_run _ rfl _ _ _ _ rfl _ _ rfl rfl _ _ hrun ?_)
  go_ret
  exact HI.out
theorem RowIs.shape{w:World}{b:Nat}{e:TypeId}{cs:List Value}(h:RowIs w b e cs):w.shape? b=some (e,cs.length):=by
 unfold World.shape?
 rw[h]
 simp
theorem RowIs.setRow'{w:World}{g:Nat}{e:TypeId}{cs ds:List Value}(h:RowIs w g e cs):RowIs (w.setRow g ds.toArray) g e ds:=h.setRow ds
theorem jnf{A B R xc:List Value}{a:Nat}(hA:A.length=a)(hR:2≤R.length)(hx:xc.length=2) :
  (((A ++ B ++ R).take (a+2) ++ B ++ (A ++ B ++ R).drop (a+2+B.length)).take a ++ xc ++ ((A ++ B ++ R).take (a+2) ++ B ++ (A ++ B ++ R).drop (a+2+B.length)).drop (a+xc.length))=A ++ xc ++ B ++ R.drop 2:=by
 have hl:((A ++ B ++ R).take (a+2)).length=a+2:=by rw[List.length_take,List.length_append,List.length_append];omega
 have e1:(A ++ B ++ R).drop (a+2+B.length)=R.drop 2:=by
  have:a+2+B.length=(A ++ B).length+2:=by rw[List.length_append];omega
  rw[this,List.drop_append];simp
 rw[e1,hx,List.append_assoc ((A ++ B ++ R).take (a+2)),List.take_append_of_le_length (by omega),List.take_take,Nat.min_eq_left (by omega),List.drop_left' hl,List.append_assoc A B R,List.take_left' hA]
 simp[List.append_assoc]
theorem jmA{A B Z xc:List Value}{a:Nat}(hA:A.length=a)(_hZ:2+B.length≤Z.length)(hx:xc.length=2) :
  ((((A ++ Z).take a ++ xc ++ (A ++ Z).drop (a+xc.length)).take (a+2)) ++ B ++ ((A ++ Z).take a ++ xc ++ (A ++ Z).drop (a+xc.length)).drop (a+2+B.length))=A ++ xc ++ B ++ Z.drop (2+B.length):=by
 have e1:(A ++ Z).drop (a+xc.length)=Z.drop 2:=by rw[hx,←hA,List.drop_append];simp
 have e0:(A ++ Z).take a=A:=List.take_left' hA
 have hl:(A ++ xc).length=a+2:=by rw[List.length_append];omega
 rw[e1,e0,List.take_left' hl]
 have e2:a+2+B.length=(A ++ xc).length+B.length:=by omega
 rw[e2,List.drop_append,List.drop_eq_nil_of_le (by omega)]
 simp[List.drop_drop]
theorem jjP{w:World}{g:Nat}{e:TypeId}{ys zs:List Value}(h:RowIs w g e (ys ++ zs))(p:Nat→Prop)(hp:p g):Lies w p (some ⟨g,0,none⟩) ys:=
 h.lies p hp (off:=0) (fun j u hu=>by rw[Nat.zero_add,List.getElem?_append_left (List.getElem?_eq_some_iff.1 hu).1];exact hu)
theorem jnC(w:World)(g n c k b1:Nat)(xs rest xc:List Value)(row:RowIs w g 97 (xs ++ rest))(hxs:xs.length=n*2)(hrl:(xs ++ rest).length=c*2)(ho:∀u∈xs,u.oneCell'=true)(rowX:RowIs w b1 97 xc)(hxc:xc.length=2)(h1:∀u∈xc,u.oneCell'=true)(hbg:b1≠g)(hn:n≤30)(hk:k<n)(hroom:n+1≤c) :
  Calls Tryz.prog 114 #[.slice (some ⟨g,0,none⟩) n c,.int .i64 k,.slice (some ⟨b1,0,none⟩) 1 1] w (InsP w g n (xs.take (k*2) ++ xc ++ xs.drop (k*2))):=by
 obtain⟨i,z,hi,hz,hsz,hby,hzs⟩:=T_lOwner.info
 have hsz2:(Tryz.prog.info? 97).map (·.size)=some 2:=by rw[hi];simp[hsz]
 have hov:∀lb cb,(callFunc 171 #[.slice (some ⟨b1,0,none⟩) 1 1,.slice (some ⟨g,(k+1)*2,none⟩) lb cb]).run Tryz.prog w=.ok (.value (.bool false)) w:=fun lb cb=>by
  rw[run_callFunc_extern Tryz.func171 (by kernel_rfl) (by kernel_rfl) (by kernel_rfl) (e:=Extern.SlicesOverlaps.overlaps #[51,51] #[4]) (by kernel_rfl),
   Lib.run_overlaps_apart w 51 4 97 T_lOwner.under 2 (fun w=>by simp[sizeOf,typeInfo,hi,hsz]) ⟨b1,0,none⟩ ⟨g,(k+1)*2,none⟩ 1 1 lb cb hbg 97 97 _ _ rowX.shape row.shape (by rw[hrl];omega) (rowX.frozen 0) (rowX.frozen _)]
  rfl
 obtain⟨A,B,hA,hB⟩:∃A B,xs.take (k*2)=A∧xs.drop (k*2)=B:=⟨_,_,rfl,rfl⟩
 have hab:xs=A ++ B:=by rw[←hA,←hB,List.take_append_drop]
 have hAl:A.length=k*2:=by rw[←hA,List.length_take];omega
 have hBl:B.length=(n - k)*2:=by rw[←hB,List.length_drop];omega
 have hRl:2≤rest.length:=by rw[List.length_append]at hrl;omega
 rw[hA,hB]
 subst hab
 have rowD:RowIs w.drew g 97 (A ++ B ++ rest):=row
 have hoB:∀u∈B,u.oneCell'=true:=fun u hu=>ho u (List.mem_append_right _ hu)
 have hl3:(A ++ B ++ rest).length=c*2:=hrl
 have hcp1:∀ty dc sc,(Builtin.copy_ #[51,51] ty #[.slice (some ⟨g,(k+1)*2,none⟩) (n+1 - (k+1)) dc,.slice (some ⟨g,k*2,none⟩) (n+1 - k) sc]).run Tryz.prog w.drew=.ok (goInt ((n - k:Nat):Int)) (w.drew.setRow g ((A ++ B ++ rest).take (k*2+2) ++ B ++ (A ++ B ++ rest).drop (k*2+2+B.length)).toArray):=fun ty dc sc=>by
  have h:=jew (P:=Tryz.prog) w.drew 51 51 ty 97 2 g ((k+1)*2) (n+1 - (k+1)) dc ⟨g,k*2,none⟩ (n+1 - k) sc (n - k) (A ++ B ++ rest) 97 B T_lOwner.under hsz2 rowD (by simp only[Nat.min_def];split <;> omega) hBl (fun j u hu=>by
   rw[Addr.add_lit,rowD.cell,List.append_assoc,List.getElem?_append_right (by omega),hAl,Nat.add_sub_cancel_left,List.getElem?_append_left (List.getElem?_eq_some_iff.1 hu).1];exact hu) (by rw[hl3,hBl];omega) hoB
  rw[show(k+1)*2=k*2+2 by omega]at h ⊢
  exact h
 obtain⟨R2,hR2⟩:∃R2,(A ++ B ++ rest).take (k*2+2) ++ B ++ (A ++ B ++ rest).drop (k*2+2+B.length)=R2:=⟨_,rfl⟩
 rw[hR2]at hcp1
 have row2:RowIs (w.drew.setRow g R2.toArray) g 97 R2:=rowD.setRow'
 have kk2:Keep (·=g) w (w.drew.setRow g R2.toArray):=(Keep.refl (·=g) w).drew.setRow (fun _=>rfl) _
 have rowX2:RowIs (w.drew.setRow g R2.toArray) b1 97 xc:=rowX.keep kk2 hbg
 have hl2:R2.length=c*2:=by rw[←hR2];simp only[List.length_append,List.length_take,List.length_drop]at *;omega
 obtain⟨R3,hR3⟩:∃R3,R2.take (k*2) ++ xc ++ R2.drop (k*2+xc.length)=R3:=⟨_,rfl⟩
 have hcp2:∀ty dc,(Builtin.copy_ #[51,51] ty #[.slice (some ⟨g,k*2,none⟩) (n+1 - k) dc,.slice (some ⟨b1,0,none⟩) 1 1]).run Tryz.prog (w.drew.setRow g R2.toArray)=.ok (goInt ((1:Nat):Int)) ((w.drew.setRow g R2.toArray).setRow g R3.toArray):=fun ty dc=>by
  have h:=jew (P:=Tryz.prog) (w.drew.setRow g R2.toArray) 51 51 ty 97 2 g (k*2) (n+1 - k) dc ⟨b1,0,none⟩ 1 1 1 R2 97 xc T_lOwner.under hsz2 row2 (by simp only[Nat.min_def];split <;> omega) hxc (fun j u hu=>by
   rw[Addr.add_lit,rowX2.cell,Nat.zero_add];exact hu) (by rw[hl2,hxc];omega) h1
  rw[hR3]at h
  exact h
 have row3:RowIs ((w.drew.setRow g R2.toArray).setRow g R3.toArray) g 97 (A ++ xc ++ B ++ rest.drop 2):=by
  have e3:A ++ xc ++ B ++ rest.drop 2=R3:=by rw[←hR3,←hR2,jnf hAl hRl hxc]
  rw[e3]
  exact row2.setRow'
 have kk3:Keep (·=g) w ((w.drew.setRow g R2.toArray).setRow g R3.toArray):=kk2.setRow (fun _=>rfl) _
 have HI:Hid (InsP w g n (A ++ xc ++ B) (.returned (.slice (some ⟨g,0,none⟩) (n+1) c)) ((w.drew.setRow g R2.toArray).setRow g R3.toArray)):=⟨_,c,rfl,jjP row3 _ (.inl rfl),hroom,kk3⟩
 have hck:¬c=k:=by omega
 have hck1:¬c=k+1:=by omega
 have hkn:¬(k:Int)=(n:Int):=by omega
 have hkn2:((k:Int) == (n:Int))=false:=by simp;omega
 have hw1:IntKind.i64.wrap ((n:Int)+1)=(n:Int)+1:=by unfold IntKind.wrap;simp[IntKind.bits,IntKind.signed];omega
 have hw2:IntKind.i64.wrap ((k:Int)+1)=(k:Int)+1:=by unfold IntKind.wrap;simp[IntKind.bits,IntKind.signed];omega
 have hr1:(n:Int)+1≤(c:Int):=by omega
 have hn1:((n:Int)+1).toNat=n+1:=by omega
 have hn2:((k:Int)+1).toNat=k+1:=by omega
 have hb1:(0:Int)≤(n:Int)+1:=by omega
 have hb2:(0:Int)≤(k:Int)+1:=by omega
 have hb3:(k:Int)≤(n:Int):=by omega
 have hb4:(k:Int)+1≤(n:Int)+1:=by omega
 have hb5:(k:Int)≤(n:Int)+1:=by omega
 have hkn3:k≤n:=by omega
 have hkn4:¬k=n:=by omega
 clear hi hz hsz hby hzs row rowD rowX rowX2 row2 row3 kk2 kk3 ho h1 hoB hR3 hR2 hA hB hsz2
 go_enter Tryz.func114,Tryz.ntmps114
 go_upto_region 14 with fail
 go_wp2_with (simp only[hov])
 refine wp_region_held_drew (S:=(fun _=>True)) (by kernel_rfl) (trivial) (fun jaa=>?_)
 refine tk 0 rfl jaa ?_
 refine tk 1 rfl jaa ?_
 refine tk 2 rfl jaa ?_
 refine tk 3 rfl jaa ?_
 refine tk 4 rfl jaa ?_
 refine tk 5 rfl jaa ?_
 refine tk 6 rfl jaa ?_
 refine tk 7 rfl jaa ?_
 refine wpAnyH_ready (rs:=[8]) (by kernel_rfl) (by simp) ?_
 refine AllReadyH.cons rfl (fun K hK=>?_) AllReadyH.nil
 refine jfX rfl _ _ 51 51 rfl _ _ (by simp[Act.eval];rfl) (by simp[Act.eval];rfl) (hcp1 _ _ _) ?_
 refine hK.out _ _ (trivial) (fun jaa=>?_)
 clear hK K
 try simp only[Act.put,zz1,zz2,zz3,zz4,zz5,zz6]
 refine wpAnyH_done (by kernel_rfl) ?_ _
 clear jaa
 go_wp2_with (at_builtin;refine jgu _ rfl _ _ 51 51 rfl _ _ rfl rfl (hcp2 _ _) ?_)
 go_ret
 exact HI.out
theorem jnB(w:World)(g n k b1:Nat)(xs rest xc:List Value)(row:RowIs w g 97 (xs ++ rest))(hxs:xs.length=n*2)(ho:∀u∈xs,u.oneCell'=true)(rowX:RowIs w b1 97 xc)(hxc:xc.length=2)(h1:∀u∈xc,u.oneCell'=true)(hn:n≤30)(hk:k<n) :
  Calls Tryz.prog 114 #[.slice (some ⟨g,0,none⟩) n n,.int .i64 k,.slice (some ⟨b1,0,none⟩) 1 1] w (InsP w g n (xs.take (k*2) ++ xc ++ xs.drop (k*2))):=by
 obtain⟨i,z,hi,hz,hsz,hby,hzs⟩:=T_lOwner.info
 have hsz2:(Tryz.prog.info? 97).map (·.size)=some 2:=by rw[hi];simp[hsz]
 obtain⟨A,B,hA,hB⟩:∃A B,xs.take (k*2)=A∧xs.drop (k*2)=B:=⟨_,_,rfl,rfl⟩
 have hab:xs=A ++ B:=by rw[←hA,←hB,List.take_append_drop]
 have hAl:A.length=k*2:=by rw[←hA,List.length_take];omega
 have hBl:B.length=(n - k)*2:=by rw[←hB,List.length_drop];omega
 rw[hA,hB]
 subst hab
 have hoB:∀u∈B,u.oneCell'=true:=fun u hu=>ho u (List.mem_append_right _ hu)
 have hold:(Builtin.firstCells i.size k (.slice (some ⟨g,0,none⟩) k n)).run Tryz.prog w.drew=.ok A.toArray w.drew:=
  run_firstCells_some (P:=Tryz.prog) w.drew i.size k ⟨g,0,none⟩ k n A (by rw[hsz];exact hAl) (fun j u hu=>by
   rw[Addr.add_lit,Nat.zero_add,World.cell?_drew,row.cell,List.append_assoc,List.getElem?_append_left (List.getElem?_eq_some_iff.1 hu).1];exact hu)
 have hkk:(n:Int)+1 - (k:Int)=((n+1 - k:Nat):Int):=by omega
 obtain⟨G,Z,hG,hG2,hZ,hrz⟩:∃G Z,n+1≤G∧G≤9223372036854775807∧2+B.length≤Z.length∧∀ty,(Builtin.append_ #[51,3] ty #[.slice (some ⟨g,0,none⟩) k n,.int .i64 ((n:Int)+1 - (k:Int))]).run Tryz.prog w=.ok (.slice (some ⟨w.heap.size,0,none⟩) (n+1) G) (w.drew.alloc (.cells (A ++ Z).toArray 97)):=by
  refine⟨grownCap w (n+1) n 97,(Builtin.zeroCells z.cells (n+1 - k) ++ Builtin.zeroCells z.cells (grownCap w (n+1) n 97 - (n+1))).toList,grownCap_ge _ _ _ _,?_,?_,fun ty=>?_⟩
  ·have:=grownCap_le_maxLen w (n+1) n 97 (by unfold maxLen;omega)
   unfold maxLen at this
   omega
  ·simp[Builtin.zeroCells,hzs,hBl];omega
  ·have hik:k+(n+1 - k)=n+1:=by omega
   have h:=Lib.run_append_grow_zeros w 51 3 ty 97 i z .i64 .i64 T_lOwner.under Tryz.underlying3 hi hz (some ⟨g,0,none⟩) k n A hold (n+1 - k) (by omega) (by rw[hsz];omega) (by omega) (by omega) (by rw[hby];omega) (by rw[hby,hik];exact growslice_fits (by omega) (by omega))
   rw[hik]at h
   rw[hkk,h]
   congr 3
   simp
 obtain⟨gN,hgN⟩:∃gN,w.heap.size=gN:=⟨_,rfl⟩
 have rowN:RowIs (w.drew.alloc (.cells (A ++ Z).toArray 97)) w.drew.heap.size 97 (A ++ Z):=RowIs.alloc w.drew _ _
 have kN:Keep Nix w (w.drew.alloc (.cells (A ++ Z).toArray 97)):=((Keep.refl Nix w).drew).alloc _
 have hdz:w.drew.heap.size=w.heap.size:=rfl
 rw[hdz,hgN]at rowN
 rw[hgN]at hrz
 have hgg:g<gN:=by rw[←hgN];exact row.lt
 have hbg1:b1<gN:=by rw[←hgN];exact rowX.lt
 replace row:=row.keep kN id
 replace rowX:=rowX.keep kN id
 obtain⟨W1,hW1⟩:∃W1,w.drew.alloc (.cells (A ++ Z).toArray 97)=W1:=⟨_,rfl⟩
 rw[hW1]at hrz row rowX rowN kN
 have hcpA:∀ty dc,(Builtin.copy_ #[51,51] ty #[.slice (some ⟨gN,k*2,none⟩) (n+1 - k) dc,.slice (some ⟨b1,0,none⟩) 1 1]).run Tryz.prog W1=.ok (goInt ((1:Nat):Int)) (W1.setRow gN ((A ++ Z).take (k*2) ++ xc ++ (A ++ Z).drop (k*2+xc.length)).toArray):=fun ty dc=>
  jew (P:=Tryz.prog) W1 51 51 ty 97 2 gN (k*2) (n+1 - k) dc ⟨b1,0,none⟩ 1 1 1 (A ++ Z) 97 xc T_lOwner.under hsz2 rowN (by simp only[Nat.min_def];split <;> omega) hxc (fun j u hu=>by
   rw[Addr.add_lit,rowX.cell,Nat.zero_add];exact hu) (by rw[List.length_append];omega) h1
 obtain⟨R1,hR1⟩:∃R1,(A ++ Z).take (k*2) ++ xc ++ (A ++ Z).drop (k*2+xc.length)=R1:=⟨_,rfl⟩
 rw[hR1]at hcpA
 have hl1:R1.length=(A ++ Z).length:=by rw[←hR1];simp only[List.length_append,List.length_take,List.length_drop]at *;omega
 have rowN1:RowIs (W1.setRow gN R1.toArray) gN 97 R1:=rowN.setRow'
 have kN1:Keep (·=gN) W1 (W1.setRow gN R1.toArray):=(Keep.refl (·=gN) W1).setRow (fun _=>rfl) _
 have row1:RowIs (W1.setRow gN R1.toArray) g 97 (A ++ B ++ rest):=row.keep kN1 (by omega)
 obtain⟨W2,hW2⟩:∃W2,W1.setRow gN R1.toArray=W2:=⟨_,rfl⟩
 rw[hW2]at hcpA rowN1 row1 kN1
 have rowD:RowIs W2.drew gN 97 R1:=rowN1
 have rowE:RowIs W2.drew g 97 (A ++ B ++ rest):=row1
 have hcpB:∀ty dc sc,(Builtin.copy_ #[51,51] ty #[.slice (some ⟨gN,(k+1)*2,none⟩) (n+1 - (k+1)) dc,.slice (some ⟨g,k*2,none⟩) (n - k) sc]).run Tryz.prog W2.drew=.ok (goInt ((n - k:Nat):Int)) (W2.drew.setRow gN (R1.take (k*2+2) ++ B ++ R1.drop (k*2+2+B.length)).toArray):=fun ty dc sc=>by
  have h:=jew (P:=Tryz.prog) W2.drew 51 51 ty 97 2 gN ((k+1)*2) (n+1 - (k+1)) dc ⟨g,k*2,none⟩ (n - k) sc (n - k) R1 97 B T_lOwner.under hsz2 rowD (by simp only[Nat.min_def];split <;> omega) hBl (fun j u hu=>by
   rw[Addr.add_lit,rowE.cell,List.append_assoc,List.getElem?_append_right (by omega),hAl,Nat.add_sub_cancel_left,List.getElem?_append_left (List.getElem?_eq_some_iff.1 hu).1];exact hu) (by rw[hl1,List.length_append];omega) hoB
  rw[show(k+1)*2=k*2+2 by omega]at h ⊢
  exact h
 obtain⟨R2,hR2⟩:∃R2,R1.take (k*2+2) ++ B ++ R1.drop (k*2+2+B.length)=R2:=⟨_,rfl⟩
 rw[hR2]at hcpB
 have kk3:Keep (·=g) w (W2.drew.setRow gN R2.toArray):=((((kN.then kN1 (fun i hi e=>by omega)).drew).setRow (fun h=>by omega) _):Keep Nix w _).nix
 have row3:RowIs (W2.drew.setRow gN R2.toArray) gN 97 (A ++ xc ++ B ++ Z.drop (2+B.length)):=by
  have e3:A ++ xc ++ B ++ Z.drop (2+B.length)=R2:=by rw[←hR2,←hR1,jmA hAl hZ hxc]
  rw[e3]
  exact rowD.setRow'
 have HI:Hid (InsP w g n (A ++ xc ++ B) (.returned (.slice (some ⟨gN,0,none⟩) (n+1) G)) (W2.drew.setRow gN R2.toArray)):=⟨_,G,rfl,jjP row3 _ (.inr (by omega)),hG,kk3⟩
 have hck:¬n=k:=by omega
 have hGk:¬G=k:=by omega
 have hGk1:¬G=k+1:=by omega
 have hkn:¬(k:Int)=(n:Int):=by omega
 have hkn2:((k:Int) == (n:Int))=false:=by simp;omega
 have hw1:IntKind.i64.wrap ((n:Int)+1)=(n:Int)+1:=by unfold IntKind.wrap;simp[IntKind.bits,IntKind.signed];omega
 have hw2:IntKind.i64.wrap ((k:Int)+1)=(k:Int)+1:=by unfold IntKind.wrap;simp[IntKind.bits,IntKind.signed];omega
 have hw3:IntKind.i64.wrap ((n:Int)+1 - (k:Int))=(n:Int)+1 - (k:Int):=by unfold IntKind.wrap;simp[IntKind.bits,IntKind.signed];omega
 have hr1:(n:Int)<(n:Int)+1:=by omega
 have hn1:((n:Int)+1).toNat=n+1:=by omega
 have hn2:((k:Int)+1).toNat=k+1:=by omega
 have hb1:(0:Int)≤(n:Int)+1:=by omega
 have hb2:(0:Int)≤(k:Int)+1:=by omega
 have hb3:(k:Int)≤(n:Int):=by omega
 have hb4:(k:Int)+1≤(n:Int)+1:=by omega
 have hb5:(k:Int)≤(n:Int)+1:=by omega
 have hkn3:k≤n:=by omega
 have hGB:(G:Int)≤9223372036854775807:=by omega
 clear hi hz hsz hby hzs row rowD rowE rowX rowN rowN1 row1 row3 kN kN1 kk3 ho h1 hoB hR1 hR2 hA hB hsz2 hold hkk hdz hW1 hW2 hgN hl1
 go_enter Tryz.func114,Tryz.ntmps114
 go_upto_region 9 with fail
 go_wp2_with (at_builtin;refine Lib.wpList_append_run _ rfl _ _ _ _ rfl _ _ rfl rfl _ _ (hrz _) ?_)
 go_wp2_with (at_builtin;refine jgu _ rfl _ _ 51 51 rfl _ _ rfl rfl (hcpA _ _) ?_)
 refine wp_region_held_drew (S:=(fun _=>True)) (by kernel_rfl) (trivial) (fun jaa=>?_)
 refine tk 0 rfl jaa ?_
 refine tk 1 rfl jaa ?_
 refine tk 2 rfl jaa ?_
 refine tk 3 rfl jaa ?_
 refine tk 4 rfl jaa ?_
 refine tk 5 rfl jaa ?_
 refine tk 6 rfl jaa ?_
 refine tk 7 rfl jaa ?_
 refine wpAnyH_ready (rs:=[8]) (by kernel_rfl) (by simp) ?_
 refine AllReadyH.cons rfl (fun K hK=>?_) AllReadyH.nil
 refine jfX rfl _ _ 51 51 rfl _ _ (by simp[Act.eval];rfl) (by simp[Act.eval];rfl) (hcpB _ _ _) ?_
 refine hK.out _ _ (trivial) (fun jaa=>?_)
 clear hK K
 try simp only[Act.put,zz1,zz2,zz3,zz4,zz5,zz6]
 refine wpAnyH_done (by kernel_rfl) ?_ _
 clear jaa
 go_wp2_with fail
 go_ret
 exact HI.out
theorem jnD(w:World)(base n c k b1:Nat)(a:Option Addr)(xs xc:List Value)(own:w.ownsRow base 97 2 (.slice a n c) n xs)(h0:0<n)(ho:∀u∈xs,u.oneCell'=true)(rowX:RowIs w b1 97 xc)(hxc:xc.length=2)(h1:∀u∈xc,u.oneCell'=true)(hbg:¬OwnB (.slice a n c) b1)(hn:n≤30)(hk:k≤n)(hb:base≤w.heap.size) :
  Calls Tryz.prog 114 #[.slice a n c,.int .i64 k,.slice (some ⟨b1,0,none⟩) 1 1] w fun e w'=>∃a' c',e=.returned (.slice a' (n+1) c')∧Lies w' (fun b=>OwnB (.slice a n c) b∨w.heap.size≤b) a' (xs.take (k*2) ++ xc ++ xs.drop (k*2))∧n+1≤c'∧Keep (OwnB (.slice a n c)) w w':=by
 obtain⟨g,rest,rfl,hg,row,hrl,hxs,hnc,hcm⟩:=jou own h0
 have hB:∀b,OwnB (.slice (some ⟨g,0,none⟩) n c) b↔b=g:=fun b=>⟨fun h=>by cases h;rfl,fun h=>by rw[h];rfl⟩
 have turn:∀(ys:List Value) (e:Ending) (w':World),InsP w g n ys e w'→∃a' c',e=.returned (.slice a' (n+1) c')∧Lies w' (fun b=>OwnB (.slice (some ⟨g,0,none⟩) n c) b∨w.heap.size≤b) a' ys∧n+1≤c'∧Keep (OwnB (.slice (some ⟨g,0,none⟩) n c)) w w':=by
  rintro ys e w' ⟨a',c',h2,h3,h4,h5⟩
  exact⟨a',c',h2,h3.mono (fun b h=>h.imp (fun h=>(hB b).2 h) id),h4,h5.mono (fun b h=>(hB b).2 h)⟩
 by_cases hkn:k=n
 ·subst hkn
  have e:xs.take (k*2) ++ xc ++ xs.drop (k*2)=xs ++ xc:=by rw[←hxs,List.take_length,List.drop_length,List.append_nil]
  rw[e]
  exact(joW w base g k c b1 xs xc own rowX hxc h1 hn hb).mono (turn _)
 ·by_cases hr:n+1≤c
  ·exact(jnC w g n c k b1 xs rest xc row hxs hrl ho rowX hxc h1 (fun e=>hbg ((hB b1).2 e)) hn (by omega) hr).mono (turn _)
  ·obtain rfl:n=c:=by omega
   exact(jnB w g n k b1 xs rest xc row hxs ho rowX hxc h1 hn (by omega)).mono (turn _)
section
def jdm(l:List GOwner)(g:Int)(key:List UInt8):Bool:=!(jdF l g).fTo.isEmpty && (ltB (jdF l g).fFrom key && ltB key (jdF l g).fTo)
section
attribute [local go_sem ↓] jbC
theorem jj1{p q:Nat→Prop}(r:GRoutes)(csr:List Value)(g:Int)(a:Option Addr)(cap:Nat)(l:List UInt8)(w:World)(hr:jaz w p csr r)(hl:LB w q a cap l) :
  Calls Tryz.prog 85 #[.agg csr.toArray,.int .i64 g,.slice a l.length cap] w fun e w'=>e=.returned (.bool (jdm r.fSpans g l))∧Keep Nix w w':=by
 have HR:=Lib.hid hr
 obtain⟨aS,cS,aC,cC,rfl,-⟩:=jav hr
 obtain⟨y,HY⟩:∃y,Hid (jdm r.fSpans g l=y):=⟨_,rfl⟩
 rw[HY.out]
 have kk:Keep Nix w (w.alloc (.cells #[.int .i64 r.fEpoch,.int .i64 r.fBase,.slice aS r.fSpans.length cS,.int .i64 r.fMoving,.slice aC r.fCut.length cC] 53)):=(Keep.refl Nix w).alloc _
 have row0:RowIs (w.alloc (.cells #[.int .i64 r.fEpoch,.int .i64 r.fBase,.slice aS r.fSpans.length cS,.int .i64 r.fMoving,.slice aC r.fCut.length cC] 53)) w.heap.size 53 [.int .i64 r.fEpoch,.int .i64 r.fBase,.slice aS r.fSpans.length cS,.int .i64 r.fMoving,.slice aC r.fCut.length cC]:=RowIs.alloc w _ _
 obtain⟨x,hx⟩:∃x,jdF r.fSpans g=x:=⟨_,rfl⟩
 replace HY:Hid ((!x.fTo.isEmpty && (ltB x.fFrom l && ltB l x.fTo))=y):=by have:=HY.out;unfold jdm at this;rw[hx]at this;exact this
 clear hr
 go_enter Tryz.func85,Tryz.ntmps85
 go_upto_region 1 with fail
 generalize (w.alloc (.cells #[.int .i64 r.fEpoch,.int .i64 r.fBase,.slice aS r.fSpans.length cS,.int .i64 r.fMoving,.slice aC r.fCut.length cC] 53))=w1 at *
 have ldR:=Whole.run (P:=Tryz.prog) S_Routes rfl row0
 have hcall:=joZ r [.int .i64 r.fEpoch,.int .i64 r.fBase,.slice aS r.fSpans.length cS,.int .i64 r.fMoving,.slice aC r.fCut.length cC] g w1 (rGRoutes_lawful.nix HR.out kk)
 rw[hx]at hcall
 clear hx
 go_wp2_with fail
 go_fit hcall
 clear hcall
 rintro e w2 ⟨csx,rfl,rx,k2⟩
 obtain⟨a1,c1,a2,c2,rfl,L1,L2,-⟩:=jgL rx
 have k3:Keep Nix w2 (w2.alloc (.cells #[.slice a1 x.fFrom.length c1,.slice a2 x.fTo.length c2] 32)):=(Keep.refl Nix w2).alloc _
 have rowX:RowIs (w2.alloc (.cells #[.slice a1 x.fFrom.length c1,.slice a2 x.fTo.length c2] 32)) w2.heap.size 32 [.slice a1 x.fFrom.length c1,.slice a2 x.fTo.length c2]:=RowIs.alloc w2 _ _
 replace L1:=LB.keep (show LB w2 (jai w1 w2) a1 c1 x.fFrom from L1) k3
 replace L2:=LB.keep (show LB w2 (jai w1 w2) a2 c2 x.fTo from L2) k3
 have hl3:=((hl.keep kk).keep k2).keep k3
 replace kk:=(kk.trans k2).trans k3
 clear ldR row0 rx k2 k3 hl
 go_upto_region 2 with fail
 generalize w2.alloc (.cells #[.slice a1 x.fFrom.length c1,.slice a2 x.fTo.length c2] 32)=w3 at *
 generalize w2.heap.size=bx at *
 have x0:=rowX.cell 0
 (try simp only[List.getElem?_cons_zero]at x0)
 have x1:=rowX.cell 1
 (try simp only[List.getElem?_cons_succ]at x1);(try simp only[List.getElem?_cons_zero]at x1)
 clear rowX
 have hc1:=jjC a a1 l.length cap x.fFrom.length c1 l x.fFrom w3 rfl rfl hl3.1 L1.1
 have hc2:=jjC a a2 l.length cap x.fTo.length c2 l x.fTo w3 rfl rfl hl3.1 L2.1
 have hg1:=jmu l x.fFrom
 have hl2:=jjD l x.fTo
 generalize Lib.compareBytes l x.fFrom=n1 at hc1 hg1
 generalize Lib.compareBytes l x.fTo=n2 at hc2 hl2
 obtain⟨v1,h1⟩:∃v,ltB x.fFrom l=v:=⟨_,rfl⟩
 obtain⟨v2,h2⟩:∃v,ltB l x.fTo=v:=⟨_,rfl⟩
 rw[h1]at hg1
 rw[h2]at hl2
 have H1:=Lib.hid h1
 have H2:=Lib.hid h2
 clear h1 h2 L1 L2 hl3
 by_cases ht:x.fTo=[]
 ·have hn:=pos0 ht
  have e:Hid (y=false):=by show _=_;rw[←HY.out,ht];rfl
  clear ht hg1 hl2 hc1 hc2
  go_wp2_with fail
  go_ret
  exact⟨jam e.out.symm,kk⟩
 ·have hn:=pos1 ht
  have ht':x.fTo.isEmpty=false:=by simpa using ht
  cases v1 with
  | false=>
   have e:Hid (y=false):=by show _=_;rw[←HY.out,ht',H1.out];rfl
   have hm:n1≤0:=by simpa using hg1
   clear ht ht' hg1 hl2 hc2
   go_wp2_with fail
   go_fit hc1
   clear hc1
   rintro e' w' ⟨rfl,rfl⟩
   go_wp2_with fail
   go_ret
   exact⟨jam e.out.symm,kk⟩
  | true=>
   have e:Hid (y=v2):=by show _=_;rw[←HY.out,ht',H1.out,H2.out];rfl
   have hm:0<n1:=by simpa using hg1
   clear ht ht' hg1
   go_wp2_with fail
   go_fit hc1
   clear hc1
   rintro e' w' ⟨rfl,rfl⟩
   go_wp2_with fail
   go_fit hc2
   clear hc2
   rintro e' w' ⟨rfl,rfl⟩
   go_wp2_with fail
   go_ret
   exact⟨jam (by rw[e.out,←hl2]),kk⟩
end
end
section
theorem OwnR.listV{base:Nat}{w:World}{a:Option Addr}{c:Nat}{css:List (List Value)}{l:List GOwner}{p:Nat→Prop}(own:w.ownsRow base 97 2 (.slice a l.length c) l.length css.flatten)(els:Els jbv w p css l)(hp:∀b,OwnB (.slice a l.length c) b→p b)(hf:l.length≤far):jap jbv w p [.slice a l.length c] l:=
 ⟨a,c,css,rfl,els.1,fun hx=>by
  obtain⟨b,off,ha,h1,h2,h3⟩:=Lies.of_owned own hx
  exact⟨b,off,ha,hp b h1.2,h2,h3⟩,(jbu own).2.1,hf,els.2⟩
theorem OwnR.routesV{base:Nat}{w:World}{cs:List Value}{r:GRoutes}(h:OwnR base w cs r)(hE:jae r.fEpoch)(hB:jae r.fBase)(hM:jae r.fMoving)(hf:r.fSpans.length≤30):jaz w (fun b=>base≤b∧b<w.heap.size) cs r:=by
 obtain⟨a,c,aC,cC,css,rfl,own,els,LC⟩:=h
 refine jc1 _ _ hE hB (OwnR.listV own (els.mono rGOwner_lawful (fun b hb=>hb.1)) (fun b hb=>own.lt b hb) (by unfold far;omega)) hM (LC.mono (fun b hb=>hb.1))
def cutF(r:GRoutes)(g:Int)(l:List UInt8):GRoutes×Int:=
 if r.fMoving≠0 then(r,7) else if jb2 g r.fSpans<0 then(r,5) else if(!jdm r.fSpans g l)=true∨600<l.length then(r,1) else(⟨upI r.fEpoch,r.fBase,r.fSpans,g,l⟩,0)
def RetRX(w:World)(y:GRoutes×Int)(e:Ending)(w':World):Prop:=∃cs:List Value,e=.returned (.tuple #[.agg cs.toArray,.int .i64 y.2])∧jaz w' (fun b=>w.heap.size≤b) cs y.1∧Keep Nix w w'
section
attribute [local go_sem ↓] jbC
theorem Cut_c{p q:Nat→Prop}(r:GRoutes)(csr:List Value)(g:Int)(a:Option Addr)(cap:Nat)(l:List UInt8)(w:World)(hr:jaz w p csr r)(hl:LB w q a cap l)(hn4:r.fSpans.length≤30)(hg:jae g) :
  Calls Tryz.prog 68 #[.agg csr.toArray,.int .i64 g,.slice a l.length cap] w (RetRX w (cutF r g l)):=by
 have HR:=Lib.hid hr
 obtain⟨aS,cS,aC,cC,rfl,hE,hB,hS,hM,hC,-⟩:=jav hr
 obtain⟨Y,HY⟩:∃y,Hid (cutF r g l=y):=⟨_,rfl⟩
 rw[HY.out]
 have k1:=fun(w:World) (o:Obj)=>(Keep.refl Nix w).alloc o
 have kk:Keep Nix w (((w.alloc (.cells #[.int .i64 r.fEpoch,.int .i64 r.fBase,.slice aS r.fSpans.length cS,.int .i64 r.fMoving,.slice aC r.fCut.length cC] 53))).alloc (.cells #[.int .i64 0,.int .i64 0,.slice none 0 0,.int .i64 0,.slice none 0 0] 53)):=(k1 _ _).trans (k1 _ _)
 have row0:RowIs (((w.alloc (.cells #[.int .i64 r.fEpoch,.int .i64 r.fBase,.slice aS r.fSpans.length cS,.int .i64 r.fMoving,.slice aC r.fCut.length cC] 53))).alloc (.cells #[.int .i64 0,.int .i64 0,.slice none 0 0,.int .i64 0,.slice none 0 0] 53)) w.heap.size 53 [.int .i64 r.fEpoch,.int .i64 r.fBase,.slice aS r.fSpans.length cS,.int .i64 r.fMoving,.slice aC r.fCut.length cC]:=(RowIs.alloc w _ _).keep (k1 _ _) id
 have rowR:RowIs (((w.alloc (.cells #[.int .i64 r.fEpoch,.int .i64 r.fBase,.slice aS r.fSpans.length cS,.int .i64 r.fMoving,.slice aC r.fCut.length cC] 53))).alloc (.cells #[.int .i64 0,.int .i64 0,.slice none 0 0,.int .i64 0,.slice none 0 0] 53)) (w.heap.size+1) 53 [.int .i64 0,.int .i64 0,.slice none 0 0,.int .i64 0,.slice none 0 0]:=by
  have h:=RowIs.alloc (w.alloc (.cells #[.int .i64 r.fEpoch,.int .i64 r.fBase,.slice aS r.fSpans.length cS,.int .i64 r.fMoving,.slice aC r.fCut.length cC] 53)) #[.int .i64 0,.int .i64 0,.slice none 0 0,.int .i64 0,.slice none 0 0] 53
  simpa using h
 have hinfo:(Tryz.prog.info? 53).map (·.size)=some 5:=by kernel_rfl
 have HI:=Lib.hid (And.intro hE (And.intro hB hM))
 have HL:=Lib.hid hl
 have HGI:=Lib.hid hg
 clear hr k1 hE hM hC hB hS hl hg
 go_enter Tryz.func68,Tryz.ntmps68
 go_upto_region 1 with fail
 generalize (((w.alloc (.cells #[.int .i64 r.fEpoch,.int .i64 r.fBase,.slice aS r.fSpans.length cS,.int .i64 r.fMoving,.slice aC r.fCut.length cC] 53))).alloc (.cells #[.int .i64 0,.int .i64 0,.slice none 0 0,.int .i64 0,.slice none 0 0] 53))=w1 at *
 generalize hbs:w.heap.size=bs at *
 have hs1:bs+1+1≤w1.heap.size:=rowR.lt
 have ldR:=Whole.run (P:=Tryz.prog) S_Routes rfl row0
 go_wp2_with fail
 go_fit (jfx r [.int .i64 r.fEpoch,.int .i64 r.fBase,.slice aS r.fSpans.length cS,.int .i64 r.fMoving,.slice aC r.fCut.length cC] w1 (rGRoutes_lawful.nix HR.out kk) hn4)
 rintro e w2 ⟨cs8,rfl,own8,k2⟩
 have GR:=own8.routesV HI.out.1 HI.out.2.1 HI.out.2.2 hn4
 obtain⟨a8,c8,aD,cD,css,rfl,-⟩:=own8
 have k3:Keep Nix w2 (w2.alloc (.cells #[.int .i64 r.fEpoch,.int .i64 r.fBase,.slice a8 r.fSpans.length c8,.int .i64 r.fMoving,.slice aD r.fCut.length cD] 53)):=(Keep.refl Nix w2).alloc _
 have row8:RowIs (w2.alloc (.cells #[.int .i64 r.fEpoch,.int .i64 r.fBase,.slice a8 r.fSpans.length c8,.int .i64 r.fMoving,.slice aD r.fCut.length cD] 53)) w2.heap.size 53 [.int .i64 r.fEpoch,.int .i64 r.fBase,.slice a8 r.fSpans.length c8,.int .i64 r.fMoving,.slice aD r.fCut.length cD]:=RowIs.alloc w2 _ _
 replace row0:=(row0.keep k2 id).keep k3 id
 replace rowR:=(rowR.keep k2 id).keep k3 id
 replace GR:=rGRoutes_lawful.nix GR k3
 have hs2:=k2.size
 replace kk:=(kk.trans k2).trans k3
 clear ldR k2 k3
 go_upto_block 0 with fail
 generalize w2.alloc (.cells #[.int .i64 r.fEpoch,.int .i64 r.fBase,.slice a8 r.fSpans.length c8,.int .i64 r.fMoving,.slice aD r.fCut.length cD] 53)=w3 at *
 generalize hb8:w2.heap.size=b8 at *
 have hb81:bs+1<b8:=by omega
 by_cases hm:r.fMoving=0
 rotate_left
 focus
  have hm1:(r.fMoving != 0)=true:=by simpa using hm
  have HQ:Hid (Y=(r,7)):=by show _=_;rw[←HY.out,cutF,if_pos hm]
  have y3:=row0.cell 3
  (try simp only[List.getElem?_cons_succ]at y3);(try simp only[List.getElem?_cons_zero]at y3)
  clear hm
  have ld8:=Whole.run (P:=Tryz.prog) S_Routes rfl row8
  have z0:=rowR.cell 0
  (try simp only[List.getElem?_cons_zero]at z0)
  have z1:=rowR.cell 1
  (try simp only[List.getElem?_cons_succ]at z1);(try simp only[List.getElem?_cons_zero]at z1)
  have z2:=rowR.cell 2
  (try simp only[List.getElem?_cons_succ]at z2);(try simp only[List.getElem?_cons_zero]at z2)
  have z3:=rowR.cell 3
  (try simp only[List.getElem?_cons_succ]at z3);(try simp only[List.getElem?_cons_zero]at z3)
  have z4:=rowR.cell 4
  (try simp only[List.getElem?_cons_succ]at z4);(try simp only[List.getElem?_cons_zero]at z4)
  have g0:=rowR.frozen 0
  have g1:=rowR.frozen 1
  have g2:=rowR.frozen 2
  have g3:=rowR.frozen 3
  have g4:=rowR.frozen 4
  have hr8:=row8.lt
  have kS:=(((((Keep.refl (·=bs+1) w3).setCell (p:=⟨bs+1,0,none⟩) (fun _=>rfl) (.int .i64 r.fEpoch)).setCell (p:=⟨bs+1,1,none⟩) (fun _=>rfl) (.int .i64 r.fBase)).setCell (p:=⟨bs+1,2,none⟩) (fun _=>rfl) (.slice a8 r.fSpans.length c8)).setCell (p:=⟨bs+1,3,none⟩) (fun _=>rfl) (.int .i64 r.fMoving)).setCell (p:=⟨bs+1,4,none⟩) (fun _=>rfl) (.slice aD r.fCut.length cD)
  refine ?h2a
 rotate_left
 focus
  have hm1:(r.fMoving != 0)=false:=by simpa using hm
  have HM:=Lib.hid hm
  clear hm
  obtain⟨pl,hpl⟩:∃y,jb2 g r.fSpans=y:=⟨_,rfl⟩
  have HPL:=Lib.hid hpl
  have hcall:=jdo r [.int .i64 r.fEpoch,.int .i64 r.fBase,.slice aS r.fSpans.length cS,.int .i64 r.fMoving,.slice aC r.fCut.length cC] g w3 (rGRoutes_lawful.nix HR.out kk)
  rw[hpl]at hcall
  clear hpl
  have y3:=row0.cell 3
  (try simp only[List.getElem?_cons_succ]at y3);(try simp only[List.getElem?_cons_zero]at y3)
  have ldR:=Whole.run (P:=Tryz.prog) S_Routes rfl row0
  go_wp2_with fail
  go_fit hcall
  clear hcall
  rintro e w4 ⟨rfl,k4⟩
  clear ldR y3
  replace row0:=row0.keep k4 id
  replace rowR:=rowR.keep k4 id
  replace row8:=row8.keep k4 id
  replace GR:=rGRoutes_lawful.nix GR k4
  replace kk:=kk.trans k4
  clear k4
  rcases Int.lt_or_le pl 0 with hp | hp
  focus
   have HQ:Hid (Y=(r,5)):=by show _=_;rw[←HY.out,cutF,if_neg (by rw[HM.out];simp),HPL.out,if_pos hp]
   have ld8:=Whole.run (P:=Tryz.prog) S_Routes rfl row8
   have z0:=rowR.cell 0
   (try simp only[List.getElem?_cons_zero]at z0)
   have z1:=rowR.cell 1
   (try simp only[List.getElem?_cons_succ]at z1);(try simp only[List.getElem?_cons_zero]at z1)
   have z2:=rowR.cell 2
   (try simp only[List.getElem?_cons_succ]at z2);(try simp only[List.getElem?_cons_zero]at z2)
   have z3:=rowR.cell 3
   (try simp only[List.getElem?_cons_succ]at z3);(try simp only[List.getElem?_cons_zero]at z3)
   have z4:=rowR.cell 4
   (try simp only[List.getElem?_cons_succ]at z4);(try simp only[List.getElem?_cons_zero]at z4)
   have g0:=rowR.frozen 0
   have g1:=rowR.frozen 1
   have g2:=rowR.frozen 2
   have g3:=rowR.frozen 3
   have g4:=rowR.frozen 4
   have hr8:=row8.lt
   have kS:=(((((Keep.refl (·=bs+1) w4).setCell (p:=⟨bs+1,0,none⟩) (fun _=>rfl) (.int .i64 r.fEpoch)).setCell (p:=⟨bs+1,1,none⟩) (fun _=>rfl) (.int .i64 r.fBase)).setCell (p:=⟨bs+1,2,none⟩) (fun _=>rfl) (.slice a8 r.fSpans.length c8)).setCell (p:=⟨bs+1,3,none⟩) (fun _=>rfl) (.int .i64 r.fMoving)).setCell (p:=⟨bs+1,4,none⟩) (fun _=>rfl) (.slice aD r.fCut.length cD)
   refine ?h2b
  rotate_left
  focus
   obtain⟨bv,hbv⟩:∃y,jdm r.fSpans g l=y:=⟨_,rfl⟩
   have HBV:=Lib.hid hbv
   have hcall:=jj1 r [.int .i64 r.fEpoch,.int .i64 r.fBase,.slice aS r.fSpans.length cS,.int .i64 r.fMoving,.slice aC r.fCut.length cC] g a cap l w4 (rGRoutes_lawful.nix HR.out kk) (HL.out.keep kk)
   rw[hbv]at hcall
   clear hbv
   have ldR:=Whole.run (P:=Tryz.prog) S_Routes rfl row0
   cases bv
   focus
    have HQ:Hid (Y=(r,1)):=by show _=_;rw[←HY.out,cutF,if_neg (by rw[HM.out];simp),HPL.out,if_neg (by omega),HBV.out,if_pos (.inl rfl)]
    go_wp2_with fail
    go_fit hcall
    clear hcall
    rintro e w5 ⟨rfl,k5⟩
    clear ldR
    replace row0:=row0.keep k5 id
    replace rowR:=rowR.keep k5 id
    replace row8:=row8.keep k5 id
    replace GR:=rGRoutes_lawful.nix GR k5
    replace kk:=kk.trans k5
    clear k5
    refine ?h1a
   rotate_left
   focus
    go_wp2_with fail
    go_fit hcall
    clear hcall
    rintro e w5 ⟨rfl,k5⟩
    clear ldR
    replace row0:=row0.keep k5 id
    replace rowR:=rowR.keep k5 id
    replace row8:=row8.keep k5 id
    replace GR:=rGRoutes_lawful.nix GR k5
    replace kk:=kk.trans k5
    clear k5
    rcases Int.lt_or_le 600 (l.length:Int)with h6 | h6
    focus
     have HQ:Hid (Y=(r,1)):=by show _=_;rw[←HY.out,cutF,if_neg (by rw[HM.out];simp),HPL.out,if_neg (by omega),if_pos (.inr (by omega))]
     refine ?h1b
    rotate_left
    ·have HQ:Hid (Y=(⟨upI r.fEpoch,r.fBase,r.fSpans,g,l⟩,0)):=by
      show _=_
      rw[←HY.out,cutF,if_neg (by rw[HM.out];simp),HPL.out,if_neg (by omega),HBV.out,if_neg (by simp;omega)]
     have hcall:=jhs a cap l w5 (HL.out.keep kk)
     go_wp2_with fail
     go_fit hcall
     clear hcall
     rintro e w6 ⟨a9,c9,rfl,L9,k6⟩
     have L9:LB w6 (jai w5 w6) a9 c9 l:=L9
     have hb8w:b8<w5.heap.size:=row8.lt
     replace row0:=row0.keep k6 id
     replace rowR:=rowR.keep k6 id
     replace row8:=row8.keep k6 id
     replace GR:=rGRoutes_lawful.nix GR k6
     replace kk:=kk.trans k6
     clear k6
     have kT:Keep (·=b8) w6 (((w6.setCell ⟨b8,3,none⟩ (.int .i64 g)).setCell ⟨b8,4,none⟩ (.slice a9 l.length c9)).setCell ⟨b8,0,none⟩ (.int .i64 (upI r.fEpoch))):=(((Keep.refl (·=b8) w6).setCell (p:=⟨b8,3,none⟩) (fun _=>rfl) _).setCell (p:=⟨b8,4,none⟩) (fun _=>rfl) _).setCell (p:=⟨b8,0,none⟩) (fun _=>rfl) _
     have row8':RowIs (((w6.setCell ⟨b8,3,none⟩ (.int .i64 g)).setCell ⟨b8,4,none⟩ (.slice a9 l.length c9)).setCell ⟨b8,0,none⟩ (.int .i64 (upI r.fEpoch))) b8 53 [.int .i64 (upI r.fEpoch),.int .i64 r.fBase,.slice a8 r.fSpans.length c8,.int .i64 g,.slice a9 l.length c9]:=((row8.set 3 _).set 4 _).set 0 _
     have GR1:=rGRoutes_lawful.keep GR kT (fun b hb e=>by have:=hb.2;omega)
     obtain⟨_,_,_,_,e1,-,-,gL,-⟩:=jav GR1
     simp only[List.cons.injEq,Value.slice.injEq,and_true,true_and]at e1
     obtain⟨⟨rfl,rfl⟩,-⟩:=e1
     have L91:=L9.to (s':=fun b=>w1.heap.size≤b∧b≠b8) kT (fun b hb e=>by have:=hb.1;omega) (fun b hb=>⟨by have:=hb.1;omega,by have:=hb.1;omega⟩)
     have gL1:=(jac rGOwner_lawful).mono gL (q:=fun b=>w1.heap.size≤b∧b≠b8) (fun b hb=>⟨hb.1,by have:=hb.2;omega⟩)
     have GF1:=jc1 (x:=⟨upI r.fEpoch,r.fBase,r.fSpans,g,l⟩) _ (fun b=>w1.heap.size≤b∧b≠b8) (jny _) HI.out.2.1 gL1 HGI.out L91
     have ld8:=Whole.run (P:=Tryz.prog) S_Routes rfl row8'
     have rowR1:=rowR.keep kT (by omega)
     have kk1:=kk.then kT (fun i hi e=>by omega)
     have x0:=row8.cell 0
     (try simp only[List.getElem?_cons_zero]at x0)
     have x1:=row8.cell 1
     (try simp only[List.getElem?_cons_succ]at x1);(try simp only[List.getElem?_cons_zero]at x1)
     have x2:=row8.cell 2
     (try simp only[List.getElem?_cons_succ]at x2);(try simp only[List.getElem?_cons_zero]at x2)
     have x3:=row8.cell 3
     (try simp only[List.getElem?_cons_succ]at x3);(try simp only[List.getElem?_cons_zero]at x3)
     have x4:=row8.cell 4
     (try simp only[List.getElem?_cons_succ]at x4);(try simp only[List.getElem?_cons_zero]at x4)
     have e0:=row8.frozen 0
     have e3:=row8.frozen 3
     have e4:=row8.frozen 4
     have z0:=rowR.cell 0
     (try simp only[List.getElem?_cons_zero]at z0)
     have z1:=rowR.cell 1
     (try simp only[List.getElem?_cons_succ]at z1);(try simp only[List.getElem?_cons_zero]at z1)
     have z2:=rowR.cell 2
     (try simp only[List.getElem?_cons_succ]at z2);(try simp only[List.getElem?_cons_zero]at z2)
     have z3:=rowR.cell 3
     (try simp only[List.getElem?_cons_succ]at z3);(try simp only[List.getElem?_cons_zero]at z3)
     have z4:=rowR.cell 4
     (try simp only[List.getElem?_cons_succ]at z4);(try simp only[List.getElem?_cons_zero]at z4)
     have g0:=rowR.frozen 0
     have g1:=rowR.frozen 1
     have g2:=rowR.frozen 2
     have g3:=rowR.frozen 3
     have g4:=rowR.frozen 4
     have hu:IntKind.i64.wrap (r.fEpoch+1)=upI r.fEpoch:=rfl
     have kS:=(((((Keep.refl (·=bs+1) (((w6.setCell ⟨b8,3,none⟩ (.int .i64 g)).setCell ⟨b8,4,none⟩ (.slice a9 l.length c9)).setCell ⟨b8,0,none⟩ (.int .i64 (upI r.fEpoch)))).setCell (p:=⟨bs+1,0,none⟩) (fun _=>rfl) (.int .i64 (upI r.fEpoch))).setCell (p:=⟨bs+1,1,none⟩) (fun _=>rfl) (.int .i64 r.fBase)).setCell (p:=⟨bs+1,2,none⟩) (fun _=>rfl) (.slice a8 r.fSpans.length c8)).setCell (p:=⟨bs+1,3,none⟩) (fun _=>rfl) (.int .i64 g)).setCell (p:=⟨bs+1,4,none⟩) (fun _=>rfl) (.slice a9 l.length c9)
     have rowF:=((((rowR1.set 0 (.int .i64 (upI r.fEpoch))).set 1 (.int .i64 r.fBase)).set 2 (.slice a8 r.fSpans.length c8)).set 3 (.int .i64 g)).set 4 (.slice a9 l.length c9)
     have k5:=kk1.then kS (fun i hi e=>by omega)
     have GF:=rGRoutes_lawful.mono (rGRoutes_lawful.keep GF1 kS (fun b hb e=>by have:=hb.1;omega)) (q:=fun b=>w.heap.size≤b) (fun b hb=>by have:=hb.1;omega)
     clear row0 rowR rowR1 row8 row8' GR GR1 gL gL1 GF1 L9 L91 kS kT kk kk1
     go_wp2_with fail
     refine bodyPost_ret (jag (by rfl) _ _ _ _ _ _ _ (by rfl) rowF Tryz.underlying53 (by rfl) hinfo) rfl ?_
     rw[HQ.out]
     exact⟨_,rfl,GF,k5⟩
   rotate_left
  rotate_left 2
 rotate_left 3
 case h1a | h1b=>
  have ld8:=Whole.run (P:=Tryz.prog) S_Routes rfl row8
  have z0:=rowR.cell 0
  (try simp only[List.getElem?_cons_zero]at z0)
  have z1:=rowR.cell 1
  (try simp only[List.getElem?_cons_succ]at z1);(try simp only[List.getElem?_cons_zero]at z1)
  have z2:=rowR.cell 2
  (try simp only[List.getElem?_cons_succ]at z2);(try simp only[List.getElem?_cons_zero]at z2)
  have z3:=rowR.cell 3
  (try simp only[List.getElem?_cons_succ]at z3);(try simp only[List.getElem?_cons_zero]at z3)
  have z4:=rowR.cell 4
  (try simp only[List.getElem?_cons_succ]at z4);(try simp only[List.getElem?_cons_zero]at z4)
  have g0:=rowR.frozen 0
  have g1:=rowR.frozen 1
  have g2:=rowR.frozen 2
  have g3:=rowR.frozen 3
  have g4:=rowR.frozen 4
  have hr8:=row8.lt
  have kS:=(((((Keep.refl (·=bs+1) w5).setCell (p:=⟨bs+1,0,none⟩) (fun _=>rfl) (.int .i64 r.fEpoch)).setCell (p:=⟨bs+1,1,none⟩) (fun _=>rfl) (.int .i64 r.fBase)).setCell (p:=⟨bs+1,2,none⟩) (fun _=>rfl) (.slice a8 r.fSpans.length c8)).setCell (p:=⟨bs+1,3,none⟩) (fun _=>rfl) (.int .i64 r.fMoving)).setCell (p:=⟨bs+1,4,none⟩) (fun _=>rfl) (.slice aD r.fCut.length cD)
  have rowF:=((((rowR.set 0 (.int .i64 r.fEpoch)).set 1 (.int .i64 r.fBase)).set 2 (.slice a8 r.fSpans.length c8)).set 3 (.int .i64 r.fMoving)).set 4 (.slice aD r.fCut.length cD)
  have k5:=kk.then kS (fun i hi e=>by omega)
  have GF:=rGRoutes_lawful.mono (rGRoutes_lawful.keep GR kS (fun b hb e=>by have:=hb.1;omega)) (q:=fun b=>w.heap.size≤b) (fun b hb=>by have:=hb.1;omega)
  clear row0 rowR row8 GR kS kk
  go_wp2_with fail
  refine bodyPost_ret (jag (by rfl) _ _ _ _ _ _ _ (by rfl) rowF Tryz.underlying53 (by rfl) hinfo) rfl ?_
  rw[HQ.out]
  exact⟨_,rfl,GF,k5⟩
 case h2a | h2b=>
  have rowF:=((((rowR.set 0 (.int .i64 r.fEpoch)).set 1 (.int .i64 r.fBase)).set 2 (.slice a8 r.fSpans.length c8)).set 3 (.int .i64 r.fMoving)).set 4 (.slice aD r.fCut.length cD)
  have k5:=kk.then kS (fun i hi e=>by omega)
  have GF:=rGRoutes_lawful.mono (rGRoutes_lawful.keep GR kS (fun b hb e=>by have:=hb.1;omega)) (q:=fun b=>w.heap.size≤b) (fun b hb=>by have:=hb.1;omega)
  clear row0 rowR row8 GR kS kk
  go_wp2_with fail
  refine bodyPost_ret (jag (by rfl) _ _ _ _ _ _ _ (by rfl) rowF Tryz.underlying53 (by rfl) hinfo) rfl ?_
  rw[HQ.out]
  exact⟨_,rfl,GF,k5⟩
end
end
end Go.Proofs.YtibaehlfpgipfaaGreat
