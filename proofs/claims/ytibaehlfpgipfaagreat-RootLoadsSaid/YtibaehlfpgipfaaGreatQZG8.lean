/- LISTS OF A READER: package wire's items[T]. Printed by gen8.py. -/
import Derived.Test.YtibaehlfpgipfaaGreatQZG3
import Derived.Test.YtibaehlfpgipfaaGreatQZG6
import Derived.Deep.RegionHeld3
import Derived.Test.YtibaehlfpgipfaaGreatQZGetA
namespace Go.Proofs.YtibaehlfpgipfaaGreat
open Go.RowKit
set_option linter.unusedSimpArgs false
section
def jb1:Ps GPair:=fun s0=>
 let a0:=jaF s0
 let a1:=jaF a0.2
 let a2:=pInt a1.2
 (⟨a0.1,a1.1,a2.1⟩,a2.2)
theorem jpa(a:Act)(dst:Option Tmp)(ty:TypeId)(pos:String)(after:Array Edge)(guard:Option (Nat×Bool))(parts:Array (Nat×Operand)):execOp a.eval {dst:=dst,op:=.build 114 parts,type:=ty,pos:=pos,after:=after,guard:=guard}=jcJ 114 (parts.map fun x=>(x.1,a.eval x.2)):=rfl
theorem jpD(a:Act)(dst:Option Tmp)(ty:TypeId)(pos:String)(after:Array Edge)(guard:Option (Nat×Bool))(x y:Operand):execOp a.eval {dst:=dst,op:=.store 114 x y,type:=ty,pos:=pos,after:=after,guard:=guard}=jbm 114 (a.eval x) (a.eval y):=rfl
section
attribute [local go_sem ↓] jpa jpD
set_option maxRecDepth 100000 in
set_option maxHeartbeats 8000000 in
theorem jpr(rd:Nat)(p:Nat→Prop)(s:RdS)(w:World)(h:IsRd w 151 rd p s)(hpl:∀b,p b→b<w.heap.size) :
  Calls Tryz.prog 134 #[.agg #[.pointer (some ⟨rd,0,none⟩)]] w (jfh jf7 151 rd p w (jb1 s)):=by
 have hlt:=h.lt
 have hmf:∀(fn:Fn) (first cap:Array Value) (w:World),(Instr.makeFunc fn first cap).run Tryz.prog w=.ok (.func fn first cap) w:=fun _ _ _ _=>rfl
 have hsz:(w.alloc (.cells #[.pointer (some ⟨rd,0,none⟩)] 154)).heap.size=w.heap.size+1:=by simp
 have rowB:RowIs ((w.alloc (.cells #[.pointer (some ⟨rd,0,none⟩)] 154)).alloc (.cells #[.slice none 0 0,.slice none 0 0,.int .i64 0] 114)) w.heap.size 154 [.pointer (some ⟨rd,0,none⟩)]:=(RowIs.alloc w _ _).keep ((Keep.refl Nix _).alloc _) id
 have rowR:RowIs ((w.alloc (.cells #[.pointer (some ⟨rd,0,none⟩)] 154)).alloc (.cells #[.slice none 0 0,.slice none 0 0,.int .i64 0] 114)) (w.heap.size+1) 114 [.slice none 0 0,.slice none 0 0,.int .i64 0]:=by
  rw[←hsz]
  exact RowIs.alloc (w.alloc (.cells #[.pointer (some ⟨rd,0,none⟩)] 154)) _ _
 have hr:=h.nix (((Keep.refl Nix w).alloc (.cells #[.pointer (some ⟨rd,0,none⟩)] 154)).alloc (.cells #[.slice none 0 0,.slice none 0 0,.int .i64 0] 114))
 have kk:Keep (·=rd) w ((w.alloc (.cells #[.pointer (some ⟨rd,0,none⟩)] 154)).alloc (.cells #[.slice none 0 0,.slice none 0 0,.int .i64 0] 114)):=((Keep.refl (·=rd) w).alloc _).alloc _
 clear h hsz
 replace rowB:=rowB.same (w':=((w.alloc (.cells #[.pointer (some ⟨rd,0,none⟩)] 154)).alloc (.cells #[.slice none 0 0,.slice none 0 0,.int .i64 0] 114)).drew)
 replace rowR:=rowR.same (w':=((w.alloc (.cells #[.pointer (some ⟨rd,0,none⟩)] 154)).alloc (.cells #[.slice none 0 0,.slice none 0 0,.int .i64 0] 114)).drew)
 replace hr:=hr.same (w':=((w.alloc (.cells #[.pointer (some ⟨rd,0,none⟩)] 154)).alloc (.cells #[.slice none 0 0,.slice none 0 0,.int .i64 0] 114)).drew)
 replace kk:=kk.drew
 go_enter Tryz.func134,Tryz.ntmps134
 go_wp2_with fail
 refine wp_region_held_drew (S:=(fun w'=>w'.cell? ⟨w.heap.size,0,none⟩=some (.pointer (some ⟨rd,0,none⟩)))) (by kernel_rfl) (rowB.cell 0) (fun jaa=>?_)
 refine tk 0 rfl jaa ?_
 refine tk 2 rfl jaa ?_
 refine tk 4 rfl jaa ?_
 refine wpAnyH_ready (rs:=[1]) (by kernel_rfl) (by simp) ?_
 refine AllReadyH.cons rfl (fun K hK=>?_) AllReadyH.nil
 go_simp
 go_fit (jeY rd p _ _ hr)
 rintro e w1 ⟨v,rfl,q0,hr',k0⟩
 generalize hy0:jaF s=y0 at hr' q0
 replace hy0:=Lib.hid hy0
 obtain⟨a0,cc0,hv,q0'⟩:=jed q0
 simp only[List.cons.injEq,and_true]at hv
 subst hv
 clear q0
 have q0:=q0'
 clear q0'
 have rowRl:=rowR.lt
 replace rowB:=rowB.keep k0 (by omega)
 replace rowR:=rowR.keep k0 (by omega)
 have hRl:=rowRl
 replace kk:=kk.trans k0
 replace q0:=rBytesW_lawful.mono q0 (fun b hb=>(⟨by have:=hb.1;omega,hb.2⟩:jb5 (w.heap.size+2) w1 b))
 clear hRl
 replace hr:=hr'
 clear hr' k0 rowRl
 go_wp2_with fail
 refine hK.out _ _ (rowB.cell 0) (fun jaa=>?_)
 clear hK K
 try simp only[Act.put,zz1,zz2,zz3,zz4,zz5,zz6]
 refine wpAnyH_ready (rs:=[3]) (by kernel_rfl) (by simp) ?_
 refine AllReadyH.cons rfl (fun K hK=>?_) AllReadyH.nil
 go_simp
 go_fit (jeY rd p _ _ hr)
 rintro e w2 ⟨v,rfl,q1,hr',k1⟩
 generalize hy1:jaF y0.2=y1 at hr' q1
 replace hy1:=Lib.hid hy1
 obtain⟨a1,cc1,hv,q1'⟩:=jed q1
 simp only[List.cons.injEq,and_true]at hv
 subst hv
 clear q1
 have q1:=q1'
 clear q1'
 have rowRl:=rowR.lt
 replace q0:=rBytesW_lawful.mono (rBytesW_lawful.keep q0 k1 (fun b hb e=>by have:=hb.1;omega)) (fun b hb=>(⟨hb.1,Nat.lt_of_lt_of_le hb.2 k1.size⟩:jb5 (w.heap.size+2) w2 b))
 replace rowB:=rowB.keep k1 (by omega)
 replace rowR:=rowR.keep k1 (by omega)
 have hRl:=rowRl
 replace kk:=kk.trans k1
 replace q1:=rBytesW_lawful.mono q1 (fun b hb=>(⟨by have:=hb.1;omega,hb.2⟩:jb5 (w.heap.size+2) w2 b))
 clear hRl
 replace hr:=hr'
 clear hr' k1 rowRl
 go_wp2_with fail
 refine hK.out _ _ (rowB.cell 0) (fun jaa=>?_)
 clear hK K
 try simp only[Act.put,zz1,zz2,zz3,zz4,zz5,zz6]
 refine wpAnyH_ready (rs:=[5]) (by kernel_rfl) (by simp) ?_
 refine AllReadyH.cons rfl (fun K hK=>?_) AllReadyH.nil
 go_simp
 go_fit (jc8 rd p _ _ hr)
 rintro e w3 ⟨rfl,hr',k2⟩
 have wf2:Hid ((Lit.int .i64 (pInt y1.2).1).wf=true):=jc9 (jbt maxU _)
 generalize hy2:pInt y1.2=y2 at hr' wf2 ⊢
 replace hy2:=Lib.hid hy2
 have rowRl:=rowR.lt
 replace q0:=rBytesW_lawful.mono (rBytesW_lawful.keep q0 k2 (fun b hb e=>by have:=hb.1;omega)) (fun b hb=>(⟨hb.1,Nat.lt_of_lt_of_le hb.2 k2.size⟩:jb5 (w.heap.size+2) w3 b))
 replace q1:=rBytesW_lawful.mono (rBytesW_lawful.keep q1 k2 (fun b hb e=>by have:=hb.1;omega)) (fun b hb=>(⟨hb.1,Nat.lt_of_lt_of_le hb.2 k2.size⟩:jb5 (w.heap.size+2) w3 b))
 replace rowB:=rowB.keep k2 (by omega)
 replace rowR:=rowR.keep k2 (by omega)
 replace kk:=kk.trans k2
 replace hr:=hr'
 clear hr' k2 rowRl
 go_wp2_with fail
 refine hK.out _ _ (rowB.cell 0) (fun jaa=>?_)
 clear hK K
 try simp only[Act.put,zz1,zz2,zz3,zz4,zz5,zz6]
 have hbd:=fun w'=>jcZ (P:=Tryz.prog) B_Pair [.slice a0 y0.1.length cc0,.slice a1 y1.1.length cc1,.int .i64 y2.1] (by simp only[List.map_cons,List.map_nil,jbJ,jb8]) w'
 simp only[jbX,Nat.reduceAdd]at hbd
 refine tk 6 rfl jaa ?_
 refine wpAnyH_ready (rs:=[7]) (by kernel_rfl) (by simp) ?_
 refine AllReadyH.cons rfl (fun K hK=>?_) AllReadyH.nil
 have hjl:(jal [.slice a0 y0.1.length cc0,.slice a1 y1.1.length cc1,.int .i64 y2.1]).length=3:=by simp only[jbN,jcn,jbJ,jb8]
 have hjo:ones (jal [.slice a0 y0.1.length cc0,.slice a1 y1.1.length cc1,.int .i64 y2.1])=true:=by simp only[jcz,jcr,jdy,jdf,Bool.and_self]
 have hst:=jaf (P:=Tryz.prog) S_Pair rowR rfl hjl hjo
 have rowF:=rowR.setRow (jal [.slice a0 y0.1.length cc0,.slice a1 y1.1.length cc1,.int .i64 y2.1])
 have kS:=(Keep.refl (·=w.heap.size+1) w3).setRow (fun _=>rfl) (jal [.slice a0 y0.1.length cc0,.slice a1 y1.1.length cc1,.int .i64 y2.1]).toArray
 replace rowB:=rowB.keep kS (by omega)
 have HJL:=Lib.hid hjl
 have HJO:=Lib.hid hjo
 clear hjl hjo
 try simp only[zz1,zz2,zz3]
 go_simp
 clear hst
 refine hK.out _ _ (rowB.cell 0) (fun jaa=>?_)
 clear hK K
 try simp only[Act.put,zz1,zz2,zz3,zz4,zz5,zz6]
 refine wpAnyH_done (by kernel_rfl) ?_ _
 clear hbd hmf jaa
 go_wp2_with fail
 have hinfo:(Tryz.prog.info? 114).map (·.size)=some (jal [.slice a0 y0.1.length cc0,.slice a1 y1.1.length cc1,.int .i64 y2.1]).toArray.size:=by rw[List.size_toArray,HJL.out];exact S_Pair.info
 refine bodyPost_ret (results_cell_row (by rfl) _ _ _ _ _ _ _ (by rfl) rowF Tryz.underlying114 (by rfl) hinfo) rfl ?_
 replace q0:=rBytesW_lawful.mono (rBytesW_lawful.keep q0 kS (fun b hb e=>by have:=hb.1;omega)) (fun b hb=>(⟨by have:=hb.1;omega,Nat.lt_of_lt_of_le hb.2 kS.size⟩:jai w (w3.setRow (w.heap.size+1) (jal [.slice a0 y0.1.length cc0,.slice a1 y1.1.length cc1,.int .i64 y2.1]).toArray) b))
 replace q1:=rBytesW_lawful.mono (rBytesW_lawful.keep q1 kS (fun b hb e=>by have:=hb.1;omega)) (fun b hb=>(⟨by have:=hb.1;omega,Nat.lt_of_lt_of_le hb.2 kS.size⟩:jai w (w3.setRow (w.heap.size+1) (jal [.slice a0 y0.1.length cc0,.slice a1 y1.1.length cc1,.int .i64 y2.1]).toArray) b))
 have HE:jb1 s=(⟨y0.1,y1.1,y2.1⟩,y2.2):=by simp only[jb1,hy0.out,hy1.out,hy2.out]
 rw[HE]
 refine⟨_,rfl,⟨[_],[_],[_],by simp[jal,Value.cells],q0,q1,⟨rfl,wf2.out⟩⟩,HJO.out,hr.keep kS (by omega) (fun b hb e=>by have:=hpl b hb;omega),kk.then kS (fun i hi e=>by omega)⟩
end
theorem jpx(a:Act)(dst:Option Tmp)(parts:Array (Nat×Operand))(ty:TypeId)(pos:String)(after:Array Edge)(guard:Option (Nat×Bool)):execOp a.eval {dst:=dst,op:=.buildSlice 33 1 parts,type:=ty,pos:=pos,after:=after,guard:=guard}=jcC 33 1 (parts.map fun x=>(x.1,a.eval x.2)):=rfl
attribute [local go_sem ↓] jpx
set_option maxRecDepth 100000 in
set_option maxHeartbeats 4000000 in
theorem jog(rd:Nat)(p:Nat→Prop)(s:RdS)(w:World)(h:IsRd w 151 rd p s)(hpl:∀b,p b→b<w.heap.size) :
  Calls Tryz.prog 133 #[.agg #[.pointer (some ⟨rd,0,none⟩)],.func (.func 134) #[.agg #[.pointer (some ⟨rd,0,none⟩)]] #[]] w (jfi (jap jf7) 151 rd p w (jaA jb1 s)):=by
 have hlt:=h.lt
 have h0:=h.nix ((Keep.refl Nix w).alloc (.cells #[.pointer (some ⟨rd,0,none⟩)] 154))
 have row0:RowIs (w.alloc (.cells #[.pointer (some ⟨rd,0,none⟩)] 154)) w.heap.size 154 [.pointer (some ⟨rd,0,none⟩)]:=RowIs.alloc w _ _
 have hle:=jcc 5000 s
 clear h
 go_enter Tryz.func133,Tryz.ntmps133
 go_wp2_with fail
 go_fit (jci rd p s _ h0 5000 (by unfold jae;omega))
 rintro e w1 ⟨rfl,h1,k1⟩
 have row1:=row0.keep k1 (by omega)
 have kk1:Keep (·=rd) w w1:=((Keep.refl (·=rd) w).alloc (.cells #[.pointer (some ⟨rd,0,none⟩)] 154)).trans (k1.mono fun _ h=>h)
 have HP:Hid (jaA jb1 s=jan jb1 (numS (5000:Int).toNat s).1 (numS (5000:Int).toNat s).2):=rfl
 have hle':(numS (5000:Int).toNat s).1≤5000:=hle
 clear h0 row0 k1 hle
 generalize numS (5000:Int).toNat s=N at h1 HP hle' ⊢
 go_wp2_with fail
 go_loopw [5,6] (fun l n wr=>∃(xs:List GPair) (css:List (List Value)) (m:Nat) (s':RdS) (a:Option Addr) (cap:Nat),l=.slice a xs.length cap∧n=.int .i64 m∧Hid (jan jb1 N.1 N.2=(xs ++ (jan jb1 m s').1,(jan jb1 m s').2))∧
   wr.ownsRow (w.heap.size+1) 114 3 (.slice a xs.length cap) xs.length css.flatten∧Els jf7 wr (fun b=>jai w wr b∧¬OwnB (.slice a xs.length cap) b) css xs∧IsRd wr 151 rd p s'∧RowIs wr w.heap.size 154 [.pointer (some ⟨rd,0,none⟩)]∧Keep (·=rd) w wr∧xs.length+m≤5000) (fun _ n _=>(intOf n).toNat)
 case atStart=>exact⟨[],[],N.1,N.2,none,0,rfl,rfl,rfl,World.ownsRow_nil _ _ _ _,Els.nil _ _ _,h1,row1,kk1,by simpa using hle'⟩
 case round=>
  clear h1 row1 kk1 hle'
  obtain⟨xs,css,m,s',a,cap,rfl,rfl,hp,own,els,hr,row,kk,hm⟩:=hrel
  have x0:wr.cell? ⟨w.heap.size,0,none⟩=some (.pointer (some ⟨rd,0,none⟩)):=row.cell 0
  have hfar:xs.length≤far:=by unfold far;omega
  by_cases hm0:m=0
  ·subst hm0
   clear hm
   go_wp2_with fail
   go_ret
   refine⟨_,rfl,?_,?_,kk⟩
   ·rw[HP.out,hp.out];exact Els.list (Nat.le_succ _) own els wGPair_lawful (by simp[jan]) hfar
   ·rw[HP.out,hp.out];exact hr
  ·obtain⟨m,rfl⟩:∃m',m=m'+1:=⟨m - 1,by omega⟩
   have hpos:(0:Int)<((m+1:Nat):Int):=by omega
   clear hm0
   go_wp2_with fail
   go_fit (jey rd p s' wr hr)
   rintro e w2 ⟨rfl,k2⟩
   have own2:=jad own k2 (fun _ _ h=>h)
   have els2:=(els.keep wGPair_lawful (k2.nix (S:=(·=rd))) (fun b hb e=>by have:=hb.1.1;omega)).mono (q:=fun b=>jai w w2 b∧¬OwnB (.slice a xs.length cap) b) wGPair_lawful (fun b hb=>⟨⟨hb.1.1,Nat.lt_of_lt_of_le hb.1.2 k2.size⟩,hb.2⟩)
   have hr2:=hr.nix k2
   have row2:=row.keep k2 (fun h=>h)
   have kk2:Keep (·=rd) w w2:=kk.trans (k2.nix)
   have hwr:=kk.size
   have hsz2:=k2.size
   clear own els hr row kk x0
   have x0:w2.cell? ⟨w.heap.size,0,none⟩=some (.pointer (some ⟨rd,0,none⟩)):=row2.cell 0
   rcases jbH s'.e 0 with⟨ht,he⟩ | ⟨ht,he⟩
   ·go_wp2_with fail
    go_fit (jpr rd p s' w2 hr2 (fun b hb=>Nat.lt_of_lt_of_le (hpl b hb) (by omega)))
    rintro e w3 ⟨c,rfl,hc,h1c,hr3,k3⟩
    have hlc:=wGPair_lawful.len hc
    have hls:=jb3 (P:=Tryz.prog) jkU (by decide) c hlc w3
    have own3:=jad own2 k3 (fun b hb e=>by have:=(own2.lt b hb).1;omega)
    have row3:=row2.keep k3 (by omega)
    have kk3:=kk2.trans k3
    have hB:=row3.lt
    have hsz3:=k3.size
    have hol:∀b,OwnB (.slice a xs.length cap) b→b<w2.heap.size:=fun b hb=>(own2.lt b hb).2
    have hlen:=xs.length
    have hHP:Hid (jan jb1 (m+1) s'=((jb1 s').1 :: (jan jb1 m (jb1 s').2).1,(jan jb1 m (jb1 s').2).2)):=by show _=_;rw[jan,if_pos he.out]
    clear own2 hr2 row2 kk2 x0 hlen
    go_wp2_with (at_builtin;refine jbi jkU rfl (.tmp 20) (.tmp 23) rfl (w.heap.size+1) rfl own3 rfl ?c0 ?c1 ?c2 ?c3 ?c4 ?_)
    case c0=>simpa using hlc
    case c1=>first | (simpa [ones] using h1c) | (intro u hu;exact(List.all_eq_true.1 h1c) u (by simpa using hu))
    case c2=>unfold maxLen;omega
    case c3=>omega
    case c4=>omega
    intro a' cap' w4 own4 k4 jax
    have els4:=els2.push wGPair_lawful hc k3 k4 hlt (by omega) hol jax
    have row4:RowIs w4 w.heap.size 154 [.pointer (some ⟨rd,0,none⟩)]:=row3.keep k4 (fun hb=>by have:=hol _ hb;have:=(own3.lt _ hb).1;omega)
    have hr4:IsRd w4 151 rd p (jb1 s').2:=hr3.keep k4 (fun hb=>by have:=(own3.lt _ hb).1;omega) (fun b hb hb2=>by have:=(own3.lt _ hb2).1;have:=hpl b hb;omega)
    have kk4:Keep (·=rd) w w4:=kk3.then k4 (fun i hi hb=>by have:=(own3.lt _ hb).1;omega)
    clear own3 els2 row3 hr3 kk3 k3 k4 jax
    go_wp2
    go_roundw
    case rel=>exact⟨xs ++ [(jb1 s').1],css ++ [c],m,(jb1 s').2,a',cap',by simp,by go_num,by show _=_;rw[hp.out,hHP.out];simp,by simpa using own4,by simpa using els4,hr4,row4,kk4,by simp;omega⟩
    case measure=>simp[intOf] <;> omega
   ·go_wp2_with fail
    go_ret
    have hHP:jan jb1 (m+1) s'=([],s'):=by rw[jan,if_neg he]
    refine⟨_,rfl,?_,?_,kk2⟩
    ·rw[HP.out,hp.out,hHP];exact Els.list (Nat.le_succ _) own2 els2 wGPair_lawful (by simp) hfar
    ·rw[HP.out,hp.out,hHP];exact hr2
section
end
theorem jon(a:Act)(dst:Option Tmp)(parts:Array (Nat×Operand))(ty:TypeId)(pos:String)(after:Array Edge)(guard:Option (Nat×Bool)):execOp a.eval {dst:=dst,op:=.buildSlice 35 1 parts,type:=ty,pos:=pos,after:=after,guard:=guard}=jcC 35 1 (parts.map fun x=>(x.1,a.eval x.2)):=rfl
attribute [local go_sem ↓] jon
section
end
section
end
theorem jpy(a:Act)(dst:Option Tmp)(parts:Array (Nat×Operand))(ty:TypeId)(pos:String)(after:Array Edge)(guard:Option (Nat×Bool)):execOp a.eval {dst:=dst,op:=.buildSlice 34 1 parts,type:=ty,pos:=pos,after:=after,guard:=guard}=jcC 34 1 (parts.map fun x=>(x.1,a.eval x.2)):=rfl
attribute [local go_sem ↓] jpy
def jbf:Ps GOwner:=fun s0=>
 let a0:=pInt s0
 let a1:=jaF a0.2
 (⟨a0.1,a1.1⟩,a1.2)
theorem jnK(a:Act)(dst:Option Tmp)(ty:TypeId)(pos:String)(after:Array Edge)(guard:Option (Nat×Bool))(parts:Array (Nat×Operand)):execOp a.eval {dst:=dst,op:=.build 97 parts,type:=ty,pos:=pos,after:=after,guard:=guard}=jcJ 97 (parts.map fun x=>(x.1,a.eval x.2)):=rfl
theorem joC(a:Act)(dst:Option Tmp)(ty:TypeId)(pos:String)(after:Array Edge)(guard:Option (Nat×Bool))(x y:Operand):execOp a.eval {dst:=dst,op:=.store 97 x y,type:=ty,pos:=pos,after:=after,guard:=guard}=jbm 97 (a.eval x) (a.eval y):=rfl
section
attribute [local go_sem ↓] jnK joC
set_option maxRecDepth 100000 in
set_option maxHeartbeats 8000000 in
theorem joc(rd:Nat)(p:Nat→Prop)(s:RdS)(w:World)(h:IsRd w 151 rd p s)(hpl:∀b,p b→b<w.heap.size) :
  Calls Tryz.prog 193 #[.agg #[.pointer (some ⟨rd,0,none⟩)]] w (jfh jeK 151 rd p w (jbf s)):=by
 have hlt:=h.lt
 have hmf:∀(fn:Fn) (first cap:Array Value) (w:World),(Instr.makeFunc fn first cap).run Tryz.prog w=.ok (.func fn first cap) w:=fun _ _ _ _=>rfl
 have hsz:(w.alloc (.cells #[.pointer (some ⟨rd,0,none⟩)] 154)).heap.size=w.heap.size+1:=by simp
 have rowB:RowIs ((w.alloc (.cells #[.pointer (some ⟨rd,0,none⟩)] 154)).alloc (.cells #[.int .i64 0,.slice none 0 0] 97)) w.heap.size 154 [.pointer (some ⟨rd,0,none⟩)]:=(RowIs.alloc w _ _).keep ((Keep.refl Nix _).alloc _) id
 have rowR:RowIs ((w.alloc (.cells #[.pointer (some ⟨rd,0,none⟩)] 154)).alloc (.cells #[.int .i64 0,.slice none 0 0] 97)) (w.heap.size+1) 97 [.int .i64 0,.slice none 0 0]:=by
  rw[←hsz]
  exact RowIs.alloc (w.alloc (.cells #[.pointer (some ⟨rd,0,none⟩)] 154)) _ _
 have hr:=h.nix (((Keep.refl Nix w).alloc (.cells #[.pointer (some ⟨rd,0,none⟩)] 154)).alloc (.cells #[.int .i64 0,.slice none 0 0] 97))
 have kk:Keep (·=rd) w ((w.alloc (.cells #[.pointer (some ⟨rd,0,none⟩)] 154)).alloc (.cells #[.int .i64 0,.slice none 0 0] 97)):=((Keep.refl (·=rd) w).alloc _).alloc _
 clear h hsz
 replace rowB:=rowB.same (w':=((w.alloc (.cells #[.pointer (some ⟨rd,0,none⟩)] 154)).alloc (.cells #[.int .i64 0,.slice none 0 0] 97)).drew)
 replace rowR:=rowR.same (w':=((w.alloc (.cells #[.pointer (some ⟨rd,0,none⟩)] 154)).alloc (.cells #[.int .i64 0,.slice none 0 0] 97)).drew)
 replace hr:=hr.same (w':=((w.alloc (.cells #[.pointer (some ⟨rd,0,none⟩)] 154)).alloc (.cells #[.int .i64 0,.slice none 0 0] 97)).drew)
 replace kk:=kk.drew
 go_enter Tryz.func193,Tryz.ntmps193
 go_wp2_with fail
 refine wp_region_held_drew (S:=(fun w'=>w'.cell? ⟨w.heap.size,0,none⟩=some (.pointer (some ⟨rd,0,none⟩)))) (by kernel_rfl) (rowB.cell 0) (fun jaa=>?_)
 refine tk 0 rfl jaa ?_
 refine tk 2 rfl jaa ?_
 refine wpAnyH_ready (rs:=[1]) (by kernel_rfl) (by simp) ?_
 refine AllReadyH.cons rfl (fun K hK=>?_) AllReadyH.nil
 go_simp
 go_fit (jc8 rd p _ _ hr)
 rintro e w1 ⟨rfl,hr',k0⟩
 have wf0:Hid ((Lit.int .i64 (pInt s).1).wf=true):=jc9 (jbt maxU _)
 generalize hy0:pInt s=y0 at hr' wf0 ⊢
 replace hy0:=Lib.hid hy0
 have rowRl:=rowR.lt
 replace rowB:=rowB.keep k0 (by omega)
 replace rowR:=rowR.keep k0 (by omega)
 replace kk:=kk.trans k0
 replace hr:=hr'
 clear hr' k0 rowRl
 go_wp2_with fail
 refine hK.out _ _ (rowB.cell 0) (fun jaa=>?_)
 clear hK K
 try simp only[Act.put,zz1,zz2,zz3,zz4,zz5,zz6]
 refine wpAnyH_ready (rs:=[3]) (by kernel_rfl) (by simp) ?_
 refine AllReadyH.cons rfl (fun K hK=>?_) AllReadyH.nil
 go_simp
 go_fit (jeY rd p _ _ hr)
 rintro e w2 ⟨v,rfl,q1,hr',k1⟩
 generalize hy1:jaF y0.2=y1 at hr' q1
 replace hy1:=Lib.hid hy1
 obtain⟨a1,cc1,hv,q1'⟩:=jed q1
 simp only[List.cons.injEq,and_true]at hv
 subst hv
 clear q1
 have q1:=q1'
 clear q1'
 have rowRl:=rowR.lt
 replace rowB:=rowB.keep k1 (by omega)
 replace rowR:=rowR.keep k1 (by omega)
 have hRl:=rowRl
 replace kk:=kk.trans k1
 replace q1:=rBytesW_lawful.mono q1 (fun b hb=>(⟨by have:=hb.1;omega,hb.2⟩:jb5 (w.heap.size+2) w2 b))
 clear hRl
 replace hr:=hr'
 clear hr' k1 rowRl
 go_wp2_with fail
 refine hK.out _ _ (rowB.cell 0) (fun jaa=>?_)
 clear hK K
 try simp only[Act.put,zz1,zz2,zz3,zz4,zz5,zz6]
 have hbd:=fun w'=>jcZ (P:=Tryz.prog) joT [.int .i64 y0.1,.slice a1 y1.1.length cc1] (by simp only[List.map_cons,List.map_nil,jbJ,jb8]) w'
 simp only[jbX,Nat.reduceAdd]at hbd
 refine tk 4 rfl jaa ?_
 refine wpAnyH_ready (rs:=[5]) (by kernel_rfl) (by simp) ?_
 refine AllReadyH.cons rfl (fun K hK=>?_) AllReadyH.nil
 have hjl:(jal [.int .i64 y0.1,.slice a1 y1.1.length cc1]).length=2:=by simp only[jbN,jcn,jbJ,jb8]
 have hjo:ones (jal [.int .i64 y0.1,.slice a1 y1.1.length cc1])=true:=by simp only[jcz,jcr,jdy,jdf,Bool.and_self]
 have hst:=jaf (P:=Tryz.prog) S_Owner rowR rfl hjl hjo
 have rowF:=rowR.setRow (jal [.int .i64 y0.1,.slice a1 y1.1.length cc1])
 have kS:=(Keep.refl (·=w.heap.size+1) w2).setRow (fun _=>rfl) (jal [.int .i64 y0.1,.slice a1 y1.1.length cc1]).toArray
 replace rowB:=rowB.keep kS (by omega)
 have HJL:=Lib.hid hjl
 have HJO:=Lib.hid hjo
 clear hjl hjo
 try simp only[zz1,zz2,zz3]
 go_simp
 clear hst
 refine hK.out _ _ (rowB.cell 0) (fun jaa=>?_)
 clear hK K
 try simp only[Act.put,zz1,zz2,zz3,zz4,zz5,zz6]
 refine wpAnyH_done (by kernel_rfl) ?_ _
 clear hbd hmf jaa
 go_wp2_with fail
 have hinfo:(Tryz.prog.info? 97).map (·.size)=some (jal [.int .i64 y0.1,.slice a1 y1.1.length cc1]).toArray.size:=by rw[List.size_toArray,HJL.out];exact S_Owner.info
 refine bodyPost_ret (results_cell_row (by rfl) _ _ _ _ _ _ _ (by rfl) rowF Tryz.underlying97 (by rfl) hinfo) rfl ?_
 replace q1:=rBytesW_lawful.mono (rBytesW_lawful.keep q1 kS (fun b hb e=>by have:=hb.1;omega)) (fun b hb=>(⟨by have:=hb.1;omega,Nat.lt_of_lt_of_le hb.2 kS.size⟩:jai w (w2.setRow (w.heap.size+1) (jal [.int .i64 y0.1,.slice a1 y1.1.length cc1]).toArray) b))
 have HE:jbf s=(⟨y0.1,y1.1⟩,y1.2):=by simp only[jbf,hy0.out,hy1.out]
 rw[HE]
 refine⟨_,rfl,⟨[_],[_],by simp[jal,Value.cells],⟨rfl,wf0.out⟩,q1⟩,HJO.out,hr.keep kS (by omega) (fun b hb e=>by have:=hpl b hb;omega),kk.then kS (fun i hi e=>by omega)⟩
end
theorem jol(a:Act)(dst:Option Tmp)(parts:Array (Nat×Operand))(ty:TypeId)(pos:String)(after:Array Edge)(guard:Option (Nat×Bool)):execOp a.eval {dst:=dst,op:=.buildSlice 51 1 parts,type:=ty,pos:=pos,after:=after,guard:=guard}=jcC 51 1 (parts.map fun x=>(x.1,a.eval x.2)):=rfl
attribute [local go_sem ↓] jol
set_option maxRecDepth 100000 in
set_option maxHeartbeats 4000000 in
theorem jmD(rd:Nat)(p:Nat→Prop)(s:RdS)(w:World)(h:IsRd w 151 rd p s)(hpl:∀b,p b→b<w.heap.size) :
  Calls Tryz.prog 192 #[.agg #[.pointer (some ⟨rd,0,none⟩)],.func (.func 193) #[.agg #[.pointer (some ⟨rd,0,none⟩)]] #[]] w (jfi (jap jeK) 151 rd p w (jaA jbf s)):=by
 have hlt:=h.lt
 have h0:=h.nix ((Keep.refl Nix w).alloc (.cells #[.pointer (some ⟨rd,0,none⟩)] 154))
 have row0:RowIs (w.alloc (.cells #[.pointer (some ⟨rd,0,none⟩)] 154)) w.heap.size 154 [.pointer (some ⟨rd,0,none⟩)]:=RowIs.alloc w _ _
 have hle:=jcc 5000 s
 clear h
 go_enter Tryz.func192,Tryz.ntmps192
 go_wp2_with fail
 go_fit (jci rd p s _ h0 5000 (by unfold jae;omega))
 rintro e w1 ⟨rfl,h1,k1⟩
 have row1:=row0.keep k1 (by omega)
 have kk1:Keep (·=rd) w w1:=((Keep.refl (·=rd) w).alloc (.cells #[.pointer (some ⟨rd,0,none⟩)] 154)).trans (k1.mono fun _ h=>h)
 have HP:Hid (jaA jbf s=jan jbf (numS (5000:Int).toNat s).1 (numS (5000:Int).toNat s).2):=rfl
 have hle':(numS (5000:Int).toNat s).1≤5000:=hle
 clear h0 row0 k1 hle
 generalize numS (5000:Int).toNat s=N at h1 HP hle' ⊢
 go_wp2_with fail
 go_loopw [5,6] (fun l n wr=>∃(xs:List GOwner) (css:List (List Value)) (m:Nat) (s':RdS) (a:Option Addr) (cap:Nat),l=.slice a xs.length cap∧n=.int .i64 m∧Hid (jan jbf N.1 N.2=(xs ++ (jan jbf m s').1,(jan jbf m s').2))∧
   wr.ownsRow (w.heap.size+1) 97 2 (.slice a xs.length cap) xs.length css.flatten∧Els jeK wr (fun b=>jai w wr b∧¬OwnB (.slice a xs.length cap) b) css xs∧IsRd wr 151 rd p s'∧RowIs wr w.heap.size 154 [.pointer (some ⟨rd,0,none⟩)]∧Keep (·=rd) w wr∧xs.length+m≤5000) (fun _ n _=>(intOf n).toNat)
 case atStart=>exact⟨[],[],N.1,N.2,none,0,rfl,rfl,rfl,World.ownsRow_nil _ _ _ _,Els.nil _ _ _,h1,row1,kk1,by simpa using hle'⟩
 case round=>
  clear h1 row1 kk1 hle'
  obtain⟨xs,css,m,s',a,cap,rfl,rfl,hp,own,els,hr,row,kk,hm⟩:=hrel
  have x0:wr.cell? ⟨w.heap.size,0,none⟩=some (.pointer (some ⟨rd,0,none⟩)):=row.cell 0
  have hfar:xs.length≤far:=by unfold far;omega
  by_cases hm0:m=0
  ·subst hm0
   clear hm
   go_wp2_with fail
   go_ret
   refine⟨_,rfl,?_,?_,kk⟩
   ·rw[HP.out,hp.out];exact Els.list (Nat.le_succ _) own els wGOwner_lawful (by simp[jan]) hfar
   ·rw[HP.out,hp.out];exact hr
  ·obtain⟨m,rfl⟩:∃m',m=m'+1:=⟨m - 1,by omega⟩
   have hpos:(0:Int)<((m+1:Nat):Int):=by omega
   clear hm0
   go_wp2_with fail
   go_fit (jey rd p s' wr hr)
   rintro e w2 ⟨rfl,k2⟩
   have own2:=jad own k2 (fun _ _ h=>h)
   have els2:=(els.keep wGOwner_lawful (k2.nix (S:=(·=rd))) (fun b hb e=>by have:=hb.1.1;omega)).mono (q:=fun b=>jai w w2 b∧¬OwnB (.slice a xs.length cap) b) wGOwner_lawful (fun b hb=>⟨⟨hb.1.1,Nat.lt_of_lt_of_le hb.1.2 k2.size⟩,hb.2⟩)
   have hr2:=hr.nix k2
   have row2:=row.keep k2 (fun h=>h)
   have kk2:Keep (·=rd) w w2:=kk.trans (k2.nix)
   have hwr:=kk.size
   have hsz2:=k2.size
   clear own els hr row kk x0
   have x0:w2.cell? ⟨w.heap.size,0,none⟩=some (.pointer (some ⟨rd,0,none⟩)):=row2.cell 0
   rcases jbH s'.e 0 with⟨ht,he⟩ | ⟨ht,he⟩
   ·go_wp2_with fail
    go_fit (joc rd p s' w2 hr2 (fun b hb=>Nat.lt_of_lt_of_le (hpl b hb) (by omega)))
    rintro e w3 ⟨c,rfl,hc,h1c,hr3,k3⟩
    have hlc:=wGOwner_lawful.len hc
    have hls:=jb3 (P:=Tryz.prog) T_lOwner (by decide) c hlc w3
    have own3:=jad own2 k3 (fun b hb e=>by have:=(own2.lt b hb).1;omega)
    have row3:=row2.keep k3 (by omega)
    have kk3:=kk2.trans k3
    have hB:=row3.lt
    have hsz3:=k3.size
    have hol:∀b,OwnB (.slice a xs.length cap) b→b<w2.heap.size:=fun b hb=>(own2.lt b hb).2
    have hlen:=xs.length
    have hHP:Hid (jan jbf (m+1) s'=((jbf s').1 :: (jan jbf m (jbf s').2).1,(jan jbf m (jbf s').2).2)):=by show _=_;rw[jan,if_pos he.out]
    clear own2 hr2 row2 kk2 x0 hlen
    go_wp2_with (at_builtin;refine jbi T_lOwner rfl (.tmp 20) (.tmp 23) rfl (w.heap.size+1) rfl own3 rfl ?c0 ?c1 ?c2 ?c3 ?c4 ?_)
    case c0=>simpa using hlc
    case c1=>first | (simpa [ones] using h1c) | (intro u hu;exact(List.all_eq_true.1 h1c) u (by simpa using hu))
    case c2=>unfold maxLen;omega
    case c3=>omega
    case c4=>omega
    intro a' cap' w4 own4 k4 jax
    have els4:=els2.push wGOwner_lawful hc k3 k4 hlt (by omega) hol jax
    have row4:RowIs w4 w.heap.size 154 [.pointer (some ⟨rd,0,none⟩)]:=row3.keep k4 (fun hb=>by have:=hol _ hb;have:=(own3.lt _ hb).1;omega)
    have hr4:IsRd w4 151 rd p (jbf s').2:=hr3.keep k4 (fun hb=>by have:=(own3.lt _ hb).1;omega) (fun b hb hb2=>by have:=(own3.lt _ hb2).1;have:=hpl b hb;omega)
    have kk4:Keep (·=rd) w w4:=kk3.then k4 (fun i hi hb=>by have:=(own3.lt _ hb).1;omega)
    clear own3 els2 row3 hr3 kk3 k3 k4 jax
    go_wp2
    go_roundw
    case rel=>exact⟨xs ++ [(jbf s').1],css ++ [c],m,(jbf s').2,a',cap',by simp,by go_num,by show _=_;rw[hp.out,hHP.out];simp,by simpa using own4,by simpa using els4,hr4,row4,kk4,by simp;omega⟩
    case measure=>simp[intOf] <;> omega
   ·go_wp2_with fail
    go_ret
    have hHP:jan jbf (m+1) s'=([],s'):=by rw[jan,if_neg he]
    refine⟨_,rfl,?_,?_,kk2⟩
    ·rw[HP.out,hp.out,hHP];exact Els.list (Nat.le_succ _) own2 els2 wGOwner_lawful (by simp) hfar
    ·rw[HP.out,hp.out,hHP];exact hr2
def jcK:Ps GRoutes:=fun s0=>
 let a0:=pInt s0
 let a1:=pInt a0.2
 let a2:=(jaA jbf) a1.2
 let a3:=pInt a2.2
 let a4:=jaF a3.2
 (⟨a0.1,a1.1,a2.1,a3.1,a4.1⟩,a4.2)
theorem jmp(a:Act)(dst:Option Tmp)(ty:TypeId)(pos:String)(after:Array Edge)(guard:Option (Nat×Bool))(parts:Array (Nat×Operand)):execOp a.eval {dst:=dst,op:=.build 53 parts,type:=ty,pos:=pos,after:=after,guard:=guard}=jcJ 53 (parts.map fun x=>(x.1,a.eval x.2)):=rfl
theorem jnq(a:Act)(dst:Option Tmp)(ty:TypeId)(pos:String)(after:Array Edge)(guard:Option (Nat×Bool))(x y:Operand):execOp a.eval {dst:=dst,op:=.store 53 x y,type:=ty,pos:=pos,after:=after,guard:=guard}=jbm 53 (a.eval x) (a.eval y):=rfl
section
attribute [local go_sem ↓] jmp jnq
set_option maxRecDepth 100000 in
set_option maxHeartbeats 8000000 in
theorem jm5(rd:Nat)(p:Nat→Prop)(s:RdS)(w:World)(h:IsRd w 151 rd p s)(hpl:∀b,p b→b<w.heap.size) :
  Calls Tryz.prog 137 #[.agg #[.pointer (some ⟨rd,0,none⟩)]] w (jfh jfd 151 rd p w (jcK s)):=by
 have hlt:=h.lt
 have hmf:∀(fn:Fn) (first cap:Array Value) (w:World),(Instr.makeFunc fn first cap).run Tryz.prog w=.ok (.func fn first cap) w:=fun _ _ _ _=>rfl
 have hsz:(w.alloc (.cells #[.pointer (some ⟨rd,0,none⟩)] 154)).heap.size=w.heap.size+1:=by simp
 have rowB:RowIs ((w.alloc (.cells #[.pointer (some ⟨rd,0,none⟩)] 154)).alloc (.cells #[.int .i64 0,.int .i64 0,.slice none 0 0,.int .i64 0,.slice none 0 0] 53)) w.heap.size 154 [.pointer (some ⟨rd,0,none⟩)]:=(RowIs.alloc w _ _).keep ((Keep.refl Nix _).alloc _) id
 have rowR:RowIs ((w.alloc (.cells #[.pointer (some ⟨rd,0,none⟩)] 154)).alloc (.cells #[.int .i64 0,.int .i64 0,.slice none 0 0,.int .i64 0,.slice none 0 0] 53)) (w.heap.size+1) 53 [.int .i64 0,.int .i64 0,.slice none 0 0,.int .i64 0,.slice none 0 0]:=by
  rw[←hsz]
  exact RowIs.alloc (w.alloc (.cells #[.pointer (some ⟨rd,0,none⟩)] 154)) _ _
 have hr:=h.nix (((Keep.refl Nix w).alloc (.cells #[.pointer (some ⟨rd,0,none⟩)] 154)).alloc (.cells #[.int .i64 0,.int .i64 0,.slice none 0 0,.int .i64 0,.slice none 0 0] 53))
 have kk:Keep (·=rd) w ((w.alloc (.cells #[.pointer (some ⟨rd,0,none⟩)] 154)).alloc (.cells #[.int .i64 0,.int .i64 0,.slice none 0 0,.int .i64 0,.slice none 0 0] 53)):=((Keep.refl (·=rd) w).alloc _).alloc _
 clear h hsz
 replace rowB:=rowB.same (w':=((w.alloc (.cells #[.pointer (some ⟨rd,0,none⟩)] 154)).alloc (.cells #[.int .i64 0,.int .i64 0,.slice none 0 0,.int .i64 0,.slice none 0 0] 53)).drew)
 replace rowR:=rowR.same (w':=((w.alloc (.cells #[.pointer (some ⟨rd,0,none⟩)] 154)).alloc (.cells #[.int .i64 0,.int .i64 0,.slice none 0 0,.int .i64 0,.slice none 0 0] 53)).drew)
 replace hr:=hr.same (w':=((w.alloc (.cells #[.pointer (some ⟨rd,0,none⟩)] 154)).alloc (.cells #[.int .i64 0,.int .i64 0,.slice none 0 0,.int .i64 0,.slice none 0 0] 53)).drew)
 replace kk:=kk.drew
 go_enter Tryz.func137,Tryz.ntmps137
 go_wp2_with fail
 refine wp_region_held_drew (S:=(fun w'=>w'.cell? ⟨w.heap.size,0,none⟩=some (.pointer (some ⟨rd,0,none⟩)))) (by kernel_rfl) (rowB.cell 0) (fun jaa=>?_)
 refine tk 0 rfl jaa ?_
 refine tk 2 rfl jaa ?_
 refine tk 4 rfl jaa ?_
 refine tk 5 rfl jaa ?_
 refine tk 6 rfl jaa ?_
 refine tk 8 rfl jaa ?_
 refine tk 10 rfl jaa ?_
 refine wpAnyH_ready (rs:=[1]) (by kernel_rfl) (by simp) ?_
 refine AllReadyH.cons rfl (fun K hK=>?_) AllReadyH.nil
 go_simp
 go_fit (jc8 rd p _ _ hr)
 rintro e w1 ⟨rfl,hr',k0⟩
 have wf0:Hid ((Lit.int .i64 (pInt s).1).wf=true):=jc9 (jbt maxU _)
 generalize hy0:pInt s=y0 at hr' wf0 ⊢
 replace hy0:=Lib.hid hy0
 have rowRl:=rowR.lt
 replace rowB:=rowB.keep k0 (by omega)
 replace rowR:=rowR.keep k0 (by omega)
 replace kk:=kk.trans k0
 replace hr:=hr'
 clear hr' k0 rowRl
 go_wp2_with fail
 refine hK.out _ _ (rowB.cell 0) (fun jaa=>?_)
 clear hK K
 try simp only[Act.put,zz1,zz2,zz3,zz4,zz5,zz6]
 refine wpAnyH_ready (rs:=[3]) (by kernel_rfl) (by simp) ?_
 refine AllReadyH.cons rfl (fun K hK=>?_) AllReadyH.nil
 go_simp
 go_fit (jc8 rd p _ _ hr)
 rintro e w2 ⟨rfl,hr',k1⟩
 have wf1:Hid ((Lit.int .i64 (pInt y0.2).1).wf=true):=jc9 (jbt maxU _)
 generalize hy1:pInt y0.2=y1 at hr' wf1 ⊢
 replace hy1:=Lib.hid hy1
 have rowRl:=rowR.lt
 replace rowB:=rowB.keep k1 (by omega)
 replace rowR:=rowR.keep k1 (by omega)
 replace kk:=kk.trans k1
 replace hr:=hr'
 clear hr' k1 rowRl
 go_wp2_with fail
 refine hK.out _ _ (rowB.cell 0) (fun jaa=>?_)
 clear hK K
 try simp only[Act.put,zz1,zz2,zz3,zz4,zz5,zz6]
 refine wpAnyH_ready (rs:=[7]) (by kernel_rfl) (by simp) ?_
 refine AllReadyH.cons rfl (fun K hK=>?_) AllReadyH.nil
 go_simp
 go_fit (jmD rd p _ _ hr (fun b hb=>Nat.lt_of_lt_of_le (hpl b hb) kk.size))
 rintro e w3 ⟨v,rfl,q2,hr',k2⟩
 generalize hy2:(jaA jbf) y1.2=y2 at hr' q2
 replace hy2:=Lib.hid hy2
 obtain⟨a2,cc2,hv,q2'⟩:=jba q2
 simp only[List.cons.injEq,and_true]at hv
 subst hv
 clear q2
 have q2:=q2'
 clear q2'
 have rowRl:=rowR.lt
 replace rowB:=rowB.keep k2 (by omega)
 replace rowR:=rowR.keep k2 (by omega)
 have hRl:=rowRl
 replace kk:=kk.trans k2
 replace q2:=(jac wGOwner_lawful).mono q2 (fun b hb=>(⟨by have:=hb.1;omega,hb.2⟩:jb5 (w.heap.size+2) w3 b))
 clear hRl
 replace hr:=hr'
 clear hr' k2 rowRl
 go_wp2_with fail
 refine hK.out _ _ (rowB.cell 0) (fun jaa=>?_)
 clear hK K
 try simp only[Act.put,zz1,zz2,zz3,zz4,zz5,zz6]
 refine wpAnyH_ready (rs:=[9]) (by kernel_rfl) (by simp) ?_
 refine AllReadyH.cons rfl (fun K hK=>?_) AllReadyH.nil
 go_simp
 go_fit (jc8 rd p _ _ hr)
 rintro e w4 ⟨rfl,hr',k3⟩
 have wf3:Hid ((Lit.int .i64 (pInt y2.2).1).wf=true):=jc9 (jbt maxU _)
 generalize hy3:pInt y2.2=y3 at hr' wf3 ⊢
 replace hy3:=Lib.hid hy3
 have rowRl:=rowR.lt
 replace q2:=(jac wGOwner_lawful).mono ((jac wGOwner_lawful).keep q2 k3 (fun b hb e=>by have:=hb.1;omega)) (fun b hb=>(⟨hb.1,Nat.lt_of_lt_of_le hb.2 k3.size⟩:jb5 (w.heap.size+2) w4 b))
 replace rowB:=rowB.keep k3 (by omega)
 replace rowR:=rowR.keep k3 (by omega)
 replace kk:=kk.trans k3
 replace hr:=hr'
 clear hr' k3 rowRl
 go_wp2_with fail
 refine hK.out _ _ (rowB.cell 0) (fun jaa=>?_)
 clear hK K
 try simp only[Act.put,zz1,zz2,zz3,zz4,zz5,zz6]
 refine wpAnyH_ready (rs:=[11]) (by kernel_rfl) (by simp) ?_
 refine AllReadyH.cons rfl (fun K hK=>?_) AllReadyH.nil
 go_simp
 go_fit (jeY rd p _ _ hr)
 rintro e w5 ⟨v,rfl,q4,hr',k4⟩
 generalize hy4:jaF y3.2=y4 at hr' q4
 replace hy4:=Lib.hid hy4
 obtain⟨a4,cc4,hv,q4'⟩:=jed q4
 simp only[List.cons.injEq,and_true]at hv
 subst hv
 clear q4
 have q4:=q4'
 clear q4'
 have rowRl:=rowR.lt
 replace q2:=(jac wGOwner_lawful).mono ((jac wGOwner_lawful).keep q2 k4 (fun b hb e=>by have:=hb.1;omega)) (fun b hb=>(⟨hb.1,Nat.lt_of_lt_of_le hb.2 k4.size⟩:jb5 (w.heap.size+2) w5 b))
 replace rowB:=rowB.keep k4 (by omega)
 replace rowR:=rowR.keep k4 (by omega)
 have hRl:=rowRl
 replace kk:=kk.trans k4
 replace q4:=rBytesW_lawful.mono q4 (fun b hb=>(⟨by have:=hb.1;omega,hb.2⟩:jb5 (w.heap.size+2) w5 b))
 clear hRl
 replace hr:=hr'
 clear hr' k4 rowRl
 go_wp2_with fail
 refine hK.out _ _ (rowB.cell 0) (fun jaa=>?_)
 clear hK K
 try simp only[Act.put,zz1,zz2,zz3,zz4,zz5,zz6]
 have hbd:=fun w'=>jcZ (P:=Tryz.prog) jn9 [.int .i64 y0.1,.int .i64 y1.1,.slice a2 y2.1.length cc2,.int .i64 y3.1,.slice a4 y4.1.length cc4] (by simp only[List.map_cons,List.map_nil,jbJ,jb8]) w'
 simp only[jbX,Nat.reduceAdd]at hbd
 refine tk 12 rfl jaa ?_
 refine wpAnyH_ready (rs:=[13]) (by kernel_rfl) (by simp) ?_
 refine AllReadyH.cons rfl (fun K hK=>?_) AllReadyH.nil
 have hjl:(jal [.int .i64 y0.1,.int .i64 y1.1,.slice a2 y2.1.length cc2,.int .i64 y3.1,.slice a4 y4.1.length cc4]).length=5:=by simp only[jbN,jcn,jbJ,jb8]
 have hjo:ones (jal [.int .i64 y0.1,.int .i64 y1.1,.slice a2 y2.1.length cc2,.int .i64 y3.1,.slice a4 y4.1.length cc4])=true:=by simp only[jcz,jcr,jdy,jdf,Bool.and_self]
 have hst:=jaf (P:=Tryz.prog) S_Routes rowR rfl hjl hjo
 have rowF:=rowR.setRow (jal [.int .i64 y0.1,.int .i64 y1.1,.slice a2 y2.1.length cc2,.int .i64 y3.1,.slice a4 y4.1.length cc4])
 have kS:=(Keep.refl (·=w.heap.size+1) w5).setRow (fun _=>rfl) (jal [.int .i64 y0.1,.int .i64 y1.1,.slice a2 y2.1.length cc2,.int .i64 y3.1,.slice a4 y4.1.length cc4]).toArray
 replace rowB:=rowB.keep kS (by omega)
 have HJL:=Lib.hid hjl
 have HJO:=Lib.hid hjo
 clear hjl hjo
 try simp only[zz1,zz2,zz3]
 go_simp
 clear hst
 refine hK.out _ _ (rowB.cell 0) (fun jaa=>?_)
 clear hK K
 try simp only[Act.put,zz1,zz2,zz3,zz4,zz5,zz6]
 refine wpAnyH_done (by kernel_rfl) ?_ _
 clear hbd hmf jaa
 go_wp2_with fail
 have hinfo:(Tryz.prog.info? 53).map (·.size)=some (jal [.int .i64 y0.1,.int .i64 y1.1,.slice a2 y2.1.length cc2,.int .i64 y3.1,.slice a4 y4.1.length cc4]).toArray.size:=by rw[List.size_toArray,HJL.out];exact S_Routes.info
 refine bodyPost_ret (results_cell_row (by rfl) _ _ _ _ _ _ _ (by rfl) rowF Tryz.underlying53 (by rfl) hinfo) rfl ?_
 replace q2:=(jac wGOwner_lawful).mono ((jac wGOwner_lawful).keep q2 kS (fun b hb e=>by have:=hb.1;omega)) (fun b hb=>(⟨by have:=hb.1;omega,Nat.lt_of_lt_of_le hb.2 kS.size⟩:jai w (w5.setRow (w.heap.size+1) (jal [.int .i64 y0.1,.int .i64 y1.1,.slice a2 y2.1.length cc2,.int .i64 y3.1,.slice a4 y4.1.length cc4]).toArray) b))
 replace q4:=rBytesW_lawful.mono (rBytesW_lawful.keep q4 kS (fun b hb e=>by have:=hb.1;omega)) (fun b hb=>(⟨by have:=hb.1;omega,Nat.lt_of_lt_of_le hb.2 kS.size⟩:jai w (w5.setRow (w.heap.size+1) (jal [.int .i64 y0.1,.int .i64 y1.1,.slice a2 y2.1.length cc2,.int .i64 y3.1,.slice a4 y4.1.length cc4]).toArray) b))
 have HE:jcK s=(⟨y0.1,y1.1,y2.1,y3.1,y4.1⟩,y4.2):=by simp only[jcK,hy0.out,hy1.out,hy2.out,hy3.out,hy4.out]
 rw[HE]
 refine⟨_,rfl,⟨[_],[_],[_],[_],[_],by simp[jal,Value.cells],⟨rfl,wf0.out⟩,⟨rfl,wf1.out⟩,q2,⟨rfl,wf3.out⟩,q4⟩,HJO.out,hr.keep kS (by omega) (fun b hb e=>by have:=hpl b hb;omega),kk.then kS (fun i hi e=>by omega)⟩
end
end
section
section
end
def jbE:Ps GReply:=fun s0=>
 let a0:=pInt s0
 let a1:=pNum a0.2
 let a2:=pInt a1.2
 let a3:=jbZ a2.2
 let a4:=(jaA jb1) a3.2
 let a5:=(jaA pNum) a4.2
 let a6:=jbk a5.2
 let a7:=jcK a6.2
 (⟨a0.1,a1.1,a2.1,a3.1,a4.1,a5.1,a6.1,a7.1⟩,a7.2)
theorem jnL(a:Act)(dst:Option Tmp)(ty:TypeId)(pos:String)(after:Array Edge)(guard:Option (Nat×Bool))(parts:Array (Nat×Operand)):execOp a.eval {dst:=dst,op:=.build 55 parts,type:=ty,pos:=pos,after:=after,guard:=guard}=jcJ 55 (parts.map fun x=>(x.1,a.eval x.2)):=rfl
theorem jhj(a:Act)(dst:Option Tmp)(ty:TypeId)(pos:String)(after:Array Edge)(guard:Option (Nat×Bool))(x y:Operand):execOp a.eval {dst:=dst,op:=.store 55 x y,type:=ty,pos:=pos,after:=after,guard:=guard}=jbm 55 (a.eval x) (a.eval y):=rfl
section
attribute [local go_sem ↓] jnL jhj
set_option maxRecDepth 100000 in
set_option maxHeartbeats 8000000 in
theorem jod(rd:Nat)(p:Nat→Prop)(s:RdS)(w:World)(h:IsRd w 151 rd p s)(hpl:∀b,p b→b<w.heap.size) :
  Calls Tryz.prog 83 #[.agg #[.pointer (some ⟨rd,0,none⟩)]] w (jfh jeL 151 rd p w (jbE s)):=by
 have hlt:=h.lt
 have hmf:∀(fn:Fn) (first cap:Array Value) (w:World),(Instr.makeFunc fn first cap).run Tryz.prog w=.ok (.func fn first cap) w:=fun _ _ _ _=>rfl
 have hsz:(w.alloc (.cells #[.pointer (some ⟨rd,0,none⟩)] 154)).heap.size=w.heap.size+1:=by simp
 have rowB:RowIs ((w.alloc (.cells #[.pointer (some ⟨rd,0,none⟩)] 154)).alloc (.cells #[.int .i64 0,.int .u64 0,.int .i64 0,.bool false,.slice none 0 0,.slice none 0 0,.int .i64 0,.int .i64 0,.slice none 0 0,.slice none 0 0,.int .i64 0,.int .i64 0,.slice none 0 0,.int .i64 0,.slice none 0 0] 55)) w.heap.size 154 [.pointer (some ⟨rd,0,none⟩)]:=(RowIs.alloc w _ _).keep ((Keep.refl Nix _).alloc _) id
 have rowR:RowIs ((w.alloc (.cells #[.pointer (some ⟨rd,0,none⟩)] 154)).alloc (.cells #[.int .i64 0,.int .u64 0,.int .i64 0,.bool false,.slice none 0 0,.slice none 0 0,.int .i64 0,.int .i64 0,.slice none 0 0,.slice none 0 0,.int .i64 0,.int .i64 0,.slice none 0 0,.int .i64 0,.slice none 0 0] 55)) (w.heap.size+1) 55 [.int .i64 0,.int .u64 0,.int .i64 0,.bool false,.slice none 0 0,.slice none 0 0,.int .i64 0,.int .i64 0,.slice none 0 0,.slice none 0 0,.int .i64 0,.int .i64 0,.slice none 0 0,.int .i64 0,.slice none 0 0]:=by
  rw[←hsz]
  exact RowIs.alloc (w.alloc (.cells #[.pointer (some ⟨rd,0,none⟩)] 154)) _ _
 have hr:=h.nix (((Keep.refl Nix w).alloc (.cells #[.pointer (some ⟨rd,0,none⟩)] 154)).alloc (.cells #[.int .i64 0,.int .u64 0,.int .i64 0,.bool false,.slice none 0 0,.slice none 0 0,.int .i64 0,.int .i64 0,.slice none 0 0,.slice none 0 0,.int .i64 0,.int .i64 0,.slice none 0 0,.int .i64 0,.slice none 0 0] 55))
 have kk:Keep (·=rd) w ((w.alloc (.cells #[.pointer (some ⟨rd,0,none⟩)] 154)).alloc (.cells #[.int .i64 0,.int .u64 0,.int .i64 0,.bool false,.slice none 0 0,.slice none 0 0,.int .i64 0,.int .i64 0,.slice none 0 0,.slice none 0 0,.int .i64 0,.int .i64 0,.slice none 0 0,.int .i64 0,.slice none 0 0] 55)):=((Keep.refl (·=rd) w).alloc _).alloc _
 clear h hsz
 replace rowB:=rowB.same (w':=((w.alloc (.cells #[.pointer (some ⟨rd,0,none⟩)] 154)).alloc (.cells #[.int .i64 0,.int .u64 0,.int .i64 0,.bool false,.slice none 0 0,.slice none 0 0,.int .i64 0,.int .i64 0,.slice none 0 0,.slice none 0 0,.int .i64 0,.int .i64 0,.slice none 0 0,.int .i64 0,.slice none 0 0] 55)).drew)
 replace rowR:=rowR.same (w':=((w.alloc (.cells #[.pointer (some ⟨rd,0,none⟩)] 154)).alloc (.cells #[.int .i64 0,.int .u64 0,.int .i64 0,.bool false,.slice none 0 0,.slice none 0 0,.int .i64 0,.int .i64 0,.slice none 0 0,.slice none 0 0,.int .i64 0,.int .i64 0,.slice none 0 0,.int .i64 0,.slice none 0 0] 55)).drew)
 replace hr:=hr.same (w':=((w.alloc (.cells #[.pointer (some ⟨rd,0,none⟩)] 154)).alloc (.cells #[.int .i64 0,.int .u64 0,.int .i64 0,.bool false,.slice none 0 0,.slice none 0 0,.int .i64 0,.int .i64 0,.slice none 0 0,.slice none 0 0,.int .i64 0,.int .i64 0,.slice none 0 0,.int .i64 0,.slice none 0 0] 55)).drew)
 replace kk:=kk.drew
 go_enter Tryz.func83,Tryz.ntmps83
 go_wp2_with fail
 refine wp_region_held_drew (S:=(fun w'=>w'.cell? ⟨w.heap.size,0,none⟩=some (.pointer (some ⟨rd,0,none⟩)))) (by kernel_rfl) (rowB.cell 0) (fun jaa=>?_)
 refine tk 0 rfl jaa ?_
 refine tk 2 rfl jaa ?_
 refine tk 4 rfl jaa ?_
 refine tk 6 rfl jaa ?_
 refine tk 8 rfl jaa ?_
 refine tk 9 rfl jaa ?_
 refine tk 10 rfl jaa ?_
 refine tk 12 rfl jaa ?_
 refine tk 13 rfl jaa ?_
 refine tk 14 rfl jaa ?_
 refine tk 16 rfl jaa ?_
 refine tk 18 rfl jaa ?_
 refine wpAnyH_ready (rs:=[1]) (by kernel_rfl) (by simp) ?_
 refine AllReadyH.cons rfl (fun K hK=>?_) AllReadyH.nil
 go_simp
 go_fit (jc8 rd p _ _ hr)
 rintro e w1 ⟨rfl,hr',k0⟩
 have wf0:Hid ((Lit.int .i64 (pInt s).1).wf=true):=jc9 (jbt maxU _)
 generalize hy0:pInt s=y0 at hr' wf0 ⊢
 replace hy0:=Lib.hid hy0
 have rowRl:=rowR.lt
 replace rowB:=rowB.keep k0 (by omega)
 replace rowR:=rowR.keep k0 (by omega)
 replace kk:=kk.trans k0
 replace hr:=hr'
 clear hr' k0 rowRl
 go_wp2_with fail
 refine hK.out _ _ (rowB.cell 0) (fun jaa=>?_)
 clear hK K
 try simp only[Act.put,zz1,zz2,zz3,zz4,zz5,zz6]
 refine wpAnyH_ready (rs:=[3]) (by kernel_rfl) (by simp) ?_
 refine AllReadyH.cons rfl (fun K hK=>?_) AllReadyH.nil
 go_simp
 go_fit (jne rd p _ _ hr)
 rintro e w2 ⟨rfl,hr',k1⟩
 have wf1:Hid ((Lit.int .u64 (pNum y0.2).1).wf=true):=jmP (jbt maxU _)
 generalize hy1:pNum y0.2=y1 at hr' wf1 ⊢
 replace hy1:=Lib.hid hy1
 have rowRl:=rowR.lt
 replace rowB:=rowB.keep k1 (by omega)
 replace rowR:=rowR.keep k1 (by omega)
 replace kk:=kk.trans k1
 replace hr:=hr'
 clear hr' k1 rowRl
 go_wp2_with fail
 refine hK.out _ _ (rowB.cell 0) (fun jaa=>?_)
 clear hK K
 try simp only[Act.put,zz1,zz2,zz3,zz4,zz5,zz6]
 refine wpAnyH_ready (rs:=[5]) (by kernel_rfl) (by simp) ?_
 refine AllReadyH.cons rfl (fun K hK=>?_) AllReadyH.nil
 go_simp
 go_fit (jc8 rd p _ _ hr)
 rintro e w3 ⟨rfl,hr',k2⟩
 have wf2:Hid ((Lit.int .i64 (pInt y1.2).1).wf=true):=jc9 (jbt maxU _)
 generalize hy2:pInt y1.2=y2 at hr' wf2 ⊢
 replace hy2:=Lib.hid hy2
 have rowRl:=rowR.lt
 replace rowB:=rowB.keep k2 (by omega)
 replace rowR:=rowR.keep k2 (by omega)
 replace kk:=kk.trans k2
 replace hr:=hr'
 clear hr' k2 rowRl
 go_wp2_with fail
 refine hK.out _ _ (rowB.cell 0) (fun jaa=>?_)
 clear hK K
 try simp only[Act.put,zz1,zz2,zz3,zz4,zz5,zz6]
 refine wpAnyH_ready (rs:=[7]) (by kernel_rfl) (by simp) ?_
 refine AllReadyH.cons rfl (fun K hK=>?_) AllReadyH.nil
 go_simp
 go_fit (jg9 rd p _ _ hr)
 rintro e w4 ⟨rfl,hr',k3⟩
 generalize hy3:jbZ y2.2=y3 at hr' ⊢
 replace hy3:=Lib.hid hy3
 have rowRl:=rowR.lt
 replace rowB:=rowB.keep k3 (by omega)
 replace rowR:=rowR.keep k3 (by omega)
 replace kk:=kk.trans k3
 replace hr:=hr'
 clear hr' k3 rowRl
 go_wp2_with fail
 refine hK.out _ _ (rowB.cell 0) (fun jaa=>?_)
 clear hK K
 try simp only[Act.put,zz1,zz2,zz3,zz4,zz5,zz6]
 refine wpAnyH_ready (rs:=[11]) (by kernel_rfl) (by simp) ?_
 refine AllReadyH.cons rfl (fun K hK=>?_) AllReadyH.nil
 go_simp
 go_fit (jog rd p _ _ hr (fun b hb=>Nat.lt_of_lt_of_le (hpl b hb) kk.size))
 rintro e w5 ⟨v,rfl,q4,hr',k4⟩
 generalize hy4:(jaA jb1) y3.2=y4 at hr' q4
 replace hy4:=Lib.hid hy4
 obtain⟨a4,cc4,hv,q4'⟩:=jba q4
 simp only[List.cons.injEq,and_true]at hv
 subst hv
 clear q4
 have q4:=q4'
 clear q4'
 have rowRl:=rowR.lt
 replace rowB:=rowB.keep k4 (by omega)
 replace rowR:=rowR.keep k4 (by omega)
 have hRl:=rowRl
 replace kk:=kk.trans k4
 replace q4:=(jac wGPair_lawful).mono q4 (fun b hb=>(⟨by have:=hb.1;omega,hb.2⟩:jb5 (w.heap.size+2) w5 b))
 clear hRl
 replace hr:=hr'
 clear hr' k4 rowRl
 go_wp2_with fail
 refine hK.out _ _ (rowB.cell 0) (fun jaa=>?_)
 clear hK K
 try simp only[Act.put,zz1,zz2,zz3,zz4,zz5,zz6]
 refine wpAnyH_ready (rs:=[15]) (by kernel_rfl) (by simp) ?_
 refine AllReadyH.cons rfl (fun K hK=>?_) AllReadyH.nil
 go_simp
 go_fit (jpu rd p _ _ hr (fun b hb=>Nat.lt_of_lt_of_le (hpl b hb) kk.size))
 rintro e w6 ⟨v,rfl,q5,hr',k5⟩
 generalize hy5:(jaA pNum) y4.2=y5 at hr' q5
 replace hy5:=Lib.hid hy5
 obtain⟨a5,cc5,hv,q5'⟩:=jba q5
 simp only[List.cons.injEq,and_true]at hv
 subst hv
 clear q5
 have q5:=q5'
 clear q5'
 have rowRl:=rowR.lt
 replace q4:=(jac wGPair_lawful).mono ((jac wGPair_lawful).keep q4 k5 (fun b hb e=>by have:=hb.1;omega)) (fun b hb=>(⟨hb.1,Nat.lt_of_lt_of_le hb.2 k5.size⟩:jb5 (w.heap.size+2) w6 b))
 replace rowB:=rowB.keep k5 (by omega)
 replace rowR:=rowR.keep k5 (by omega)
 have hRl:=rowRl
 replace kk:=kk.trans k5
 replace q5:=(jac (jab _)).mono q5 (fun b hb=>(⟨by have:=hb.1;omega,hb.2⟩:jb5 (w.heap.size+2) w6 b))
 clear hRl
 replace hr:=hr'
 clear hr' k5 rowRl
 go_wp2_with fail
 refine hK.out _ _ (rowB.cell 0) (fun jaa=>?_)
 clear hK K
 try simp only[Act.put,zz1,zz2,zz3,zz4,zz5,zz6]
 refine wpAnyH_ready (rs:=[17]) (by kernel_rfl) (by simp) ?_
 refine AllReadyH.cons rfl (fun K hK=>?_) AllReadyH.nil
 go_simp
 go_fit (jhu rd p _ _ hr (fun b hb=>Nat.lt_of_lt_of_le (hpl b hb) kk.size))
 rintro e w7 ⟨c6,rfl,q6,ho6,hr',k6⟩
 have hl6:=Lib.hid (wGCatalog_lawful.len q6)
 replace ho6:=Lib.hid ho6
 generalize hy6:jbk y5.2=y6 at hr' q6
 replace hy6:=Lib.hid hy6
 have rowRl:=rowR.lt
 replace q4:=(jac wGPair_lawful).mono ((jac wGPair_lawful).keep q4 k6 (fun b hb e=>by have:=hb.1;omega)) (fun b hb=>(⟨hb.1,Nat.lt_of_lt_of_le hb.2 k6.size⟩:jb5 (w.heap.size+2) w7 b))
 replace q5:=(jac (jab _)).mono ((jac (jab _)).keep q5 k6 (fun b hb e=>by have:=hb.1;omega)) (fun b hb=>(⟨hb.1,Nat.lt_of_lt_of_le hb.2 k6.size⟩:jb5 (w.heap.size+2) w7 b))
 replace rowB:=rowB.keep k6 (by omega)
 replace rowR:=rowR.keep k6 (by omega)
 have hRl:=rowRl
 replace kk:=kk.trans k6
 replace q6:=wGCatalog_lawful.mono q6 (fun b hb=>(⟨by have:=hb.1;omega,hb.2⟩:jb5 (w.heap.size+2) w7 b))
 clear hRl
 replace hr:=hr'
 clear hr' k6 rowRl
 go_wp2_with fail
 refine hK.out _ _ (rowB.cell 0) (fun jaa=>?_)
 clear hK K
 try simp only[Act.put,zz1,zz2,zz3,zz4,zz5,zz6]
 refine wpAnyH_ready (rs:=[19]) (by kernel_rfl) (by simp) ?_
 refine AllReadyH.cons rfl (fun K hK=>?_) AllReadyH.nil
 go_simp
 go_fit (jm5 rd p _ _ hr (fun b hb=>Nat.lt_of_lt_of_le (hpl b hb) kk.size))
 rintro e w8 ⟨c7,rfl,q7,ho7,hr',k7⟩
 have hl7:=Lib.hid (wGRoutes_lawful.len q7)
 replace ho7:=Lib.hid ho7
 generalize hy7:jcK y6.2=y7 at hr' q7
 replace hy7:=Lib.hid hy7
 have rowRl:=rowR.lt
 replace q4:=(jac wGPair_lawful).mono ((jac wGPair_lawful).keep q4 k7 (fun b hb e=>by have:=hb.1;omega)) (fun b hb=>(⟨hb.1,Nat.lt_of_lt_of_le hb.2 k7.size⟩:jb5 (w.heap.size+2) w8 b))
 replace q5:=(jac (jab _)).mono ((jac (jab _)).keep q5 k7 (fun b hb e=>by have:=hb.1;omega)) (fun b hb=>(⟨hb.1,Nat.lt_of_lt_of_le hb.2 k7.size⟩:jb5 (w.heap.size+2) w8 b))
 replace q6:=wGCatalog_lawful.mono (wGCatalog_lawful.keep q6 k7 (fun b hb e=>by have:=hb.1;omega)) (fun b hb=>(⟨hb.1,Nat.lt_of_lt_of_le hb.2 k7.size⟩:jb5 (w.heap.size+2) w8 b))
 replace rowB:=rowB.keep k7 (by omega)
 replace rowR:=rowR.keep k7 (by omega)
 have hRl:=rowRl
 replace kk:=kk.trans k7
 replace q7:=wGRoutes_lawful.mono q7 (fun b hb=>(⟨by have:=hb.1;omega,hb.2⟩:jb5 (w.heap.size+2) w8 b))
 clear hRl
 replace hr:=hr'
 clear hr' k7 rowRl
 go_wp2_with fail
 refine hK.out _ _ (rowB.cell 0) (fun jaa=>?_)
 clear hK K
 try simp only[Act.put,zz1,zz2,zz3,zz4,zz5,zz6]
 have hbd:=fun w'=>jcZ (P:=Tryz.prog) joU [.int .i64 y0.1,.int .u64 y1.1,.int .i64 y2.1,.bool y3.1,.slice a4 y4.1.length cc4,.slice a5 y5.1.length cc5,.agg c6.toArray,.agg c7.toArray] (by simp only[List.map_cons,List.map_nil,jbJ,jdT,jb8,jhf,hl6.out,hl7.out]) w'
 simp only[jbX,Nat.reduceAdd]at hbd
 refine tk 20 rfl jaa ?_
 refine wpAnyH_ready (rs:=[21]) (by kernel_rfl) (by simp) ?_
 refine AllReadyH.cons rfl (fun K hK=>?_) AllReadyH.nil
 have hjl:(jal [.int .i64 y0.1,.int .u64 y1.1,.int .i64 y2.1,.bool y3.1,.slice a4 y4.1.length cc4,.slice a5 y5.1.length cc5,.agg c6.toArray,.agg c7.toArray]).length=15:=by simp only[jbN,jcn,jbJ,jdT,jb8,jhf,hl6.out,hl7.out]
 have hjo:ones (jal [.int .i64 y0.1,.int .u64 y1.1,.int .i64 y2.1,.bool y3.1,.slice a4 y4.1.length cc4,.slice a5 y5.1.length cc5,.agg c6.toArray,.agg c7.toArray])=true:=by simp only[jcz,jcr,jdy,jgg,jdf,jor,ho6.out,ho7.out,Bool.and_self]
 have hst:=jaf (P:=Tryz.prog) S_Reply rowR rfl hjl hjo
 have rowF:=rowR.setRow (jal [.int .i64 y0.1,.int .u64 y1.1,.int .i64 y2.1,.bool y3.1,.slice a4 y4.1.length cc4,.slice a5 y5.1.length cc5,.agg c6.toArray,.agg c7.toArray])
 have kS:=(Keep.refl (·=w.heap.size+1) w8).setRow (fun _=>rfl) (jal [.int .i64 y0.1,.int .u64 y1.1,.int .i64 y2.1,.bool y3.1,.slice a4 y4.1.length cc4,.slice a5 y5.1.length cc5,.agg c6.toArray,.agg c7.toArray]).toArray
 replace rowB:=rowB.keep kS (by omega)
 have HJL:=Lib.hid hjl
 have HJO:=Lib.hid hjo
 clear hjl hjo
 try simp only[zz1,zz2,zz3]
 go_simp
 clear hst
 refine hK.out _ _ (rowB.cell 0) (fun jaa=>?_)
 clear hK K
 try simp only[Act.put,zz1,zz2,zz3,zz4,zz5,zz6]
 refine wpAnyH_done (by kernel_rfl) ?_ _
 clear hbd hmf jaa
 go_wp2_with fail
 have hinfo:(Tryz.prog.info? 55).map (·.size)=some (jal [.int .i64 y0.1,.int .u64 y1.1,.int .i64 y2.1,.bool y3.1,.slice a4 y4.1.length cc4,.slice a5 y5.1.length cc5,.agg c6.toArray,.agg c7.toArray]).toArray.size:=by rw[List.size_toArray,HJL.out];exact S_Reply.info
 refine bodyPost_ret (results_cell_row (by rfl) _ _ _ _ _ _ _ (by rfl) rowF Tryz.underlying55 (by rfl) hinfo) rfl ?_
 replace q4:=(jac wGPair_lawful).mono ((jac wGPair_lawful).keep q4 kS (fun b hb e=>by have:=hb.1;omega)) (fun b hb=>(⟨by have:=hb.1;omega,Nat.lt_of_lt_of_le hb.2 kS.size⟩:jai w (w8.setRow (w.heap.size+1) (jal [.int .i64 y0.1,.int .u64 y1.1,.int .i64 y2.1,.bool y3.1,.slice a4 y4.1.length cc4,.slice a5 y5.1.length cc5,.agg c6.toArray,.agg c7.toArray]).toArray) b))
 replace q5:=(jac (jab _)).mono ((jac (jab _)).keep q5 kS (fun b hb e=>by have:=hb.1;omega)) (fun b hb=>(⟨by have:=hb.1;omega,Nat.lt_of_lt_of_le hb.2 kS.size⟩:jai w (w8.setRow (w.heap.size+1) (jal [.int .i64 y0.1,.int .u64 y1.1,.int .i64 y2.1,.bool y3.1,.slice a4 y4.1.length cc4,.slice a5 y5.1.length cc5,.agg c6.toArray,.agg c7.toArray]).toArray) b))
 replace q6:=wGCatalog_lawful.mono (wGCatalog_lawful.keep q6 kS (fun b hb e=>by have:=hb.1;omega)) (fun b hb=>(⟨by have:=hb.1;omega,Nat.lt_of_lt_of_le hb.2 kS.size⟩:jai w (w8.setRow (w.heap.size+1) (jal [.int .i64 y0.1,.int .u64 y1.1,.int .i64 y2.1,.bool y3.1,.slice a4 y4.1.length cc4,.slice a5 y5.1.length cc5,.agg c6.toArray,.agg c7.toArray]).toArray) b))
 replace q7:=wGRoutes_lawful.mono (wGRoutes_lawful.keep q7 kS (fun b hb e=>by have:=hb.1;omega)) (fun b hb=>(⟨by have:=hb.1;omega,Nat.lt_of_lt_of_le hb.2 kS.size⟩:jai w (w8.setRow (w.heap.size+1) (jal [.int .i64 y0.1,.int .u64 y1.1,.int .i64 y2.1,.bool y3.1,.slice a4 y4.1.length cc4,.slice a5 y5.1.length cc5,.agg c6.toArray,.agg c7.toArray]).toArray) b))
 have HE:jbE s=(⟨y0.1,y1.1,y2.1,y3.1,y4.1,y5.1,y6.1,y7.1⟩,y7.2):=by simp only[jbE,hy0.out,hy1.out,hy2.out,hy3.out,hy4.out,hy5.out,hy6.out,hy7.out]
 rw[HE]
 refine⟨_,rfl,⟨[_],[_],[_],[_],[_],[_],c6,c7,by simp[jal,Value.cells],⟨rfl,wf0.out⟩,⟨rfl,wf1.out⟩,⟨rfl,wf2.out⟩,rfl,q4,q5,q6,q7⟩,HJO.out,hr.keep kS (by omega) (fun b hb e=>by have:=hpl b hb;omega),kk.then kS (fun i hi e=>by omega)⟩
end
end
end Go.Proofs.YtibaehlfpgipfaaGreat
