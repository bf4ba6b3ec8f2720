/- LISTS OF A READER: package wire's items[T]. Printed by gen8.py. -/
import Derived.Test.YtibaehlfpgipfaaGreatQZG3
import Derived.Test.YtibaehlfpgipfaaGreatQZG6
import Derived.Deep.RegionHeld3
namespace Go.Proofs.YtibaehlfpgipfaaGreat
open Go.RowKit
set_option linter.unusedSimpArgs false
def jaR:Ps GColumn:=fun s0=>
 let a0:=jaF s0
 let a1:=pInt a0.2
 let a2:=jbZ a1.2
 (⟨a0.1,a1.1,a2.1⟩,a2.2)
theorem jmo(a:Act)(dst:Option Tmp)(ty:TypeId)(pos:String)(after:Array Edge)(guard:Option (Nat×Bool))(parts:Array (Nat×Operand)):execOp a.eval {dst:=dst,op:=.build 148 parts,type:=ty,pos:=pos,after:=after,guard:=guard}=jcJ 148 (parts.map fun x=>(x.1,a.eval x.2)):=rfl
theorem jnp(a:Act)(dst:Option Tmp)(ty:TypeId)(pos:String)(after:Array Edge)(guard:Option (Nat×Bool))(x y:Operand):execOp a.eval {dst:=dst,op:=.store 148 x y,type:=ty,pos:=pos,after:=after,guard:=guard}=jbm 148 (a.eval x) (a.eval y):=rfl
section
attribute [local go_sem ↓] jmo jnp
set_option maxRecDepth 100000 in
set_option maxHeartbeats 8000000 in
theorem jm4(rd:Nat)(p:Nat→Prop)(s:RdS)(w:World)(h:IsRd w 151 rd p s)(hpl:∀b,p b→b<w.heap.size) :
  Calls Tryz.prog 196 #[.agg #[.pointer (some ⟨rd,0,none⟩)]] w (jfh jet 151 rd p w (jaR s)):=by
 have hlt:=h.lt
 have hmf:∀(fn:Fn) (first cap:Array Value) (w:World),(Instr.makeFunc fn first cap).run Tryz.prog w=.ok (.func fn first cap) w:=fun _ _ _ _=>rfl
 have hsz:(w.alloc (.cells #[.pointer (some ⟨rd,0,none⟩)] 154)).heap.size=w.heap.size+1:=by simp
 have rowB:RowIs ((w.alloc (.cells #[.pointer (some ⟨rd,0,none⟩)] 154)).alloc (.cells #[.string ByteArray.empty,.int .i64 0,.bool false] 148)) w.heap.size 154 [.pointer (some ⟨rd,0,none⟩)]:=(RowIs.alloc w _ _).keep ((Keep.refl Nix _).alloc _) id
 have rowR:RowIs ((w.alloc (.cells #[.pointer (some ⟨rd,0,none⟩)] 154)).alloc (.cells #[.string ByteArray.empty,.int .i64 0,.bool false] 148)) (w.heap.size+1) 148 [.string ByteArray.empty,.int .i64 0,.bool false]:=by
  rw[←hsz]
  exact RowIs.alloc (w.alloc (.cells #[.pointer (some ⟨rd,0,none⟩)] 154)) _ _
 have hr:=h.nix (((Keep.refl Nix w).alloc (.cells #[.pointer (some ⟨rd,0,none⟩)] 154)).alloc (.cells #[.string ByteArray.empty,.int .i64 0,.bool false] 148))
 have kk:Keep (·=rd) w ((w.alloc (.cells #[.pointer (some ⟨rd,0,none⟩)] 154)).alloc (.cells #[.string ByteArray.empty,.int .i64 0,.bool false] 148)):=((Keep.refl (·=rd) w).alloc _).alloc _
 clear h hsz
 replace rowB:=rowB.same (w':=((w.alloc (.cells #[.pointer (some ⟨rd,0,none⟩)] 154)).alloc (.cells #[.string ByteArray.empty,.int .i64 0,.bool false] 148)).drew)
 replace rowR:=rowR.same (w':=((w.alloc (.cells #[.pointer (some ⟨rd,0,none⟩)] 154)).alloc (.cells #[.string ByteArray.empty,.int .i64 0,.bool false] 148)).drew)
 replace hr:=hr.same (w':=((w.alloc (.cells #[.pointer (some ⟨rd,0,none⟩)] 154)).alloc (.cells #[.string ByteArray.empty,.int .i64 0,.bool false] 148)).drew)
 replace kk:=kk.drew
 go_enter Tryz.func196,Tryz.ntmps196
 go_wp2_with fail
 refine wp_region_held_drew (S:=(fun w'=>w'.cell? ⟨w.heap.size,0,none⟩=some (.pointer (some ⟨rd,0,none⟩)))) (by kernel_rfl) (rowB.cell 0) (fun jaa=>?_)
 refine tk 0 rfl jaa ?_
 refine tk 2 rfl jaa ?_
 refine tk 4 rfl jaa ?_
 refine wpAnyH_ready (rs:=[1]) (by kernel_rfl) (by simp) ?_
 refine AllReadyH.cons rfl (fun K hK=>?_) AllReadyH.nil
 go_simp
 go_fit (jip rd p _ _ hr)
 rintro e w1 ⟨rfl,hr',k0⟩
 have wf0:Hid ((jaF s).1.length≤far):=Nat.le_trans (jdU 65536 _) (by decide)
 generalize hy0:jaF s=y0 at hr' wf0 ⊢
 replace hy0:=Lib.hid hy0
 have rowRl:=rowR.lt
 replace rowB:=rowB.keep k0 (by omega)
 replace rowR:=rowR.keep k0 (by omega)
 replace kk:=kk.trans k0
 replace hr:=hr'
 clear hr' k0 rowRl
 go_wp2_with fail
 refine hK.out _ _ (rowB.cell 0) (fun jaa=>?_)
 clear hK K
 try simp only[Act.put,zz1,zz2,zz3,zz4,zz5,zz6]
 refine wpAnyH_ready (rs:=[3]) (by kernel_rfl) (by simp) ?_
 refine AllReadyH.cons rfl (fun K hK=>?_) AllReadyH.nil
 go_simp
 go_fit (jc8 rd p _ _ hr)
 rintro e w2 ⟨rfl,hr',k1⟩
 have wf1:Hid ((Lit.int .i64 (pInt y0.2).1).wf=true):=jc9 (jbt maxU _)
 generalize hy1:pInt y0.2=y1 at hr' wf1 ⊢
 replace hy1:=Lib.hid hy1
 have rowRl:=rowR.lt
 replace rowB:=rowB.keep k1 (by omega)
 replace rowR:=rowR.keep k1 (by omega)
 replace kk:=kk.trans k1
 replace hr:=hr'
 clear hr' k1 rowRl
 go_wp2_with fail
 refine hK.out _ _ (rowB.cell 0) (fun jaa=>?_)
 clear hK K
 try simp only[Act.put,zz1,zz2,zz3,zz4,zz5,zz6]
 refine wpAnyH_ready (rs:=[5]) (by kernel_rfl) (by simp) ?_
 refine AllReadyH.cons rfl (fun K hK=>?_) AllReadyH.nil
 go_simp
 go_fit (jg9 rd p _ _ hr)
 rintro e w3 ⟨rfl,hr',k2⟩
 generalize hy2:jbZ y1.2=y2 at hr' ⊢
 replace hy2:=Lib.hid hy2
 have rowRl:=rowR.lt
 replace rowB:=rowB.keep k2 (by omega)
 replace rowR:=rowR.keep k2 (by omega)
 replace kk:=kk.trans k2
 replace hr:=hr'
 clear hr' k2 rowRl
 go_wp2_with fail
 refine hK.out _ _ (rowB.cell 0) (fun jaa=>?_)
 clear hK K
 try simp only[Act.put,zz1,zz2,zz3,zz4,zz5,zz6]
 have hbd:=fun w'=>jcZ (P:=Tryz.prog) jn8 [.string (strB y0.1),.int .i64 y1.1,.bool y2.1] (by simp only[List.map_cons,List.map_nil,jbJ,jdT,jdq]) w'
 simp only[jbX,Nat.reduceAdd]at hbd
 refine tk 6 rfl jaa ?_
 refine wpAnyH_ready (rs:=[7]) (by kernel_rfl) (by simp) ?_
 refine AllReadyH.cons rfl (fun K hK=>?_) AllReadyH.nil
 have hjl:(jal [.string (strB y0.1),.int .i64 y1.1,.bool y2.1]).length=3:=by simp only[jbN,jcn,jbJ,jdT,jdq]
 have hjo:ones (jal [.string (strB y0.1),.int .i64 y1.1,.bool y2.1])=true:=by simp only[jcz,jcr,jdy,jgg,jfw,Bool.and_self]
 have hst:=jaf (P:=Tryz.prog) S_Column rowR rfl hjl hjo
 have rowF:=rowR.setRow (jal [.string (strB y0.1),.int .i64 y1.1,.bool y2.1])
 have kS:=(Keep.refl (·=w.heap.size+1) w3).setRow (fun _=>rfl) (jal [.string (strB y0.1),.int .i64 y1.1,.bool y2.1]).toArray
 replace rowB:=rowB.keep kS (by omega)
 have HJL:=Lib.hid hjl
 have HJO:=Lib.hid hjo
 clear hjl hjo
 try simp only[zz1,zz2,zz3]
 go_simp
 clear hst
 refine hK.out _ _ (rowB.cell 0) (fun jaa=>?_)
 clear hK K
 try simp only[Act.put,zz1,zz2,zz3,zz4,zz5,zz6]
 refine wpAnyH_done (by kernel_rfl) ?_ _
 clear hbd hmf jaa
 go_wp2_with fail
 have hinfo:(Tryz.prog.info? 148).map (·.size)=some (jal [.string (strB y0.1),.int .i64 y1.1,.bool y2.1]).toArray.size:=by rw[List.size_toArray,HJL.out];exact S_Column.info
 refine bodyPost_ret (results_cell_row (by rfl) _ _ _ _ _ _ _ (by rfl) rowF Tryz.underlying148 (by rfl) hinfo) rfl ?_
 have HE:jaR s=(⟨y0.1,y1.1,y2.1⟩,y2.2):=by simp only[jaR,hy0.out,hy1.out,hy2.out]
 rw[HE]
 refine⟨_,rfl,⟨[_],[_],[_],by simp[jal,Value.cells],⟨rfl,wf0.out⟩,⟨rfl,wf1.out⟩,rfl⟩,HJO.out,hr.keep kS (by omega) (fun b hb e=>by have:=hpl b hb;omega),kk.then kS (fun i hi e=>by omega)⟩
end
theorem jmL(a:Act)(dst:Option Tmp)(parts:Array (Nat×Operand))(ty:TypeId)(pos:String)(after:Array Edge)(guard:Option (Nat×Bool)):execOp a.eval {dst:=dst,op:=.buildSlice 36 1 parts,type:=ty,pos:=pos,after:=after,guard:=guard}=jcC 36 1 (parts.map fun x=>(x.1,a.eval x.2)):=rfl
attribute [local go_sem ↓] jmL
set_option maxRecDepth 100000 in
set_option maxHeartbeats 4000000 in
theorem jlC(rd:Nat)(p:Nat→Prop)(s:RdS)(w:World)(h:IsRd w 151 rd p s)(hpl:∀b,p b→b<w.heap.size) :
  Calls Tryz.prog 195 #[.agg #[.pointer (some ⟨rd,0,none⟩)],.func (.func 196) #[.agg #[.pointer (some ⟨rd,0,none⟩)]] #[]] w (jfi (jap jet) 151 rd p w (jaA jaR s)):=by
 have hlt:=h.lt
 have h0:=h.nix ((Keep.refl Nix w).alloc (.cells #[.pointer (some ⟨rd,0,none⟩)] 154))
 have row0:RowIs (w.alloc (.cells #[.pointer (some ⟨rd,0,none⟩)] 154)) w.heap.size 154 [.pointer (some ⟨rd,0,none⟩)]:=RowIs.alloc w _ _
 have hle:=jcc 5000 s
 clear h
 go_enter Tryz.func195,Tryz.ntmps195
 go_wp2_with fail
 go_fit (jci rd p s _ h0 5000 (by unfold jae;omega))
 rintro e w1 ⟨rfl,h1,k1⟩
 have row1:=row0.keep k1 (by omega)
 have kk1:Keep (·=rd) w w1:=((Keep.refl (·=rd) w).alloc (.cells #[.pointer (some ⟨rd,0,none⟩)] 154)).trans (k1.mono fun _ h=>h)
 have HP:Hid (jaA jaR s=jan jaR (numS (5000:Int).toNat s).1 (numS (5000:Int).toNat s).2):=rfl
 have hle':(numS (5000:Int).toNat s).1≤5000:=hle
 clear h0 row0 k1 hle
 generalize numS (5000:Int).toNat s=N at h1 HP hle' ⊢
 go_wp2_with fail
 go_loopw [5,6] (fun l n wr=>∃(xs:List GColumn) (css:List (List Value)) (m:Nat) (s':RdS) (a:Option Addr) (cap:Nat),l=.slice a xs.length cap∧n=.int .i64 m∧Hid (jan jaR N.1 N.2=(xs ++ (jan jaR m s').1,(jan jaR m s').2))∧
   wr.ownsRow (w.heap.size+1) 148 3 (.slice a xs.length cap) xs.length css.flatten∧Els jet wr (fun b=>jai w wr b∧¬OwnB (.slice a xs.length cap) b) css xs∧IsRd wr 151 rd p s'∧RowIs wr w.heap.size 154 [.pointer (some ⟨rd,0,none⟩)]∧Keep (·=rd) w wr∧xs.length+m≤5000) (fun _ n _=>(intOf n).toNat)
 case atStart=>exact⟨[],[],N.1,N.2,none,0,rfl,rfl,rfl,World.ownsRow_nil _ _ _ _,Els.nil _ _ _,h1,row1,kk1,by simpa using hle'⟩
 case round=>
  clear h1 row1 kk1 hle'
  obtain⟨xs,css,m,s',a,cap,rfl,rfl,hp,own,els,hr,row,kk,hm⟩:=hrel
  have x0:wr.cell? ⟨w.heap.size,0,none⟩=some (.pointer (some ⟨rd,0,none⟩)):=row.cell 0
  have hfar:xs.length≤far:=by unfold far;omega
  by_cases hm0:m=0
  ·subst hm0
   clear hm
   go_wp2_with fail
   go_ret
   refine⟨_,rfl,?_,?_,kk⟩
   ·rw[HP.out,hp.out];exact Els.list (Nat.le_succ _) own els wGColumn_lawful (by simp[jan]) hfar
   ·rw[HP.out,hp.out];exact hr
  ·obtain⟨m,rfl⟩:∃m',m=m'+1:=⟨m - 1,by omega⟩
   have hpos:(0:Int)<((m+1:Nat):Int):=by omega
   clear hm0
   go_wp2_with fail
   go_fit (jey rd p s' wr hr)
   rintro e w2 ⟨rfl,k2⟩
   have own2:=jad own k2 (fun _ _ h=>h)
   have els2:=(els.keep wGColumn_lawful (k2.nix (S:=(·=rd))) (fun b hb e=>by have:=hb.1.1;omega)).mono (q:=fun b=>jai w w2 b∧¬OwnB (.slice a xs.length cap) b) wGColumn_lawful (fun b hb=>⟨⟨hb.1.1,Nat.lt_of_lt_of_le hb.1.2 k2.size⟩,hb.2⟩)
   have hr2:=hr.nix k2
   have row2:=row.keep k2 (fun h=>h)
   have kk2:Keep (·=rd) w w2:=kk.trans (k2.nix)
   have hwr:=kk.size
   have hsz2:=k2.size
   clear own els hr row kk x0
   have x0:w2.cell? ⟨w.heap.size,0,none⟩=some (.pointer (some ⟨rd,0,none⟩)):=row2.cell 0
   rcases jbH s'.e 0 with⟨ht,he⟩ | ⟨ht,he⟩
   ·go_wp2_with fail
    go_fit (jm4 rd p s' w2 hr2 (fun b hb=>Nat.lt_of_lt_of_le (hpl b hb) (by omega)))
    rintro e w3 ⟨c,rfl,hc,h1c,hr3,k3⟩
    have hlc:=wGColumn_lawful.len hc
    have hls:=jb3 (P:=Tryz.prog) T_lColumn (by decide) c hlc w3
    have own3:=jad own2 k3 (fun b hb e=>by have:=(own2.lt b hb).1;omega)
    have row3:=row2.keep k3 (by omega)
    have kk3:=kk2.trans k3
    have hB:=row3.lt
    have hsz3:=k3.size
    have hol:∀b,OwnB (.slice a xs.length cap) b→b<w2.heap.size:=fun b hb=>(own2.lt b hb).2
    have hlen:=xs.length
    have hHP:Hid (jan jaR (m+1) s'=((jaR s').1 :: (jan jaR m (jaR s').2).1,(jan jaR m (jaR s').2).2)):=by show _=_;rw[jan,if_pos he.out]
    clear own2 hr2 row2 kk2 x0 hlen
    go_wp2_with (at_builtin;refine jbi T_lColumn rfl (.tmp 20) (.tmp 23) rfl (w.heap.size+1) rfl own3 rfl ?c0 ?c1 ?c2 ?c3 ?c4 ?_)
    case c0=>simpa using hlc
    case c1=>first | (simpa [ones] using h1c) | (intro u hu;exact(List.all_eq_true.1 h1c) u (by simpa using hu))
    case c2=>unfold maxLen;omega
    case c3=>omega
    case c4=>omega
    intro a' cap' w4 own4 k4 jax
    have els4:=els2.push wGColumn_lawful hc k3 k4 hlt (by omega) hol jax
    have row4:RowIs w4 w.heap.size 154 [.pointer (some ⟨rd,0,none⟩)]:=row3.keep k4 (fun hb=>by have:=hol _ hb;have:=(own3.lt _ hb).1;omega)
    have hr4:IsRd w4 151 rd p (jaR s').2:=hr3.keep k4 (fun hb=>by have:=(own3.lt _ hb).1;omega) (fun b hb hb2=>by have:=(own3.lt _ hb2).1;have:=hpl b hb;omega)
    have kk4:Keep (·=rd) w w4:=kk3.then k4 (fun i hi hb=>by have:=(own3.lt _ hb).1;omega)
    clear own3 els2 row3 hr3 kk3 k3 k4 jax
    go_wp2
    go_roundw
    case rel=>exact⟨xs ++ [(jaR s').1],css ++ [c],m,(jaR s').2,a',cap',by simp,by go_num,by show _=_;rw[hp.out,hHP.out];simp,by simpa using own4,by simpa using els4,hr4,row4,kk4,by simp;omega⟩
    case measure=>simp[intOf] <;> omega
   ·go_wp2_with fail
    go_ret
    have hHP:jan jaR (m+1) s'=([],s'):=by rw[jan,if_neg he]
    refine⟨_,rfl,?_,?_,kk2⟩
    ·rw[HP.out,hp.out,hHP];exact Els.list (Nat.le_succ _) own2 els2 wGColumn_lawful (by simp) hfar
    ·rw[HP.out,hp.out,hHP];exact hr2
def jbg:Ps GTable:=fun s0=>
 let a0:=pInt s0
 let a1:=jaF a0.2
 let a2:=(jaA jaR) a1.2
 let a3:=(jaA pInt) a2.2
 (⟨a0.1,a1.1,a2.1,a3.1⟩,a3.2)
theorem jnM(a:Act)(dst:Option Tmp)(ty:TypeId)(pos:String)(after:Array Edge)(guard:Option (Nat×Bool))(parts:Array (Nat×Operand)):execOp a.eval {dst:=dst,op:=.build 39 parts,type:=ty,pos:=pos,after:=after,guard:=guard}=jcJ 39 (parts.map fun x=>(x.1,a.eval x.2)):=rfl
theorem joD(a:Act)(dst:Option Tmp)(ty:TypeId)(pos:String)(after:Array Edge)(guard:Option (Nat×Bool))(x y:Operand):execOp a.eval {dst:=dst,op:=.store 39 x y,type:=ty,pos:=pos,after:=after,guard:=guard}=jbm 39 (a.eval x) (a.eval y):=rfl
section
attribute [local go_sem ↓] jnM joD
set_option maxRecDepth 100000 in
set_option maxHeartbeats 8000000 in
theorem joe(rd:Nat)(p:Nat→Prop)(s:RdS)(w:World)(h:IsRd w 151 rd p s)(hpl:∀b,p b→b<w.heap.size) :
  Calls Tryz.prog 151 #[.agg #[.pointer (some ⟨rd,0,none⟩)]] w (jfh jeM 151 rd p w (jbg s)):=by
 have hlt:=h.lt
 have hmf:∀(fn:Fn) (first cap:Array Value) (w:World),(Instr.makeFunc fn first cap).run Tryz.prog w=.ok (.func fn first cap) w:=fun _ _ _ _=>rfl
 have hsz:(w.alloc (.cells #[.pointer (some ⟨rd,0,none⟩)] 154)).heap.size=w.heap.size+1:=by simp
 have rowB:RowIs ((w.alloc (.cells #[.pointer (some ⟨rd,0,none⟩)] 154)).alloc (.cells #[.int .i64 0,.string ByteArray.empty,.slice none 0 0,.slice none 0 0] 39)) w.heap.size 154 [.pointer (some ⟨rd,0,none⟩)]:=(RowIs.alloc w _ _).keep ((Keep.refl Nix _).alloc _) id
 have rowR:RowIs ((w.alloc (.cells #[.pointer (some ⟨rd,0,none⟩)] 154)).alloc (.cells #[.int .i64 0,.string ByteArray.empty,.slice none 0 0,.slice none 0 0] 39)) (w.heap.size+1) 39 [.int .i64 0,.string ByteArray.empty,.slice none 0 0,.slice none 0 0]:=by
  rw[←hsz]
  exact RowIs.alloc (w.alloc (.cells #[.pointer (some ⟨rd,0,none⟩)] 154)) _ _
 have hr:=h.nix (((Keep.refl Nix w).alloc (.cells #[.pointer (some ⟨rd,0,none⟩)] 154)).alloc (.cells #[.int .i64 0,.string ByteArray.empty,.slice none 0 0,.slice none 0 0] 39))
 have kk:Keep (·=rd) w ((w.alloc (.cells #[.pointer (some ⟨rd,0,none⟩)] 154)).alloc (.cells #[.int .i64 0,.string ByteArray.empty,.slice none 0 0,.slice none 0 0] 39)):=((Keep.refl (·=rd) w).alloc _).alloc _
 clear h hsz
 replace rowB:=rowB.same (w':=((w.alloc (.cells #[.pointer (some ⟨rd,0,none⟩)] 154)).alloc (.cells #[.int .i64 0,.string ByteArray.empty,.slice none 0 0,.slice none 0 0] 39)).drew)
 replace rowR:=rowR.same (w':=((w.alloc (.cells #[.pointer (some ⟨rd,0,none⟩)] 154)).alloc (.cells #[.int .i64 0,.string ByteArray.empty,.slice none 0 0,.slice none 0 0] 39)).drew)
 replace hr:=hr.same (w':=((w.alloc (.cells #[.pointer (some ⟨rd,0,none⟩)] 154)).alloc (.cells #[.int .i64 0,.string ByteArray.empty,.slice none 0 0,.slice none 0 0] 39)).drew)
 replace kk:=kk.drew
 go_enter Tryz.func151,Tryz.ntmps151
 go_wp2_with fail
 refine wp_region_held_drew (S:=(fun w'=>w'.cell? ⟨w.heap.size,0,none⟩=some (.pointer (some ⟨rd,0,none⟩)))) (by kernel_rfl) (rowB.cell 0) (fun jaa=>?_)
 refine tk 0 rfl jaa ?_
 refine tk 2 rfl jaa ?_
 refine tk 4 rfl jaa ?_
 refine tk 5 rfl jaa ?_
 refine tk 6 rfl jaa ?_
 refine tk 8 rfl jaa ?_
 refine tk 9 rfl jaa ?_
 refine tk 10 rfl jaa ?_
 refine wpAnyH_ready (rs:=[1]) (by kernel_rfl) (by simp) ?_
 refine AllReadyH.cons rfl (fun K hK=>?_) AllReadyH.nil
 go_simp
 go_fit (jc8 rd p _ _ hr)
 rintro e w1 ⟨rfl,hr',k0⟩
 have wf0:Hid ((Lit.int .i64 (pInt s).1).wf=true):=jc9 (jbt maxU _)
 generalize hy0:pInt s=y0 at hr' wf0 ⊢
 replace hy0:=Lib.hid hy0
 have rowRl:=rowR.lt
 replace rowB:=rowB.keep k0 (by omega)
 replace rowR:=rowR.keep k0 (by omega)
 replace kk:=kk.trans k0
 replace hr:=hr'
 clear hr' k0 rowRl
 go_wp2_with fail
 refine hK.out _ _ (rowB.cell 0) (fun jaa=>?_)
 clear hK K
 try simp only[Act.put,zz1,zz2,zz3,zz4,zz5,zz6]
 refine wpAnyH_ready (rs:=[3]) (by kernel_rfl) (by simp) ?_
 refine AllReadyH.cons rfl (fun K hK=>?_) AllReadyH.nil
 go_simp
 go_fit (jip rd p _ _ hr)
 rintro e w2 ⟨rfl,hr',k1⟩
 have wf1:Hid ((jaF y0.2).1.length≤far):=Nat.le_trans (jdU 65536 _) (by decide)
 generalize hy1:jaF y0.2=y1 at hr' wf1 ⊢
 replace hy1:=Lib.hid hy1
 have rowRl:=rowR.lt
 replace rowB:=rowB.keep k1 (by omega)
 replace rowR:=rowR.keep k1 (by omega)
 replace kk:=kk.trans k1
 replace hr:=hr'
 clear hr' k1 rowRl
 go_wp2_with fail
 refine hK.out _ _ (rowB.cell 0) (fun jaa=>?_)
 clear hK K
 try simp only[Act.put,zz1,zz2,zz3,zz4,zz5,zz6]
 refine wpAnyH_ready (rs:=[7]) (by kernel_rfl) (by simp) ?_
 refine AllReadyH.cons rfl (fun K hK=>?_) AllReadyH.nil
 go_simp
 go_fit (jlC rd p _ _ hr (fun b hb=>Nat.lt_of_lt_of_le (hpl b hb) kk.size))
 rintro e w3 ⟨v,rfl,q2,hr',k2⟩
 generalize hy2:(jaA jaR) y1.2=y2 at hr' q2
 replace hy2:=Lib.hid hy2
 obtain⟨a2,cc2,hv,q2'⟩:=jba q2
 simp only[List.cons.injEq,and_true]at hv
 subst hv
 clear q2
 have q2:=q2'
 clear q2'
 have rowRl:=rowR.lt
 replace rowB:=rowB.keep k2 (by omega)
 replace rowR:=rowR.keep k2 (by omega)
 have hRl:=rowRl
 replace kk:=kk.trans k2
 replace q2:=(jac wGColumn_lawful).mono q2 (fun b hb=>(⟨by have:=hb.1;omega,hb.2⟩:jb5 (w.heap.size+2) w3 b))
 clear hRl
 replace hr:=hr'
 clear hr' k2 rowRl
 go_wp2_with fail
 refine hK.out _ _ (rowB.cell 0) (fun jaa=>?_)
 clear hK K
 try simp only[Act.put,zz1,zz2,zz3,zz4,zz5,zz6]
 refine wpAnyH_ready (rs:=[11]) (by kernel_rfl) (by simp) ?_
 refine AllReadyH.cons rfl (fun K hK=>?_) AllReadyH.nil
 go_simp
 go_fit (jll rd p _ _ hr (fun b hb=>Nat.lt_of_lt_of_le (hpl b hb) kk.size))
 rintro e w4 ⟨v,rfl,q3,hr',k3⟩
 generalize hy3:(jaA pInt) y2.2=y3 at hr' q3
 replace hy3:=Lib.hid hy3
 obtain⟨a3,cc3,hv,q3'⟩:=jba q3
 simp only[List.cons.injEq,and_true]at hv
 subst hv
 clear q3
 have q3:=q3'
 clear q3'
 have rowRl:=rowR.lt
 replace q2:=(jac wGColumn_lawful).mono ((jac wGColumn_lawful).keep q2 k3 (fun b hb e=>by have:=hb.1;omega)) (fun b hb=>(⟨hb.1,Nat.lt_of_lt_of_le hb.2 k3.size⟩:jb5 (w.heap.size+2) w4 b))
 replace rowB:=rowB.keep k3 (by omega)
 replace rowR:=rowR.keep k3 (by omega)
 have hRl:=rowRl
 replace kk:=kk.trans k3
 replace q3:=(jac (jab _)).mono q3 (fun b hb=>(⟨by have:=hb.1;omega,hb.2⟩:jb5 (w.heap.size+2) w4 b))
 clear hRl
 replace hr:=hr'
 clear hr' k3 rowRl
 go_wp2_with fail
 refine hK.out _ _ (rowB.cell 0) (fun jaa=>?_)
 clear hK K
 try simp only[Act.put,zz1,zz2,zz3,zz4,zz5,zz6]
 have hbd:=fun w'=>jcZ (P:=Tryz.prog) joV [.int .i64 y0.1,.string (strB y1.1),.slice a2 y2.1.length cc2,.slice a3 y3.1.length cc3] (by simp only[List.map_cons,List.map_nil,jbJ,jdq,jb8]) w'
 simp only[jbX,Nat.reduceAdd]at hbd
 refine tk 12 rfl jaa ?_
 refine wpAnyH_ready (rs:=[13]) (by kernel_rfl) (by simp) ?_
 refine AllReadyH.cons rfl (fun K hK=>?_) AllReadyH.nil
 have hjl:(jal [.int .i64 y0.1,.string (strB y1.1),.slice a2 y2.1.length cc2,.slice a3 y3.1.length cc3]).length=4:=by simp only[jbN,jcn,jbJ,jdq,jb8]
 have hjo:ones (jal [.int .i64 y0.1,.string (strB y1.1),.slice a2 y2.1.length cc2,.slice a3 y3.1.length cc3])=true:=by simp only[jcz,jcr,jdy,jfw,jdf,Bool.and_self]
 have hst:=jaf (P:=Tryz.prog) S_Table rowR rfl hjl hjo
 have rowF:=rowR.setRow (jal [.int .i64 y0.1,.string (strB y1.1),.slice a2 y2.1.length cc2,.slice a3 y3.1.length cc3])
 have kS:=(Keep.refl (·=w.heap.size+1) w4).setRow (fun _=>rfl) (jal [.int .i64 y0.1,.string (strB y1.1),.slice a2 y2.1.length cc2,.slice a3 y3.1.length cc3]).toArray
 replace rowB:=rowB.keep kS (by omega)
 have HJL:=Lib.hid hjl
 have HJO:=Lib.hid hjo
 clear hjl hjo
 try simp only[zz1,zz2,zz3]
 go_simp
 clear hst
 refine hK.out _ _ (rowB.cell 0) (fun jaa=>?_)
 clear hK K
 try simp only[Act.put,zz1,zz2,zz3,zz4,zz5,zz6]
 refine wpAnyH_done (by kernel_rfl) ?_ _
 clear hbd hmf jaa
 go_wp2_with fail
 have hinfo:(Tryz.prog.info? 39).map (·.size)=some (jal [.int .i64 y0.1,.string (strB y1.1),.slice a2 y2.1.length cc2,.slice a3 y3.1.length cc3]).toArray.size:=by rw[List.size_toArray,HJL.out];exact S_Table.info
 refine bodyPost_ret (results_cell_row (by rfl) _ _ _ _ _ _ _ (by rfl) rowF Tryz.underlying39 (by rfl) hinfo) rfl ?_
 replace q2:=(jac wGColumn_lawful).mono ((jac wGColumn_lawful).keep q2 kS (fun b hb e=>by have:=hb.1;omega)) (fun b hb=>(⟨by have:=hb.1;omega,Nat.lt_of_lt_of_le hb.2 kS.size⟩:jai w (w4.setRow (w.heap.size+1) (jal [.int .i64 y0.1,.string (strB y1.1),.slice a2 y2.1.length cc2,.slice a3 y3.1.length cc3]).toArray) b))
 replace q3:=(jac (jab _)).mono ((jac (jab _)).keep q3 kS (fun b hb e=>by have:=hb.1;omega)) (fun b hb=>(⟨by have:=hb.1;omega,Nat.lt_of_lt_of_le hb.2 kS.size⟩:jai w (w4.setRow (w.heap.size+1) (jal [.int .i64 y0.1,.string (strB y1.1),.slice a2 y2.1.length cc2,.slice a3 y3.1.length cc3]).toArray) b))
 have HE:jbg s=(⟨y0.1,y1.1,y2.1,y3.1⟩,y3.2):=by simp only[jbg,hy0.out,hy1.out,hy2.out,hy3.out]
 rw[HE]
 refine⟨_,rfl,⟨[_],[_],[_],[_],by simp[jal,Value.cells],⟨rfl,wf0.out⟩,⟨rfl,wf1.out⟩,q2,q3⟩,HJO.out,hr.keep kS (by omega) (fun b hb e=>by have:=hpl b hb;omega),kk.then kS (fun i hi e=>by omega)⟩
end
theorem jom(a:Act)(dst:Option Tmp)(parts:Array (Nat×Operand))(ty:TypeId)(pos:String)(after:Array Edge)(guard:Option (Nat×Bool)):execOp a.eval {dst:=dst,op:=.buildSlice 47 1 parts,type:=ty,pos:=pos,after:=after,guard:=guard}=jcC 47 1 (parts.map fun x=>(x.1,a.eval x.2)):=rfl
attribute [local go_sem ↓] jom
set_option maxRecDepth 100000 in
set_option maxHeartbeats 4000000 in
theorem jmE(rd:Nat)(p:Nat→Prop)(s:RdS)(w:World)(h:IsRd w 151 rd p s)(hpl:∀b,p b→b<w.heap.size) :
  Calls Tryz.prog 190 #[.agg #[.pointer (some ⟨rd,0,none⟩)],.func (.func 151) #[.agg #[.pointer (some ⟨rd,0,none⟩)]] #[]] w (jfi (jap jeM) 151 rd p w (jaA jbg s)):=by
 have hlt:=h.lt
 have h0:=h.nix ((Keep.refl Nix w).alloc (.cells #[.pointer (some ⟨rd,0,none⟩)] 154))
 have row0:RowIs (w.alloc (.cells #[.pointer (some ⟨rd,0,none⟩)] 154)) w.heap.size 154 [.pointer (some ⟨rd,0,none⟩)]:=RowIs.alloc w _ _
 have hle:=jcc 5000 s
 clear h
 go_enter Tryz.func190,Tryz.ntmps190
 go_wp2_with fail
 go_fit (jci rd p s _ h0 5000 (by unfold jae;omega))
 rintro e w1 ⟨rfl,h1,k1⟩
 have row1:=row0.keep k1 (by omega)
 have kk1:Keep (·=rd) w w1:=((Keep.refl (·=rd) w).alloc (.cells #[.pointer (some ⟨rd,0,none⟩)] 154)).trans (k1.mono fun _ h=>h)
 have HP:Hid (jaA jbg s=jan jbg (numS (5000:Int).toNat s).1 (numS (5000:Int).toNat s).2):=rfl
 have hle':(numS (5000:Int).toNat s).1≤5000:=hle
 clear h0 row0 k1 hle
 generalize numS (5000:Int).toNat s=N at h1 HP hle' ⊢
 go_wp2_with fail
 go_loopw [5,6] (fun l n wr=>∃(xs:List GTable) (css:List (List Value)) (m:Nat) (s':RdS) (a:Option Addr) (cap:Nat),l=.slice a xs.length cap∧n=.int .i64 m∧Hid (jan jbg N.1 N.2=(xs ++ (jan jbg m s').1,(jan jbg m s').2))∧
   wr.ownsRow (w.heap.size+1) 39 4 (.slice a xs.length cap) xs.length css.flatten∧Els jeM wr (fun b=>jai w wr b∧¬OwnB (.slice a xs.length cap) b) css xs∧IsRd wr 151 rd p s'∧RowIs wr w.heap.size 154 [.pointer (some ⟨rd,0,none⟩)]∧Keep (·=rd) w wr∧xs.length+m≤5000) (fun _ n _=>(intOf n).toNat)
 case atStart=>exact⟨[],[],N.1,N.2,none,0,rfl,rfl,rfl,World.ownsRow_nil _ _ _ _,Els.nil _ _ _,h1,row1,kk1,by simpa using hle'⟩
 case round=>
  clear h1 row1 kk1 hle'
  obtain⟨xs,css,m,s',a,cap,rfl,rfl,hp,own,els,hr,row,kk,hm⟩:=hrel
  have x0:wr.cell? ⟨w.heap.size,0,none⟩=some (.pointer (some ⟨rd,0,none⟩)):=row.cell 0
  have hfar:xs.length≤far:=by unfold far;omega
  by_cases hm0:m=0
  ·subst hm0
   clear hm
   go_wp2_with fail
   go_ret
   refine⟨_,rfl,?_,?_,kk⟩
   ·rw[HP.out,hp.out];exact Els.list (Nat.le_succ _) own els wGTable_lawful (by simp[jan]) hfar
   ·rw[HP.out,hp.out];exact hr
  ·obtain⟨m,rfl⟩:∃m',m=m'+1:=⟨m - 1,by omega⟩
   have hpos:(0:Int)<((m+1:Nat):Int):=by omega
   clear hm0
   go_wp2_with fail
   go_fit (jey rd p s' wr hr)
   rintro e w2 ⟨rfl,k2⟩
   have own2:=jad own k2 (fun _ _ h=>h)
   have els2:=(els.keep wGTable_lawful (k2.nix (S:=(·=rd))) (fun b hb e=>by have:=hb.1.1;omega)).mono (q:=fun b=>jai w w2 b∧¬OwnB (.slice a xs.length cap) b) wGTable_lawful (fun b hb=>⟨⟨hb.1.1,Nat.lt_of_lt_of_le hb.1.2 k2.size⟩,hb.2⟩)
   have hr2:=hr.nix k2
   have row2:=row.keep k2 (fun h=>h)
   have kk2:Keep (·=rd) w w2:=kk.trans (k2.nix)
   have hwr:=kk.size
   have hsz2:=k2.size
   clear own els hr row kk x0
   have x0:w2.cell? ⟨w.heap.size,0,none⟩=some (.pointer (some ⟨rd,0,none⟩)):=row2.cell 0
   rcases jbH s'.e 0 with⟨ht,he⟩ | ⟨ht,he⟩
   ·go_wp2_with fail
    go_fit (joe rd p s' w2 hr2 (fun b hb=>Nat.lt_of_lt_of_le (hpl b hb) (by omega)))
    rintro e w3 ⟨c,rfl,hc,h1c,hr3,k3⟩
    have hlc:=wGTable_lawful.len hc
    have hls:=jb3 (P:=Tryz.prog) T_lTable (by decide) c hlc w3
    have own3:=jad own2 k3 (fun b hb e=>by have:=(own2.lt b hb).1;omega)
    have row3:=row2.keep k3 (by omega)
    have kk3:=kk2.trans k3
    have hB:=row3.lt
    have hsz3:=k3.size
    have hol:∀b,OwnB (.slice a xs.length cap) b→b<w2.heap.size:=fun b hb=>(own2.lt b hb).2
    have hlen:=xs.length
    have hHP:Hid (jan jbg (m+1) s'=((jbg s').1 :: (jan jbg m (jbg s').2).1,(jan jbg m (jbg s').2).2)):=by show _=_;rw[jan,if_pos he.out]
    clear own2 hr2 row2 kk2 x0 hlen
    go_wp2_with (at_builtin;refine jbi T_lTable rfl (.tmp 20) (.tmp 23) rfl (w.heap.size+1) rfl own3 rfl ?c0 ?c1 ?c2 ?c3 ?c4 ?_)
    case c0=>simpa using hlc
    case c1=>first | (simpa [ones] using h1c) | (intro u hu;exact(List.all_eq_true.1 h1c) u (by simpa using hu))
    case c2=>unfold maxLen;omega
    case c3=>omega
    case c4=>omega
    intro a' cap' w4 own4 k4 jax
    have els4:=els2.push wGTable_lawful hc k3 k4 hlt (by omega) hol jax
    have row4:RowIs w4 w.heap.size 154 [.pointer (some ⟨rd,0,none⟩)]:=row3.keep k4 (fun hb=>by have:=hol _ hb;have:=(own3.lt _ hb).1;omega)
    have hr4:IsRd w4 151 rd p (jbg s').2:=hr3.keep k4 (fun hb=>by have:=(own3.lt _ hb).1;omega) (fun b hb hb2=>by have:=(own3.lt _ hb2).1;have:=hpl b hb;omega)
    have kk4:Keep (·=rd) w w4:=kk3.then k4 (fun i hi hb=>by have:=(own3.lt _ hb).1;omega)
    clear own3 els2 row3 hr3 kk3 k3 k4 jax
    go_wp2
    go_roundw
    case rel=>exact⟨xs ++ [(jbg s').1],css ++ [c],m,(jbg s').2,a',cap',by simp,by go_num,by show _=_;rw[hp.out,hHP.out];simp,by simpa using own4,by simpa using els4,hr4,row4,kk4,by simp;omega⟩
    case measure=>simp[intOf] <;> omega
   ·go_wp2_with fail
    go_ret
    have hHP:jan jbg (m+1) s'=([],s'):=by rw[jan,if_neg he]
    refine⟨_,rfl,?_,?_,kk2⟩
    ·rw[HP.out,hp.out,hHP];exact Els.list (Nat.le_succ _) own2 els2 wGTable_lawful (by simp) hfar
    ·rw[HP.out,hp.out,hHP];exact hr2
def jbe:Ps GIndex:=fun s0=>
 let a0:=pInt s0
 let a1:=pInt a0.2
 let a2:=jaF a1.2
 let a3:=(jaA pInt) a2.2
 let a4:=jbZ a3.2
 let a5:=pInt a4.2
 let a6:=jbZ a5.2
 (⟨a0.1,a1.1,a2.1,a3.1,a4.1,a5.1,a6.1⟩,a6.2)
theorem jnJ(a:Act)(dst:Option Tmp)(ty:TypeId)(pos:String)(after:Array Edge)(guard:Option (Nat×Bool))(parts:Array (Nat×Operand)):execOp a.eval {dst:=dst,op:=.build 41 parts,type:=ty,pos:=pos,after:=after,guard:=guard}=jcJ 41 (parts.map fun x=>(x.1,a.eval x.2)):=rfl
theorem joB(a:Act)(dst:Option Tmp)(ty:TypeId)(pos:String)(after:Array Edge)(guard:Option (Nat×Bool))(x y:Operand):execOp a.eval {dst:=dst,op:=.store 41 x y,type:=ty,pos:=pos,after:=after,guard:=guard}=jbm 41 (a.eval x) (a.eval y):=rfl
section
attribute [local go_sem ↓] jnJ joB
set_option maxRecDepth 100000 in
set_option maxHeartbeats 8000000 in
theorem job(rd:Nat)(p:Nat→Prop)(s:RdS)(w:World)(h:IsRd w 151 rd p s)(hpl:∀b,p b→b<w.heap.size) :
  Calls Tryz.prog 152 #[.agg #[.pointer (some ⟨rd,0,none⟩)]] w (jfh jeJ 151 rd p w (jbe s)):=by
 have hlt:=h.lt
 have hmf:∀(fn:Fn) (first cap:Array Value) (w:World),(Instr.makeFunc fn first cap).run Tryz.prog w=.ok (.func fn first cap) w:=fun _ _ _ _=>rfl
 have hsz:(w.alloc (.cells #[.pointer (some ⟨rd,0,none⟩)] 154)).heap.size=w.heap.size+1:=by simp
 have rowB:RowIs ((w.alloc (.cells #[.pointer (some ⟨rd,0,none⟩)] 154)).alloc (.cells #[.int .i64 0,.int .i64 0,.string ByteArray.empty,.slice none 0 0,.bool false,.int .i64 0,.bool false] 41)) w.heap.size 154 [.pointer (some ⟨rd,0,none⟩)]:=(RowIs.alloc w _ _).keep ((Keep.refl Nix _).alloc _) id
 have rowR:RowIs ((w.alloc (.cells #[.pointer (some ⟨rd,0,none⟩)] 154)).alloc (.cells #[.int .i64 0,.int .i64 0,.string ByteArray.empty,.slice none 0 0,.bool false,.int .i64 0,.bool false] 41)) (w.heap.size+1) 41 [.int .i64 0,.int .i64 0,.string ByteArray.empty,.slice none 0 0,.bool false,.int .i64 0,.bool false]:=by
  rw[←hsz]
  exact RowIs.alloc (w.alloc (.cells #[.pointer (some ⟨rd,0,none⟩)] 154)) _ _
 have hr:=h.nix (((Keep.refl Nix w).alloc (.cells #[.pointer (some ⟨rd,0,none⟩)] 154)).alloc (.cells #[.int .i64 0,.int .i64 0,.string ByteArray.empty,.slice none 0 0,.bool false,.int .i64 0,.bool false] 41))
 have kk:Keep (·=rd) w ((w.alloc (.cells #[.pointer (some ⟨rd,0,none⟩)] 154)).alloc (.cells #[.int .i64 0,.int .i64 0,.string ByteArray.empty,.slice none 0 0,.bool false,.int .i64 0,.bool false] 41)):=((Keep.refl (·=rd) w).alloc _).alloc _
 clear h hsz
 replace rowB:=rowB.same (w':=((w.alloc (.cells #[.pointer (some ⟨rd,0,none⟩)] 154)).alloc (.cells #[.int .i64 0,.int .i64 0,.string ByteArray.empty,.slice none 0 0,.bool false,.int .i64 0,.bool false] 41)).drew)
 replace rowR:=rowR.same (w':=((w.alloc (.cells #[.pointer (some ⟨rd,0,none⟩)] 154)).alloc (.cells #[.int .i64 0,.int .i64 0,.string ByteArray.empty,.slice none 0 0,.bool false,.int .i64 0,.bool false] 41)).drew)
 replace hr:=hr.same (w':=((w.alloc (.cells #[.pointer (some ⟨rd,0,none⟩)] 154)).alloc (.cells #[.int .i64 0,.int .i64 0,.string ByteArray.empty,.slice none 0 0,.bool false,.int .i64 0,.bool false] 41)).drew)
 replace kk:=kk.drew
 go_enter Tryz.func152,Tryz.ntmps152
 go_wp2_with fail
 refine wp_region_held_drew (S:=(fun w'=>w'.cell? ⟨w.heap.size,0,none⟩=some (.pointer (some ⟨rd,0,none⟩)))) (by kernel_rfl) (rowB.cell 0) (fun jaa=>?_)
 refine tk 0 rfl jaa ?_
 refine tk 2 rfl jaa ?_
 refine tk 4 rfl jaa ?_
 refine tk 6 rfl jaa ?_
 refine tk 7 rfl jaa ?_
 refine tk 8 rfl jaa ?_
 refine tk 10 rfl jaa ?_
 refine tk 12 rfl jaa ?_
 refine tk 14 rfl jaa ?_
 refine wpAnyH_ready (rs:=[1]) (by kernel_rfl) (by simp) ?_
 refine AllReadyH.cons rfl (fun K hK=>?_) AllReadyH.nil
 go_simp
 go_fit (jc8 rd p _ _ hr)
 rintro e w1 ⟨rfl,hr',k0⟩
 have wf0:Hid ((Lit.int .i64 (pInt s).1).wf=true):=jc9 (jbt maxU _)
 generalize hy0:pInt s=y0 at hr' wf0 ⊢
 replace hy0:=Lib.hid hy0
 have rowRl:=rowR.lt
 replace rowB:=rowB.keep k0 (by omega)
 replace rowR:=rowR.keep k0 (by omega)
 replace kk:=kk.trans k0
 replace hr:=hr'
 clear hr' k0 rowRl
 go_wp2_with fail
 refine hK.out _ _ (rowB.cell 0) (fun jaa=>?_)
 clear hK K
 try simp only[Act.put,zz1,zz2,zz3,zz4,zz5,zz6]
 refine wpAnyH_ready (rs:=[3]) (by kernel_rfl) (by simp) ?_
 refine AllReadyH.cons rfl (fun K hK=>?_) AllReadyH.nil
 go_simp
 go_fit (jc8 rd p _ _ hr)
 rintro e w2 ⟨rfl,hr',k1⟩
 have wf1:Hid ((Lit.int .i64 (pInt y0.2).1).wf=true):=jc9 (jbt maxU _)
 generalize hy1:pInt y0.2=y1 at hr' wf1 ⊢
 replace hy1:=Lib.hid hy1
 have rowRl:=rowR.lt
 replace rowB:=rowB.keep k1 (by omega)
 replace rowR:=rowR.keep k1 (by omega)
 replace kk:=kk.trans k1
 replace hr:=hr'
 clear hr' k1 rowRl
 go_wp2_with fail
 refine hK.out _ _ (rowB.cell 0) (fun jaa=>?_)
 clear hK K
 try simp only[Act.put,zz1,zz2,zz3,zz4,zz5,zz6]
 refine wpAnyH_ready (rs:=[5]) (by kernel_rfl) (by simp) ?_
 refine AllReadyH.cons rfl (fun K hK=>?_) AllReadyH.nil
 go_simp
 go_fit (jip rd p _ _ hr)
 rintro e w3 ⟨rfl,hr',k2⟩
 have wf2:Hid ((jaF y1.2).1.length≤far):=Nat.le_trans (jdU 65536 _) (by decide)
 generalize hy2:jaF y1.2=y2 at hr' wf2 ⊢
 replace hy2:=Lib.hid hy2
 have rowRl:=rowR.lt
 replace rowB:=rowB.keep k2 (by omega)
 replace rowR:=rowR.keep k2 (by omega)
 replace kk:=kk.trans k2
 replace hr:=hr'
 clear hr' k2 rowRl
 go_wp2_with fail
 refine hK.out _ _ (rowB.cell 0) (fun jaa=>?_)
 clear hK K
 try simp only[Act.put,zz1,zz2,zz3,zz4,zz5,zz6]
 refine wpAnyH_ready (rs:=[9]) (by kernel_rfl) (by simp) ?_
 refine AllReadyH.cons rfl (fun K hK=>?_) AllReadyH.nil
 go_simp
 go_fit (jll rd p _ _ hr (fun b hb=>Nat.lt_of_lt_of_le (hpl b hb) kk.size))
 rintro e w4 ⟨v,rfl,q3,hr',k3⟩
 generalize hy3:(jaA pInt) y2.2=y3 at hr' q3
 replace hy3:=Lib.hid hy3
 obtain⟨a3,cc3,hv,q3'⟩:=jba q3
 simp only[List.cons.injEq,and_true]at hv
 subst hv
 clear q3
 have q3:=q3'
 clear q3'
 have rowRl:=rowR.lt
 replace rowB:=rowB.keep k3 (by omega)
 replace rowR:=rowR.keep k3 (by omega)
 have hRl:=rowRl
 replace kk:=kk.trans k3
 replace q3:=(jac (jab _)).mono q3 (fun b hb=>(⟨by have:=hb.1;omega,hb.2⟩:jb5 (w.heap.size+2) w4 b))
 clear hRl
 replace hr:=hr'
 clear hr' k3 rowRl
 go_wp2_with fail
 refine hK.out _ _ (rowB.cell 0) (fun jaa=>?_)
 clear hK K
 try simp only[Act.put,zz1,zz2,zz3,zz4,zz5,zz6]
 refine wpAnyH_ready (rs:=[11]) (by kernel_rfl) (by simp) ?_
 refine AllReadyH.cons rfl (fun K hK=>?_) AllReadyH.nil
 go_simp
 go_fit (jg9 rd p _ _ hr)
 rintro e w5 ⟨rfl,hr',k4⟩
 generalize hy4:jbZ y3.2=y4 at hr' ⊢
 replace hy4:=Lib.hid hy4
 have rowRl:=rowR.lt
 replace q3:=(jac (jab _)).mono ((jac (jab _)).keep q3 k4 (fun b hb e=>by have:=hb.1;omega)) (fun b hb=>(⟨hb.1,Nat.lt_of_lt_of_le hb.2 k4.size⟩:jb5 (w.heap.size+2) w5 b))
 replace rowB:=rowB.keep k4 (by omega)
 replace rowR:=rowR.keep k4 (by omega)
 replace kk:=kk.trans k4
 replace hr:=hr'
 clear hr' k4 rowRl
 go_wp2_with fail
 refine hK.out _ _ (rowB.cell 0) (fun jaa=>?_)
 clear hK K
 try simp only[Act.put,zz1,zz2,zz3,zz4,zz5,zz6]
 refine wpAnyH_ready (rs:=[13]) (by kernel_rfl) (by simp) ?_
 refine AllReadyH.cons rfl (fun K hK=>?_) AllReadyH.nil
 go_simp
 go_fit (jc8 rd p _ _ hr)
 rintro e w6 ⟨rfl,hr',k5⟩
 have wf5:Hid ((Lit.int .i64 (pInt y4.2).1).wf=true):=jc9 (jbt maxU _)
 generalize hy5:pInt y4.2=y5 at hr' wf5 ⊢
 replace hy5:=Lib.hid hy5
 have rowRl:=rowR.lt
 replace q3:=(jac (jab _)).mono ((jac (jab _)).keep q3 k5 (fun b hb e=>by have:=hb.1;omega)) (fun b hb=>(⟨hb.1,Nat.lt_of_lt_of_le hb.2 k5.size⟩:jb5 (w.heap.size+2) w6 b))
 replace rowB:=rowB.keep k5 (by omega)
 replace rowR:=rowR.keep k5 (by omega)
 replace kk:=kk.trans k5
 replace hr:=hr'
 clear hr' k5 rowRl
 go_wp2_with fail
 refine hK.out _ _ (rowB.cell 0) (fun jaa=>?_)
 clear hK K
 try simp only[Act.put,zz1,zz2,zz3,zz4,zz5,zz6]
 refine wpAnyH_ready (rs:=[15]) (by kernel_rfl) (by simp) ?_
 refine AllReadyH.cons rfl (fun K hK=>?_) AllReadyH.nil
 go_simp
 go_fit (jg9 rd p _ _ hr)
 rintro e w7 ⟨rfl,hr',k6⟩
 generalize hy6:jbZ y5.2=y6 at hr' ⊢
 replace hy6:=Lib.hid hy6
 have rowRl:=rowR.lt
 replace q3:=(jac (jab _)).mono ((jac (jab _)).keep q3 k6 (fun b hb e=>by have:=hb.1;omega)) (fun b hb=>(⟨hb.1,Nat.lt_of_lt_of_le hb.2 k6.size⟩:jb5 (w.heap.size+2) w7 b))
 replace rowB:=rowB.keep k6 (by omega)
 replace rowR:=rowR.keep k6 (by omega)
 replace kk:=kk.trans k6
 replace hr:=hr'
 clear hr' k6 rowRl
 go_wp2_with fail
 refine hK.out _ _ (rowB.cell 0) (fun jaa=>?_)
 clear hK K
 try simp only[Act.put,zz1,zz2,zz3,zz4,zz5,zz6]
 have hbd:=fun w'=>jcZ (P:=Tryz.prog) joS [.int .i64 y0.1,.int .i64 y1.1,.string (strB y2.1),.slice a3 y3.1.length cc3,.bool y4.1,.int .i64 y5.1,.bool y6.1] (by simp only[List.map_cons,List.map_nil,jbJ,jdT,jdq,jb8]) w'
 simp only[jbX,Nat.reduceAdd]at hbd
 refine tk 16 rfl jaa ?_
 refine wpAnyH_ready (rs:=[17]) (by kernel_rfl) (by simp) ?_
 refine AllReadyH.cons rfl (fun K hK=>?_) AllReadyH.nil
 have hjl:(jal [.int .i64 y0.1,.int .i64 y1.1,.string (strB y2.1),.slice a3 y3.1.length cc3,.bool y4.1,.int .i64 y5.1,.bool y6.1]).length=7:=by simp only[jbN,jcn,jbJ,jdT,jdq,jb8]
 have hjo:ones (jal [.int .i64 y0.1,.int .i64 y1.1,.string (strB y2.1),.slice a3 y3.1.length cc3,.bool y4.1,.int .i64 y5.1,.bool y6.1])=true:=by simp only[jcz,jcr,jdy,jgg,jfw,jdf,Bool.and_self]
 have hst:=jaf (P:=Tryz.prog) S_Index rowR rfl hjl hjo
 have rowF:=rowR.setRow (jal [.int .i64 y0.1,.int .i64 y1.1,.string (strB y2.1),.slice a3 y3.1.length cc3,.bool y4.1,.int .i64 y5.1,.bool y6.1])
 have kS:=(Keep.refl (·=w.heap.size+1) w7).setRow (fun _=>rfl) (jal [.int .i64 y0.1,.int .i64 y1.1,.string (strB y2.1),.slice a3 y3.1.length cc3,.bool y4.1,.int .i64 y5.1,.bool y6.1]).toArray
 replace rowB:=rowB.keep kS (by omega)
 have HJL:=Lib.hid hjl
 have HJO:=Lib.hid hjo
 clear hjl hjo
 try simp only[zz1,zz2,zz3]
 go_simp
 clear hst
 refine hK.out _ _ (rowB.cell 0) (fun jaa=>?_)
 clear hK K
 try simp only[Act.put,zz1,zz2,zz3,zz4,zz5,zz6]
 refine wpAnyH_done (by kernel_rfl) ?_ _
 clear hbd hmf jaa
 go_wp2_with fail
 have hinfo:(Tryz.prog.info? 41).map (·.size)=some (jal [.int .i64 y0.1,.int .i64 y1.1,.string (strB y2.1),.slice a3 y3.1.length cc3,.bool y4.1,.int .i64 y5.1,.bool y6.1]).toArray.size:=by rw[List.size_toArray,HJL.out];exact S_Index.info
 refine bodyPost_ret (results_cell_row (by rfl) _ _ _ _ _ _ _ (by rfl) rowF Tryz.underlying41 (by rfl) hinfo) rfl ?_
 replace q3:=(jac (jab _)).mono ((jac (jab _)).keep q3 kS (fun b hb e=>by have:=hb.1;omega)) (fun b hb=>(⟨by have:=hb.1;omega,Nat.lt_of_lt_of_le hb.2 kS.size⟩:jai w (w7.setRow (w.heap.size+1) (jal [.int .i64 y0.1,.int .i64 y1.1,.string (strB y2.1),.slice a3 y3.1.length cc3,.bool y4.1,.int .i64 y5.1,.bool y6.1]).toArray) b))
 have HE:jbe s=(⟨y0.1,y1.1,y2.1,y3.1,y4.1,y5.1,y6.1⟩,y6.2):=by simp only[jbe,hy0.out,hy1.out,hy2.out,hy3.out,hy4.out,hy5.out,hy6.out]
 rw[HE]
 refine⟨_,rfl,⟨[_],[_],[_],[_],[_],[_],[_],by simp[jal,Value.cells],⟨rfl,wf0.out⟩,⟨rfl,wf1.out⟩,⟨rfl,wf2.out⟩,q3,rfl,⟨rfl,wf5.out⟩,rfl⟩,HJO.out,hr.keep kS (by omega) (fun b hb e=>by have:=hpl b hb;omega),kk.then kS (fun i hi e=>by omega)⟩
end
theorem jok(a:Act)(dst:Option Tmp)(parts:Array (Nat×Operand))(ty:TypeId)(pos:String)(after:Array Edge)(guard:Option (Nat×Bool)):execOp a.eval {dst:=dst,op:=.buildSlice 48 1 parts,type:=ty,pos:=pos,after:=after,guard:=guard}=jcC 48 1 (parts.map fun x=>(x.1,a.eval x.2)):=rfl
attribute [local go_sem ↓] jok
set_option maxRecDepth 100000 in
set_option maxHeartbeats 4000000 in
theorem jmC(rd:Nat)(p:Nat→Prop)(s:RdS)(w:World)(h:IsRd w 151 rd p s)(hpl:∀b,p b→b<w.heap.size) :
  Calls Tryz.prog 191 #[.agg #[.pointer (some ⟨rd,0,none⟩)],.func (.func 152) #[.agg #[.pointer (some ⟨rd,0,none⟩)]] #[]] w (jfi (jap jeJ) 151 rd p w (jaA jbe s)):=by
 have hlt:=h.lt
 have h0:=h.nix ((Keep.refl Nix w).alloc (.cells #[.pointer (some ⟨rd,0,none⟩)] 154))
 have row0:RowIs (w.alloc (.cells #[.pointer (some ⟨rd,0,none⟩)] 154)) w.heap.size 154 [.pointer (some ⟨rd,0,none⟩)]:=RowIs.alloc w _ _
 have hle:=jcc 5000 s
 clear h
 go_enter Tryz.func191,Tryz.ntmps191
 go_wp2_with fail
 go_fit (jci rd p s _ h0 5000 (by unfold jae;omega))
 rintro e w1 ⟨rfl,h1,k1⟩
 have row1:=row0.keep k1 (by omega)
 have kk1:Keep (·=rd) w w1:=((Keep.refl (·=rd) w).alloc (.cells #[.pointer (some ⟨rd,0,none⟩)] 154)).trans (k1.mono fun _ h=>h)
 have HP:Hid (jaA jbe s=jan jbe (numS (5000:Int).toNat s).1 (numS (5000:Int).toNat s).2):=rfl
 have hle':(numS (5000:Int).toNat s).1≤5000:=hle
 clear h0 row0 k1 hle
 generalize numS (5000:Int).toNat s=N at h1 HP hle' ⊢
 go_wp2_with fail
 go_loopw [5,6] (fun l n wr=>∃(xs:List GIndex) (css:List (List Value)) (m:Nat) (s':RdS) (a:Option Addr) (cap:Nat),l=.slice a xs.length cap∧n=.int .i64 m∧Hid (jan jbe N.1 N.2=(xs ++ (jan jbe m s').1,(jan jbe m s').2))∧
   wr.ownsRow (w.heap.size+1) 41 7 (.slice a xs.length cap) xs.length css.flatten∧Els jeJ wr (fun b=>jai w wr b∧¬OwnB (.slice a xs.length cap) b) css xs∧IsRd wr 151 rd p s'∧RowIs wr w.heap.size 154 [.pointer (some ⟨rd,0,none⟩)]∧Keep (·=rd) w wr∧xs.length+m≤5000) (fun _ n _=>(intOf n).toNat)
 case atStart=>exact⟨[],[],N.1,N.2,none,0,rfl,rfl,rfl,World.ownsRow_nil _ _ _ _,Els.nil _ _ _,h1,row1,kk1,by simpa using hle'⟩
 case round=>
  clear h1 row1 kk1 hle'
  obtain⟨xs,css,m,s',a,cap,rfl,rfl,hp,own,els,hr,row,kk,hm⟩:=hrel
  have x0:wr.cell? ⟨w.heap.size,0,none⟩=some (.pointer (some ⟨rd,0,none⟩)):=row.cell 0
  have hfar:xs.length≤far:=by unfold far;omega
  by_cases hm0:m=0
  ·subst hm0
   clear hm
   go_wp2_with fail
   go_ret
   refine⟨_,rfl,?_,?_,kk⟩
   ·rw[HP.out,hp.out];exact Els.list (Nat.le_succ _) own els wGIndex_lawful (by simp[jan]) hfar
   ·rw[HP.out,hp.out];exact hr
  ·obtain⟨m,rfl⟩:∃m',m=m'+1:=⟨m - 1,by omega⟩
   have hpos:(0:Int)<((m+1:Nat):Int):=by omega
   clear hm0
   go_wp2_with fail
   go_fit (jey rd p s' wr hr)
   rintro e w2 ⟨rfl,k2⟩
   have own2:=jad own k2 (fun _ _ h=>h)
   have els2:=(els.keep wGIndex_lawful (k2.nix (S:=(·=rd))) (fun b hb e=>by have:=hb.1.1;omega)).mono (q:=fun b=>jai w w2 b∧¬OwnB (.slice a xs.length cap) b) wGIndex_lawful (fun b hb=>⟨⟨hb.1.1,Nat.lt_of_lt_of_le hb.1.2 k2.size⟩,hb.2⟩)
   have hr2:=hr.nix k2
   have row2:=row.keep k2 (fun h=>h)
   have kk2:Keep (·=rd) w w2:=kk.trans (k2.nix)
   have hwr:=kk.size
   have hsz2:=k2.size
   clear own els hr row kk x0
   have x0:w2.cell? ⟨w.heap.size,0,none⟩=some (.pointer (some ⟨rd,0,none⟩)):=row2.cell 0
   rcases jbH s'.e 0 with⟨ht,he⟩ | ⟨ht,he⟩
   ·go_wp2_with fail
    go_fit (job rd p s' w2 hr2 (fun b hb=>Nat.lt_of_lt_of_le (hpl b hb) (by omega)))
    rintro e w3 ⟨c,rfl,hc,h1c,hr3,k3⟩
    have hlc:=wGIndex_lawful.len hc
    have hls:=jb3 (P:=Tryz.prog) T_lIndex (by decide) c hlc w3
    have own3:=jad own2 k3 (fun b hb e=>by have:=(own2.lt b hb).1;omega)
    have row3:=row2.keep k3 (by omega)
    have kk3:=kk2.trans k3
    have hB:=row3.lt
    have hsz3:=k3.size
    have hol:∀b,OwnB (.slice a xs.length cap) b→b<w2.heap.size:=fun b hb=>(own2.lt b hb).2
    have hlen:=xs.length
    have hHP:Hid (jan jbe (m+1) s'=((jbe s').1 :: (jan jbe m (jbe s').2).1,(jan jbe m (jbe s').2).2)):=by show _=_;rw[jan,if_pos he.out]
    clear own2 hr2 row2 kk2 x0 hlen
    go_wp2_with (at_builtin;refine jbi T_lIndex rfl (.tmp 20) (.tmp 23) rfl (w.heap.size+1) rfl own3 rfl ?c0 ?c1 ?c2 ?c3 ?c4 ?_)
    case c0=>simpa using hlc
    case c1=>first | (simpa [ones] using h1c) | (intro u hu;exact(List.all_eq_true.1 h1c) u (by simpa using hu))
    case c2=>unfold maxLen;omega
    case c3=>omega
    case c4=>omega
    intro a' cap' w4 own4 k4 jax
    have els4:=els2.push wGIndex_lawful hc k3 k4 hlt (by omega) hol jax
    have row4:RowIs w4 w.heap.size 154 [.pointer (some ⟨rd,0,none⟩)]:=row3.keep k4 (fun hb=>by have:=hol _ hb;have:=(own3.lt _ hb).1;omega)
    have hr4:IsRd w4 151 rd p (jbe s').2:=hr3.keep k4 (fun hb=>by have:=(own3.lt _ hb).1;omega) (fun b hb hb2=>by have:=(own3.lt _ hb2).1;have:=hpl b hb;omega)
    have kk4:Keep (·=rd) w w4:=kk3.then k4 (fun i hi hb=>by have:=(own3.lt _ hb).1;omega)
    clear own3 els2 row3 hr3 kk3 k3 k4 jax
    go_wp2
    go_roundw
    case rel=>exact⟨xs ++ [(jbe s').1],css ++ [c],m,(jbe s').2,a',cap',by simp,by go_num,by show _=_;rw[hp.out,hHP.out];simp,by simpa using own4,by simpa using els4,hr4,row4,kk4,by simp;omega⟩
    case measure=>simp[intOf] <;> omega
   ·go_wp2_with fail
    go_ret
    have hHP:jan jbe (m+1) s'=([],s'):=by rw[jan,if_neg he]
    refine⟨_,rfl,?_,?_,kk2⟩
    ·rw[HP.out,hp.out,hHP];exact Els.list (Nat.le_succ _) own2 els2 wGIndex_lawful (by simp) hfar
    ·rw[HP.out,hp.out,hHP];exact hr2
def jbk:Ps GCatalog:=fun s0=>
 let a0:=pInt s0
 let a1:=pInt a0.2
 let a2:=(jaA jbg) a1.2
 let a3:=(jaA jbe) a2.2
 (⟨a0.1,a1.1,a2.1,a3.1⟩,a3.2)
theorem jl0(a:Act)(dst:Option Tmp)(ty:TypeId)(pos:String)(after:Array Edge)(guard:Option (Nat×Bool))(parts:Array (Nat×Operand)):execOp a.eval {dst:=dst,op:=.build 50 parts,type:=ty,pos:=pos,after:=after,guard:=guard}=jcJ 50 (parts.map fun x=>(x.1,a.eval x.2)):=rfl
theorem jfQ(a:Act)(dst:Option Tmp)(ty:TypeId)(pos:String)(after:Array Edge)(guard:Option (Nat×Bool))(x y:Operand):execOp a.eval {dst:=dst,op:=.store 50 x y,type:=ty,pos:=pos,after:=after,guard:=guard}=jbm 50 (a.eval x) (a.eval y):=rfl
section
attribute [local go_sem ↓] jl0 jfQ
set_option maxRecDepth 100000 in
set_option maxHeartbeats 8000000 in
theorem jhu(rd:Nat)(p:Nat→Prop)(s:RdS)(w:World)(h:IsRd w 151 rd p s)(hpl:∀b,p b→b<w.heap.size) :
  Calls Tryz.prog 136 #[.agg #[.pointer (some ⟨rd,0,none⟩)]] w (jfh jd1 151 rd p w (jbk s)):=by
 have hlt:=h.lt
 have hmf:∀(fn:Fn) (first cap:Array Value) (w:World),(Instr.makeFunc fn first cap).run Tryz.prog w=.ok (.func fn first cap) w:=fun _ _ _ _=>rfl
 have hsz:(w.alloc (.cells #[.pointer (some ⟨rd,0,none⟩)] 154)).heap.size=w.heap.size+1:=by simp
 have rowB:RowIs ((w.alloc (.cells #[.pointer (some ⟨rd,0,none⟩)] 154)).alloc (.cells #[.int .i64 0,.int .i64 0,.slice none 0 0,.slice none 0 0] 50)) w.heap.size 154 [.pointer (some ⟨rd,0,none⟩)]:=(RowIs.alloc w _ _).keep ((Keep.refl Nix _).alloc _) id
 have rowR:RowIs ((w.alloc (.cells #[.pointer (some ⟨rd,0,none⟩)] 154)).alloc (.cells #[.int .i64 0,.int .i64 0,.slice none 0 0,.slice none 0 0] 50)) (w.heap.size+1) 50 [.int .i64 0,.int .i64 0,.slice none 0 0,.slice none 0 0]:=by
  rw[←hsz]
  exact RowIs.alloc (w.alloc (.cells #[.pointer (some ⟨rd,0,none⟩)] 154)) _ _
 have hr:=h.nix (((Keep.refl Nix w).alloc (.cells #[.pointer (some ⟨rd,0,none⟩)] 154)).alloc (.cells #[.int .i64 0,.int .i64 0,.slice none 0 0,.slice none 0 0] 50))
 have kk:Keep (·=rd) w ((w.alloc (.cells #[.pointer (some ⟨rd,0,none⟩)] 154)).alloc (.cells #[.int .i64 0,.int .i64 0,.slice none 0 0,.slice none 0 0] 50)):=((Keep.refl (·=rd) w).alloc _).alloc _
 clear h hsz
 replace rowB:=rowB.same (w':=((w.alloc (.cells #[.pointer (some ⟨rd,0,none⟩)] 154)).alloc (.cells #[.int .i64 0,.int .i64 0,.slice none 0 0,.slice none 0 0] 50)).drew)
 replace rowR:=rowR.same (w':=((w.alloc (.cells #[.pointer (some ⟨rd,0,none⟩)] 154)).alloc (.cells #[.int .i64 0,.int .i64 0,.slice none 0 0,.slice none 0 0] 50)).drew)
 replace hr:=hr.same (w':=((w.alloc (.cells #[.pointer (some ⟨rd,0,none⟩)] 154)).alloc (.cells #[.int .i64 0,.int .i64 0,.slice none 0 0,.slice none 0 0] 50)).drew)
 replace kk:=kk.drew
 go_enter Tryz.func136,Tryz.ntmps136
 go_wp2_with fail
 refine wp_region_held_drew (S:=(fun w'=>w'.cell? ⟨w.heap.size,0,none⟩=some (.pointer (some ⟨rd,0,none⟩)))) (by kernel_rfl) (rowB.cell 0) (fun jaa=>?_)
 refine tk 0 rfl jaa ?_
 refine tk 2 rfl jaa ?_
 refine tk 4 rfl jaa ?_
 refine tk 5 rfl jaa ?_
 refine tk 6 rfl jaa ?_
 refine tk 8 rfl jaa ?_
 refine tk 9 rfl jaa ?_
 refine tk 10 rfl jaa ?_
 refine wpAnyH_ready (rs:=[1]) (by kernel_rfl) (by simp) ?_
 refine AllReadyH.cons rfl (fun K hK=>?_) AllReadyH.nil
 go_simp
 go_fit (jc8 rd p _ _ hr)
 rintro e w1 ⟨rfl,hr',k0⟩
 have wf0:Hid ((Lit.int .i64 (pInt s).1).wf=true):=jc9 (jbt maxU _)
 generalize hy0:pInt s=y0 at hr' wf0 ⊢
 replace hy0:=Lib.hid hy0
 have rowRl:=rowR.lt
 replace rowB:=rowB.keep k0 (by omega)
 replace rowR:=rowR.keep k0 (by omega)
 replace kk:=kk.trans k0
 replace hr:=hr'
 clear hr' k0 rowRl
 go_wp2_with fail
 refine hK.out _ _ (rowB.cell 0) (fun jaa=>?_)
 clear hK K
 try simp only[Act.put,zz1,zz2,zz3,zz4,zz5,zz6]
 refine wpAnyH_ready (rs:=[3]) (by kernel_rfl) (by simp) ?_
 refine AllReadyH.cons rfl (fun K hK=>?_) AllReadyH.nil
 go_simp
 go_fit (jc8 rd p _ _ hr)
 rintro e w2 ⟨rfl,hr',k1⟩
 have wf1:Hid ((Lit.int .i64 (pInt y0.2).1).wf=true):=jc9 (jbt maxU _)
 generalize hy1:pInt y0.2=y1 at hr' wf1 ⊢
 replace hy1:=Lib.hid hy1
 have rowRl:=rowR.lt
 replace rowB:=rowB.keep k1 (by omega)
 replace rowR:=rowR.keep k1 (by omega)
 replace kk:=kk.trans k1
 replace hr:=hr'
 clear hr' k1 rowRl
 go_wp2_with fail
 refine hK.out _ _ (rowB.cell 0) (fun jaa=>?_)
 clear hK K
 try simp only[Act.put,zz1,zz2,zz3,zz4,zz5,zz6]
 refine wpAnyH_ready (rs:=[7]) (by kernel_rfl) (by simp) ?_
 refine AllReadyH.cons rfl (fun K hK=>?_) AllReadyH.nil
 go_simp
 go_fit (jmE rd p _ _ hr (fun b hb=>Nat.lt_of_lt_of_le (hpl b hb) kk.size))
 rintro e w3 ⟨v,rfl,q2,hr',k2⟩
 generalize hy2:(jaA jbg) y1.2=y2 at hr' q2
 replace hy2:=Lib.hid hy2
 obtain⟨a2,cc2,hv,q2'⟩:=jba q2
 simp only[List.cons.injEq,and_true]at hv
 subst hv
 clear q2
 have q2:=q2'
 clear q2'
 have rowRl:=rowR.lt
 replace rowB:=rowB.keep k2 (by omega)
 replace rowR:=rowR.keep k2 (by omega)
 have hRl:=rowRl
 replace kk:=kk.trans k2
 replace q2:=(jac wGTable_lawful).mono q2 (fun b hb=>(⟨by have:=hb.1;omega,hb.2⟩:jb5 (w.heap.size+2) w3 b))
 clear hRl
 replace hr:=hr'
 clear hr' k2 rowRl
 go_wp2_with fail
 refine hK.out _ _ (rowB.cell 0) (fun jaa=>?_)
 clear hK K
 try simp only[Act.put,zz1,zz2,zz3,zz4,zz5,zz6]
 refine wpAnyH_ready (rs:=[11]) (by kernel_rfl) (by simp) ?_
 refine AllReadyH.cons rfl (fun K hK=>?_) AllReadyH.nil
 go_simp
 go_fit (jmC rd p _ _ hr (fun b hb=>Nat.lt_of_lt_of_le (hpl b hb) kk.size))
 rintro e w4 ⟨v,rfl,q3,hr',k3⟩
 generalize hy3:(jaA jbe) y2.2=y3 at hr' q3
 replace hy3:=Lib.hid hy3
 obtain⟨a3,cc3,hv,q3'⟩:=jba q3
 simp only[List.cons.injEq,and_true]at hv
 subst hv
 clear q3
 have q3:=q3'
 clear q3'
 have rowRl:=rowR.lt
 replace q2:=(jac wGTable_lawful).mono ((jac wGTable_lawful).keep q2 k3 (fun b hb e=>by have:=hb.1;omega)) (fun b hb=>(⟨hb.1,Nat.lt_of_lt_of_le hb.2 k3.size⟩:jb5 (w.heap.size+2) w4 b))
 replace rowB:=rowB.keep k3 (by omega)
 replace rowR:=rowR.keep k3 (by omega)
 have hRl:=rowRl
 replace kk:=kk.trans k3
 replace q3:=(jac wGIndex_lawful).mono q3 (fun b hb=>(⟨by have:=hb.1;omega,hb.2⟩:jb5 (w.heap.size+2) w4 b))
 clear hRl
 replace hr:=hr'
 clear hr' k3 rowRl
 go_wp2_with fail
 refine hK.out _ _ (rowB.cell 0) (fun jaa=>?_)
 clear hK K
 try simp only[Act.put,zz1,zz2,zz3,zz4,zz5,zz6]
 have hbd:=fun w'=>jcZ (P:=Tryz.prog) jmj [.int .i64 y0.1,.int .i64 y1.1,.slice a2 y2.1.length cc2,.slice a3 y3.1.length cc3] (by simp only[List.map_cons,List.map_nil,jbJ,jb8]) w'
 simp only[jbX,Nat.reduceAdd]at hbd
 refine tk 12 rfl jaa ?_
 refine wpAnyH_ready (rs:=[13]) (by kernel_rfl) (by simp) ?_
 refine AllReadyH.cons rfl (fun K hK=>?_) AllReadyH.nil
 have hjl:(jal [.int .i64 y0.1,.int .i64 y1.1,.slice a2 y2.1.length cc2,.slice a3 y3.1.length cc3]).length=4:=by simp only[jbN,jcn,jbJ,jb8]
 have hjo:ones (jal [.int .i64 y0.1,.int .i64 y1.1,.slice a2 y2.1.length cc2,.slice a3 y3.1.length cc3])=true:=by simp only[jcz,jcr,jdy,jdf,Bool.and_self]
 have hst:=jaf (P:=Tryz.prog) S_Catalog rowR rfl hjl hjo
 have rowF:=rowR.setRow (jal [.int .i64 y0.1,.int .i64 y1.1,.slice a2 y2.1.length cc2,.slice a3 y3.1.length cc3])
 have kS:=(Keep.refl (·=w.heap.size+1) w4).setRow (fun _=>rfl) (jal [.int .i64 y0.1,.int .i64 y1.1,.slice a2 y2.1.length cc2,.slice a3 y3.1.length cc3]).toArray
 replace rowB:=rowB.keep kS (by omega)
 have HJL:=Lib.hid hjl
 have HJO:=Lib.hid hjo
 clear hjl hjo
 try simp only[zz1,zz2,zz3]
 go_simp
 clear hst
 refine hK.out _ _ (rowB.cell 0) (fun jaa=>?_)
 clear hK K
 try simp only[Act.put,zz1,zz2,zz3,zz4,zz5,zz6]
 refine wpAnyH_done (by kernel_rfl) ?_ _
 clear hbd hmf jaa
 go_wp2_with fail
 have hinfo:(Tryz.prog.info? 50).map (·.size)=some (jal [.int .i64 y0.1,.int .i64 y1.1,.slice a2 y2.1.length cc2,.slice a3 y3.1.length cc3]).toArray.size:=by rw[List.size_toArray,HJL.out];exact S_Catalog.info
 refine bodyPost_ret (results_cell_row (by rfl) _ _ _ _ _ _ _ (by rfl) rowF Tryz.underlying50 (by rfl) hinfo) rfl ?_
 replace q2:=(jac wGTable_lawful).mono ((jac wGTable_lawful).keep q2 kS (fun b hb e=>by have:=hb.1;omega)) (fun b hb=>(⟨by have:=hb.1;omega,Nat.lt_of_lt_of_le hb.2 kS.size⟩:jai w (w4.setRow (w.heap.size+1) (jal [.int .i64 y0.1,.int .i64 y1.1,.slice a2 y2.1.length cc2,.slice a3 y3.1.length cc3]).toArray) b))
 replace q3:=(jac wGIndex_lawful).mono ((jac wGIndex_lawful).keep q3 kS (fun b hb e=>by have:=hb.1;omega)) (fun b hb=>(⟨by have:=hb.1;omega,Nat.lt_of_lt_of_le hb.2 kS.size⟩:jai w (w4.setRow (w.heap.size+1) (jal [.int .i64 y0.1,.int .i64 y1.1,.slice a2 y2.1.length cc2,.slice a3 y3.1.length cc3]).toArray) b))
 have HE:jbk s=(⟨y0.1,y1.1,y2.1,y3.1⟩,y3.2):=by simp only[jbk,hy0.out,hy1.out,hy2.out,hy3.out]
 rw[HE]
 refine⟨_,rfl,⟨[_],[_],[_],[_],by simp[jal,Value.cells],⟨rfl,wf0.out⟩,⟨rfl,wf1.out⟩,q2,q3⟩,HJO.out,hr.keep kS (by omega) (fun b hb e=>by have:=hpl b hb;omega),kk.then kS (fun i hi e=>by omega)⟩
end
end Go.Proofs.YtibaehlfpgipfaaGreat
