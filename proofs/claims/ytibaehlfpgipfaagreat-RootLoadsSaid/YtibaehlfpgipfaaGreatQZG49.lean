/- ROOT: Load: the catalogs. Printed by mac.py. -/
import Derived.Test.YtibaehlfpgipfaaGreatQZRlF
import Derived.Test.YtibaehlfpgipfaaGreatQZG9
import Derived.Test.YtibaehlfpgipfaaGreatQZG23
namespace Go.Proofs.YtibaehlfpgipfaaGreat
open Go.RowKit
section
theorem T_cats:SliceT Tryz.prog 76 50 4 64:=SliceT.mk' Tryz.underlying76 (z:=.agg #[.int .i64 0,.int .i64 0,.slice none 0 0,.slice none 0 0]) (by kernel_rfl) rfl (by decide)
def jej(w:World)(r:Nat)(q:Nat→Prop)(s0:RdS)(e:Ending)(w':World):Prop:=match jbn (numS M30 s0).1 0 (numS M30 s0).2 with
 | none=>e=.returned (.tuple #[.slice none 0 0,.bool false])∧Keep (·=r) w w'
 | some y=>∃(a:Option Addr) (cap:Nat) (css:List (List Value)),e=.returned (.tuple #[.slice a y.1.length cap,.bool (decide (0<y.1.length))])∧w'.ownsRow w.heap.size 50 4 (.slice a y.1.length cap) y.1.length css.flatten∧Els jat w' (fun b=>jai w w' b∧¬OwnB (.slice a y.1.length cap) b) css y.1∧IsRd w' 151 r q y.2∧Keep (·=r) w w'
theorem jeN{w w':World}{r:Nat}{q:Nat→Prop}{s0:RdS}(h:jbn (numS M30 s0).1 0 (numS M30 s0).2=none)(k:Keep (·=r) w w'):jej w r q s0 (.returned (.tuple #[.slice none 0 0,.bool false])) w':=by
 unfold jej;rw[h];exact⟨rfl,k⟩
section
attribute [local go_sem ↓] jbB jcp
set_option maxRecDepth 100000 in
set_option maxHeartbeats 8000000 in
theorem jl2{q:Nat→Prop}(r:Nat)(s0:RdS)(w:World)(h:IsRd w 151 r q s0)(hql:∀b,q b→b<w.heap.size) :
  Calls Tryz.prog 47 #[.pointer (some ⟨r,0,none⟩)] w (jej w r q s0):=by
 have hrw:=h.lt
 have HC:=jci r _ s0 w h 1073741824 ⟨by decide,by decide⟩
 replace HC:Calls Tryz.prog 43 #[.pointer (some ⟨r,0,none⟩),.int .i64 1073741824] w fun e w'=>e=.returned (.int .i64 (numS M30 s0).1)∧IsRd w' 151 r q (numS M30 s0).2∧Keep (·=r) w w':=HC
 have hNle:=jcc M30 s0
 obtain⟨N,s1,hs1⟩:∃N s1,Hid (numS M30 s0=(N,s1)):=⟨_,_,rfl⟩
 rw[hs1.out]at HC hNle
 replace HC:=Lib.hid HC
 replace hNle:N≤1073741824:=hNle
 clear h
 go_enter Tryz.func47,Tryz.ntmps47
 go_wp2_with fail
 go_fit HC.out
 rintro e w1 ⟨rfl,rd1,k1⟩
 clear HC
 have RD1:=Lib.hid rd1
 have K1:=Lib.hid k1
 have hsz1:=k1.size
 clear rd1 k1
 go_wp2_with fail
 go_loopw [4,6] (fun v i wr=>∃(k:Nat) (E:List GCatalog) (css:List (List Value)) (a:Option Addr) (cap:Nat) (s:RdS),k≤N∧i=.int .i64 (k:Int)∧Hid (E.length=k)∧v=.slice a k cap∧Hid (jbn N 0 s1=(jbn (N - k) k s).map (fun y=>(E ++ y.1,y.2)))∧IsRd wr 151 r q s∧wr.ownsRow w.heap.size 50 4 (.slice a k cap) k css.flatten∧Els jat wr (fun b=>jai w wr b∧¬OwnB (.slice a k cap) b) css E∧Keep (·=r) w wr) (fun _ i _=>N - (intOf i).toNat)
 case atStart=>exact⟨0,[],[],none,0,s1,Nat.zero_le _,rfl,rfl,rfl,by show _=_;rw[Nat.sub_zero];cases jbn N 0 s1 <;> rfl,RD1.out,World.ownsRow_nil _ _ _ _,Els.nil _ _ _,K1.out⟩
 case round=>
  clear RD1 K1 hsz1
  obtain⟨k,E,css,a,cap,s,hk,rfl,hEk,rfl,hq,rd,own,els,kk⟩:=hrel
  have hsw:=kk.size
  have RD:=Lib.hid rd
  have OW:=Lib.hid own
  have EL:=Lib.hid els
  have HKK:=Lib.hid kk
  clear rd own els kk
  by_cases hlt:k<N
  ·have hi1:(k:Int)<(N:Int):=by omega
   have hwk:IntKind.i64.wrap ((k:Int)+1)=(k:Int)+1:=by rw[IntKind.wrap_i64];omega
   have HCE:=Lib.hid (jmk r _ s wr RD.out)
   by_cases he:s.e=0
   ·have te:(s.e == 0)=true:=by simp[he]
    have HE:=Lib.hid he
    have HC3:=jhV r _ s wr RD.out 1073741824 ⟨by decide,by decide⟩
    replace HC3:Calls Tryz.prog 45 #[.pointer (some ⟨r,0,none⟩),.int .i64 1073741824] wr fun e w'=>∃a' cap',e=.returned (.slice a' (ja4 M30 s).1.length cap')∧w'.ownsRow wr.heap.size 5 1 (.slice a' (ja4 M30 s).1.length cap') (ja4 M30 s).1.length ((ja4 M30 s).1.map bv)∧IsRd w' 151 r q (ja4 M30 s).2∧Keep (·=r) wr w':=HC3
    have htl:=jdU M30 s
    obtain⟨t,s2,ht⟩:∃t s2,Hid (ja4 M30 s=(t,s2)):=⟨_,_,rfl⟩
    rw[ht.out]at HC3 htl
    replace HC3:=Lib.hid HC3
    replace htl:t.length≤1073741824:=htl
    obtain⟨x,ec,hcx0⟩:∃x ec,Hid (jcP jbk jc3 t=(x,ec)):=⟨_,_,rfl⟩
    have hcx:Hid (catT s=(x,ec)):=by show _=_;unfold catT;rw[ht.out];exact hcx0.out
    clear he
    go_wp2_with fail
    go_fit HCE.out
    rintro e w2 ⟨rfl,rfl⟩
    clear HCE
    go_wp2_with fail
    go_fit HC3.out
    rintro e w3 ⟨a3,c3,rfl,own3,rd3,k3⟩
    have HT:=jis a3 t.length c3 t w3 rfl (Lies.of_owned own3) (by omega)
    rw[hcx0.out]at HT
    replace HT:=Lib.hid HT
    have RD3:=Lib.hid rd3
    have K3:=Lib.hid k3
    clear HC3 own3 rd3 k3
    go_wp2_with fail
    go_fit HT.out
    rintro e w4 ⟨cs,rfl,hw,ho,k4⟩
    have hg:jat w4 (jai w3 w4) cs x:=jgs hw
    have hg2:=hg
    obtain⟨aT,cT,aX,cX,rfl,hv,-⟩:=jau hg
    obtain⟨hst,rowX,kX⟩:=jds (P:=Tryz.prog) (zs:=[.int .i64 0,.int .i64 0,.slice none 0 0,.slice none 0 0]) (cs:=[.int .i64 x.fVersion,.int .i64 x.fNext,.slice aT x.fTables.length cT,.slice aX x.fIndexes.length cX]) S_Catalog w4 rfl rfl rfl
    generalize (w4.alloc (.cells ([.int .i64 0,.int .i64 0,.slice none 0 0,.slice none 0 0]:List Value).toArray 50)).setRow w4.heap.size ([.int .i64 x.fVersion,.int .i64 x.fNext,.slice aT x.fTables.length cT,.slice aX x.fIndexes.length cX]:List Value).toArray=w5 at *
    have hld:=Whole.row (P:=Tryz.prog) S_Catalog rfl rowX
    unfold Whole at hld
    have hsx:=kX.size
    have hg5:=rGCatalog_lawful.nix hg2 kX
    have K5:=Lib.hid ((K3.out.trans k4.nix).trans kX.nix)
    have RD5:=Lib.hid ((RD3.out.nix k4).nix kX)
    have y0:w5.cell? ⟨w4.heap.size,0,none⟩=some (.int .i64 x.fVersion):=by simpa using rowX.cell 0
    have hk34:=K3.out.size
    have hk45:=k4.size
    have HG5:=Lib.hid (rGCatalog_lawful.mono (q:=jai wr w5) hg5 (fun b hb=>⟨by have:=hb.1;omega,by have:=hb.2;omega⟩))
    have HR:=Lib.hid (jo7 x [.int .i64 x.fVersion,.int .i64 x.fNext,.slice aT x.fTables.length cT,.slice aX x.fIndexes.length cX] w5 HG5.out (fun b hb=>hb.2))
    have ROWX:=Lib.hid rowX
    clear HT hw ho k4 hg2 hg5 kX rowX RD3 K3 hg
    by_cases hec:ec=0
    ·have tec:(ec != 0)=false:=by simp[hec]
     obtain⟨rb,hrb⟩:∃v,Hid (jc7 x=v):=⟨_,rfl⟩
     rw[hrb.out]at HR
     go_wp2_with fail
     clear hst
     go_fit HR.out
     rintro e w6 ⟨rfl,k6⟩
     have RD6:=Lib.hid (RD5.out.nix k6)
     have K6:=Lib.hid (K5.out.trans k6.nix)
     have HG6:=Lib.hid (rGCatalog_lawful.nix HG5.out k6)
     have hs6:=k6.size
     have y0':w6.cell? ⟨w4.heap.size,0,none⟩=some (.int .i64 x.fVersion):=by simpa using (ROWX.out.keep k6 id).cell 0
     have hld6:=Whole.row (P:=Tryz.prog) S_Catalog rfl (ROWX.out.keep k6 id)
     unfold Whole at hld6
     clear hld y0 HR RD5 K5 HG5 k6 ROWX
     cases rb with
     | false=>
      have hno:Hid (jbn (numS M30 s0).1 0 (numS M30 s0).2=none):=by
       show _=_
       rw[hs1.out]
       simp only
       rw[hq.out,show N - k=(N - (k+1))+1 by omega,jhZ HE.out (by unfold jdC;rw[hcx.out];exact(.inr (.inl hrb.out)))]
       rfl
      go_wp2_with fail
      refine bodyPost_ret (results_tmp2 rfl _ _ _) rfl ?_
      exact jeN hno.out ((HKK.out.trans K6.out))
     | true=>
      by_cases hver:x.fVersion=(k:Int)
      ·have tv:(x.fVersion != (k:Int))=false:=by simp[hver]
       have HBAD:Hid (¬jdC k s):=by
        show ¬_
        unfold jdC
        rw[hcx.out]
        rintro(h | h | h)
        ·exact h hec
        ·simp only at h;rw[hrb.out]at h;cases h
        ·exact h hver
       have HGN:=Lib.hid (rGCatalog_lawful.mono (q:=jai wr w6) HG6.out (fun b hb=>⟨hb.1,by have:=hb.2;omega⟩))
       have hnext:Hid (jbn N 0 s1=(jbn (N - (k+1)) (k+1) s2).map (fun y=>((E ++ [x]) ++ y.1,y.2))):=by
        show _=_
        rw[hq.out,show N - k=(N - (k+1))+1 by omega,jkW HE.out HBAD.out,hcx.out,ht.out]
        cases jbn (N - (k+1)) (k+1) s2 <;> simp
       have hEk2:Hid ((E ++ [x]).length=k+1):=by show _=_;rw[List.length_append,hEk.out];rfl
       have own2:=jad OW.out K6.out (fun b hb (e:b=r)=>by have:=(OW.out.lt b hb).1;omega)
       clear hcx hcx0 hec hver hrb HBAD hq
       go_wp2_with (at_builtin;refine jbi (c:=1) T_cats ?hgd (.tmp 40) (.tmp 42) ?ho w.heap.size ?hs own2 ?hx ?c0 ?c1 ?c2 ?c3 ?c4 ?_)
       case hgd=>rfl
       case ho=>rfl
       (try case hs=>rfl)
       (try case hx=>rfl)
       (try case c0=>rfl)
       case c1=>simp[Value.oneCell']
       case c2=>unfold maxLen;omega
       case c3=>omega
       (try case c4=>omega)
       intro a' cap' w7 own7 k7 jax
       have els7:=EL.out.push rGCatalog_lawful HGN.out K6.out k7 hrw hsw (fun b hb=>(OW.out.lt b hb).2) jax
       have RD7:=Lib.hid (RD6.out.keep k7 (fun hb=>by have:=(OW.out.lt _ hb).1;omega) (fun b hb h=>by have:=(OW.out.lt _ h).1;have:=hql b hb;omega))
       have K7:=Lib.hid ((HKK.out.trans K6.out).then k7 (fun i hi hb=>by have:=(OW.out.lt _ hb).1;omega))
       clear k7 jax y0' hld6 RD6 K6 HGN HG6 OW EL RD own2 HKK
       go_wp2_with fail
       go_roundw
       case rel=>exact⟨k+1,E ++ [x],css ++ [[.int .i64 x.fVersion,.int .i64 x.fNext,.slice aT x.fTables.length cT,.slice aX x.fIndexes.length cX]],a',cap',s2,by omega,by go_num,hEk2,rfl,hnext,RD7.out,by simpa using own7,els7,K7.out⟩
       case measure=>simp[intOf];omega
      ·have tv:(x.fVersion != (k:Int))=true:=by simp[hver]
       have hno:Hid (jbn (numS M30 s0).1 0 (numS M30 s0).2=none):=by
        show _=_
        rw[hs1.out]
        simp only
        rw[hq.out,show N - k=(N - (k+1))+1 by omega,jhZ HE.out (by unfold jdC;rw[hcx.out];exact(.inr (.inr hver)))]
        rfl
       go_wp2_with fail
       refine bodyPost_ret (results_tmp2 rfl _ _ _) rfl ?_
       exact jeN hno.out ((HKK.out.trans K6.out))
    ·have tec:(ec != 0)=true:=by simp[hec]
     clear hld y0
     have hno:Hid (jbn (numS M30 s0).1 0 (numS M30 s0).2=none):=by
      show _=_
      rw[hs1.out]
      simp only
      rw[hq.out,show N - k=(N - (k+1))+1 by omega,jhZ HE.out (by unfold jdC;rw[hcx.out];exact(.inl hec))]
      rfl
     go_wp2_with fail
     refine bodyPost_ret (results_tmp2 rfl _ _ _) rfl ?_
     exact jeN hno.out ((HKK.out.trans K5.out))
   ·have te:(s.e == 0)=false:=by simp[he]
    go_wp2_with fail
    go_fit HCE.out
    rintro e w2 ⟨rfl,rfl⟩
    have HY:Hid (jbn (numS M30 s0).1 0 (numS M30 s0).2=some (E,s)):=by
     show _=_
     rw[hs1.out]
     simp only
     rw[hq.out,jmt he]
     simp
    go_wp2_with fail
    refine bodyPost_ret (results_tmp2 rfl _ _ _) rfl ?_
    unfold jej
    rw[HY.out]
    simp only
    subst hEk
    exact⟨a,cap,css,rfl,OW.out,EL.out,RD.out,HKK.out⟩
  ·obtain rfl:k=N:=by omega
   have HY:Hid (jbn (numS M30 s0).1 0 (numS M30 s0).2=some (E,s)):=by
    show _=_
    rw[hs1.out]
    simp only
    rw[hq.out,Nat.sub_self,jbn]
    simp
   go_wp2_with fail
   refine bodyPost_ret (results_tmp2 rfl _ _ _) rfl ?_
   unfold jej
   rw[HY.out]
   simp only
   subst hEk
   exact⟨a,cap,css,rfl,OW.out,EL.out,RD.out,HKK.out⟩
end
end
theorem jp7(w:World):(zeroValue 28).run Tryz.prog w=.ok (.int .u64 0) w:=by kernel_rfl
theorem iK:Go.Maps.Keyed Tryz.prog 3:=Go.Maps.int_keyed Tryz.underlying3
def keyI(k:Int):Lit:=.int .i64 k
theorem jii{k:Int}(h:jae k):keyOf Tryz.prog 3 (.int .i64 k)=some (keyI k):=Go.Maps.keyOf_int_mk Tryz.underlying3 (jbd h)
theorem jlm{k:Int}(h:jae k):WideAt.IsKeyLit (keyI k):=iK.key (jii h)
theorem jln{k k':Int}(h:k'≠k):keyI k'≠keyI k:=fun e=>h (by simpa [keyI] using e)
theorem jeB(PL:List (Int×Int))(p t q:Int)(h:jbp PL p=none):jbp (PL ++ [(p,t)]) q=if q=p then some t else jbp PL q:=by
 unfold jbp at h ⊢
 rw[List.find?_append]
 by_cases hq:q=p
 ·subst hq
  rw[if_pos rfl]
  have h':PL.find? (fun x=>decide (x.1=q))=none:=by simpa using h
  rw[h'];simp
 ·rw[if_neg hq]
  have:[(p,t)].find? (fun x:Int×Int=>decide (x.1=q))=none:=by simp;omega
  rw[this,Option.or_none]
structure PlIs(w:World)(bP:Nat)(D:DataW Value)(PL:List (Int×Int)):Prop where
 own:w.ownsMap Tryz.prog 3 jcm bP PL.length D
 size:Maps.size D=PL.length
 at_:∀p,jae p→D.atKey (keyI p) (.held (.int .u64 0))=.held (.int .u64 ((jbp PL p).getD 0))∧Maps.has D (keyI p)=(jbp PL p).isSome
theorem jjc{w w':World}{bM n:Nat}{D:DataW Value}(h:w.ownsMap Tryz.prog 3 jcm bM n D){S:Nat→Prop}(k:Keep S w w')(hs:¬S bM):w'.ownsMap Tryz.prog 3 jcm bM n D:=by
 have hlt:=h.lt
 obtain⟨es,clock,hb,r⟩:=h
 exact⟨es,clock,(k.block bM hlt hs).trans hb,r⟩
theorem PlIs.keep{w w':World}{bP:Nat}{D:DataW Value}{PL:List (Int×Int)}(h:PlIs w bP D PL){S:Nat→Prop}(k:Keep S w w')(hs:¬S bP):PlIs w' bP D PL:=⟨jjc h.own k hs,h.size,h.at_⟩
theorem PlIs.made(w:World):PlIs (w.alloc (.map #[] 0)) w.heap.size (.map []) []:=⟨World.ownsMap_made _ _ _ _,rfl,fun _ _=>⟨rfl,rfl⟩⟩
theorem jio{w:World}{bP:Nat}{D:DataW Value}{PL:List (Int×Int)}(h:PlIs w bP D PL){p:Int}(hp:jae p) :
  (Instr.lookup 110 (.map (some bP)) (.int .i64 p) false).run Tryz.prog w=.ok (.int .u64 ((jbp PL p).getD 0)) w:=by
 obtain⟨h1,-⟩:=h.at_ p hp
 obtain⟨v',ps,hrun,h3⟩:=h.own.lookup iK Tryz.underlying110 (jp7 w) (show jcm (.int .u64 0)=some (.held (.int .u64 0),[]) from rfl) (jii hp)
 rw[h1]at h3
 simp only[jcm,Option.some.injEq,Prod.mk.injEq,DataW.held.injEq]at h3
 rw[h3.1]at hrun
 exact hrun
theorem pl_put{w:World}{bP:Nat}{D:DataW Value}{PL:List (Int×Int)}(m:PlIs w bP D PL)(hn:PL.length<1000000){p t:Int}(hp:jae p)(hf:jbp PL p=none) :
  ∃w' D',(Instr.mapUpdate 110 (.map (some bP)) (.int .i64 p) (.int .u64 t)).run Tryz.prog w=.ok () w'∧PlIs w' bP D' (PL ++ [(p,t)])∧Keep (fun b=>b=bP) w w':=by
 obtain⟨w',hrun,own',hg⟩:=m.own.update iK Tryz.underlying110 (by unfold maxLen;omega) (jii hp) (show jcm (.int .u64 t)=some (.held (.int .u64 t),[]) from rfl)
 have kk:Keep (fun b=>b=bP) w w':=(Keep.refl _ w).grown hg (fun i hi _=>by cases hi;rfl)
 refine⟨w',_,hrun,⟨by rw[List.length_append];exact own',?_,fun q hq=>?_⟩,kk⟩
 ·rw[Maps.size_put (m.own.tidy iK),(m.at_ p hp).2,hf,if_neg (by simp),m.size,List.length_append];rfl
 ·rw[jeB PL p t q hf]
  by_cases hqp:q=p
  ·subst hqp
   rw[if_pos rfl]
   exact⟨by simpa using Maps.atKey_put_same m.own.isMap (jlm hq) _ _,by simpa using Maps.has_put_same m.own.isMap (jlm hq) _⟩
  ·rw[if_neg hqp]
   obtain⟨h1,h2⟩:=m.at_ q hq
   refine⟨(Maps.atKey_put_other (jln hqp) _ _).trans h1,?_⟩
   rw[Maps.has_put_other (jln hqp)];exact h2
theorem pl_len{w:World}{bP:Nat}{D:DataW Value}{PL:List (Int×Int)}(m:PlIs w bP D PL)(ty:TypeId):(Builtin.len_ #[110] ty #[.map (some bP)]).run Tryz.prog w=.ok (.int .i64 (PL.length:Int)) w:=by
 rw[m.own.len Tryz.underlying110 ty,m.size]
theorem jhR{m:Nat}{l:List UInt8}{s:RdS}{t:List UInt8}(he:s.e=0)(hm:l.length≤m)(hv:l.length<2 ^ 64)(h:s.B.drop s.pos=jas l ++ t):ja4 m s=(l,{s with pos:=s.pos+(jas l).length}):=by
 have h0:s.B.drop s.pos=numB l.length ++ (l ++ t):=by rw[h];simp[jas]
 have h1:=jb7 he hm hv h0
 have hlen:s.B.length - s.pos=(jas l).length+t.length:=by have:=congrArg List.length h;simpa using this
 have hb:(jas l).length=(numB l.length).length+l.length:=by simp[jas]
 have hd:s.B.drop (s.pos+(numB l.length).length)=l ++ t:=by rw[←List.drop_drop,h0,List.drop_left]
 unfold ja4
 rw[if_neg (by simp[he]),h1,if_neg (by simp[he])]
 simp only
 rw[if_neg (by omega),hd,List.take_left,hb,Nat.add_assoc]
theorem jlq{m:Nat}{s:RdS}(he:s.e=0)(h:(numS m s).2.e=0)(hp:s.pos≤s.B.length):(numS m s).2.pos≤s.B.length∧(numS m s).2.B=s.B:=by
 unfold numS at *
 rw[if_neg (by simp[he])]at *
 by_cases h1:(jaE (s.B.drop s.pos)).2.2=0
 ·rw[if_neg (by simp[h1])]at *
  by_cases h2:m<(jaE (s.B.drop s.pos)).1
  ·rw[if_pos h2]at h;simp at h
  ·rw[if_neg h2]at *
   have hf:jbh 10 0 0 (s.B.drop s.pos)=((jaE (s.B.drop s.pos)).1,(jaE (s.B.drop s.pos)).2.1,0):=by
    show jaE _=_
    rw[←h1]
   obtain⟨v,-,-,h3,-⟩:=jge 10 0 0 _ _ _ rfl hf
   rw[List.length_drop]at h3
   exact⟨by show s.pos+_≤_;omega,rfl⟩
 ·rw[if_pos (by simpa using h1)]at h
  exact absurd h h1
theorem jhS{m:Nat}{s:RdS}(he:s.e=0)(h:(ja4 m s).2.e=0)(hp:s.pos≤s.B.length):(ja4 m s).2={s with pos:=(ja4 m s).2.pos}∧s.B.drop s.pos=jas (ja4 m s).1 ++ s.B.drop (ja4 m s).2.pos∧s.pos≤(ja4 m s).2.pos∧(ja4 m s).2.pos≤s.B.length:=by
 unfold ja4 at *
 rw[if_neg (by simp[he])]at *
 by_cases h1:(numS m s).2.e=0
 ·rw[if_neg (by simpa using h1)]at *
  obtain⟨f1,f2,f3⟩:=jdx he h1
  by_cases h2:s.B.length - (numS m s).2.pos<(numS m s).1
  ·rw[if_pos h2]at h;simp at h
  ·rw[if_neg h2]at *
   have hpl:(numS m s).2.pos≤s.B.length:=(jlq he h1 hp).1
   have hl:((s.B.drop (numS m s).2.pos).take (numS m s).1).length=(numS m s).1:=by rw[List.length_take,List.length_drop];omega
   refine⟨rfl,?_,by show s.pos≤_+_;omega,by show _+_≤_;omega⟩
   simp only[jas]
   rw[hl,List.append_assoc,←List.drop_drop,List.take_append_drop]
   exact f2
 ·rw[if_pos (by simpa using h1)]at h
  exact absurd h h1
theorem jcT(m:Nat)(s:RdS):(numS m s).2.B=s.B:=(jgI m s).1
theorem jf6(m:Nat)(s:RdS):(ja4 m s).2.B=s.B:=by
 unfold ja4;split
 ·rfl
 ·split
  ·exact jcT m s
  ·split <;> rfl
theorem jdP{m:Nat}{s:RdS}(hp:s.pos≤s.B.length):s.pos≤(numS m s).2.pos∧(numS m s).2.pos≤s.B.length∧((numS m s).2.e=0→s.e=0∧s.pos+1≤(numS m s).2.pos):=by
 by_cases he:s.e=0
 ·by_cases h:(numS m s).2.e=0
  ·obtain⟨h1,h2,h3⟩:=jdx he h
   obtain⟨p1,-⟩:=jlq he h hp
   have h5:=congrArg List.length h2
   simp only[List.length_drop,List.length_append]at h5
   have h6:=(jaP (numS m s).1).2
   exact⟨h3,p1,fun _=>⟨he,by omega⟩⟩
  ·refine⟨?_,?_,fun h'=>absurd h' h⟩
   all_goals
    unfold numS at *
    rw[if_neg (by simp[he])]at *
    by_cases h1:(jaE (s.B.drop s.pos)).2.2=0
    ·rw[if_neg (by simp[h1])]at *
     by_cases h2:m<(jaE (s.B.drop s.pos)).1
     ·rw[if_pos h2];first | exact Nat.le_refl _ | exact hp
     ·rw[if_neg h2]at h;exact absurd he h
    ·rw[if_pos (by simpa using h1)];first | exact Nat.le_refl _ | exact hp
 ·rw[jeb he]
  exact⟨Nat.le_refl _,hp,fun h=>absurd h he⟩
theorem jjI(s:RdS):(entS s).B=s.B:=(jcT _ _).trans (jcT _ _)
theorem jlh{s:RdS}(hp:s.pos≤s.B.length):s.pos≤(entS s).pos∧(entS s).pos≤s.B.length∧((entS s).e=0→s.pos+1≤(entS s).pos):=by
 obtain⟨a1,a2,a3⟩:=jdP (m:=maxU) hp
 obtain⟨b1,b2,b3⟩:=jdP (m:=M30) (s:=(numS maxU s).2) (by rw[jcT];exact a2)
 rw[jcT]at b2
 refine⟨Nat.le_trans a1 b1,b2,fun h=>?_⟩
 have:=b3 h
 have q:(numS maxU s).2.pos+1≤(entS s).pos:=this.2
 omega
theorem jj5:∀(m i:Nat) (s:RdS) (y:List GCatalog×RdS),jbn m i s=some y→y.2.B=s.B
 | 0,_,s,y,h=>by simp only[jbn,Option.some.injEq]at h;rw[←h]
 | m+1,i,s,y,h=>by
  rw[jbn]at h
  split at h
  ·simp only[Option.some.injEq]at h;rw[←h]
  ·split at h
   ·cases h
   ·obtain⟨z,h1,h2⟩:=Option.map_eq_some_iff.1 h
    rw[←h2]
    exact(jj5 m _ _ z h1).trans (jf6 _ _)
def Far(l k:Nat)(s:RdS):Prop:=s.B.length=l∧s.pos≤l∧k≤s.pos+1∧(s.e=0→k≤s.pos)
theorem Far.next{l k:Nat}{s:RdS}(h:Far l k s)(he:s.e=0):Far l (k+1) (entS s):=by
 obtain⟨h1,h2,h3,h4⟩:=h
 have hk:=h4 he
 obtain⟨a1,a2,a3⟩:=jlh (s:=s) (by omega)
 refine⟨by rw[jjI];exact h1,by omega,by omega,fun h=>by have:=a3 h;omega⟩
theorem rise{α:Type}(l:List α)(id:α→Int)(last:Nat→Int)(h0:last 0=0)(hs:∀i (h:i<l.length),last (i+1)=id l[i]) :
  (∀i (h:i<l.length),last i<id l[i])↔l.Pairwise (fun a b=>id a<id b)∧∀x∈l,0<id x:=by
 constructor
 ·intro h
  have key:∀j (hj:j<l.length),0<id l[j]∧∀i (hi:i<j),id (l[i]'(by omega))<id l[j]:=by
   intro j
   induction j with
   | zero=>intro hj;exact⟨by have:=h 0 hj;rw[h0]at this;exact this,fun i hi=>by omega⟩
   | succ j ih=>
    intro hj
    have h1:=h (j+1) hj
    rw[hs j (by omega)]at h1
    obtain⟨i1,i2⟩:=ih (by omega)
    refine⟨by omega,fun i hi=>?_⟩
    rcases Nat.lt_succ_iff_lt_or_eq.1 hi with h2 | rfl
    ·have:=i2 i h2;omega
    ·exact h1
  refine⟨List.pairwise_iff_getElem.2 fun i j hi hj hij=>(key j hj).2 i hij,fun x hx=>?_⟩
  obtain⟨i,hi,rfl⟩:=List.mem_iff_getElem.1 hx
  exact(key i hi).1
 ·rintro⟨h1,h2⟩ i hi
  cases i with
  | zero=>
   rw[h0];exact h2 _ (List.getElem_mem hi)
  | succ i=>
   rw[hs i (by omega)];exact List.pairwise_iff_getElem.1 h1 i (i+1) (by omega) hi (by omega)
theorem jnx{α β:Type}[DecidableEq β](l:List α)(f:α→β):(∀i (h:i<l.length),jbo (fun o=>decide (f o=f l[i])) l=(i:Int))↔l.Pairwise (fun a b=>f a≠f b):=by
 constructor
 ·intro h
  refine List.pairwise_iff_getElem.2 fun i j hi hj hij e=>?_
  have h1:=h j hj
  have h2:=joa (P:=fun o=>decide (f o=f l[j])) i hi (decide_eq_true e)
  omega
 ·intro h i hi
  refine jeR i hi (fun j hj x hx=>?_) (decide_eq_true rfl)
  have hj':j<l.length:=by omega
  rw[List.getElem?_eq_getElem hj']at hx
  cases hx
  exact decide_eq_false (List.pairwise_iff_getElem.1 h j i hj' hi hj)
theorem jjy{n:Nat}{Q:Nat→Bool}:allB n Q=true↔∀i,i<n→Q i=true:=by
 unfold allB;simp
structure RightP(c:GCatalog):Prop where
 v0:0≤c.fVersion
 n1:1≤c.fNext
 n2:c.fNext≤1073741824
 t6:c.fTables.length≤6
 x10:c.fIndexes.length≤10
 tid:c.fTables.Pairwise (fun a b=>a.fID<b.fID)
 tok:∀t∈c.fTables,0<t.fID∧t.fID<c.fNext∧jbq t=true
 tnm:c.fTables.Pairwise (fun a b=>a.fName≠b.fName)
 xid:c.fIndexes.Pairwise (fun a b=>a.fID<b.fID)
 xok:∀x∈c.fIndexes,0<x.fID∧x.fID<c.fNext∧(jbG c x.fID).2=false∧jbc c x=true
 xnm:c.fIndexes.Pairwise (fun a b=>a.fName≠b.fName)
theorem rightB_iff{c:GCatalog}:jc7 c=true↔RightP c:=by
 have hT:(∀i,i<c.fTables.length→tabQ c i=true)↔((c.fTables.Pairwise (fun a b=>a.fID<b.fID)∧∀t∈c.fTables,0<t.fID)∧(∀t∈c.fTables,t.fID<c.fNext∧jbq t=true)∧c.fTables.Pairwise (fun a b=>a.fName≠b.fName)):=by
  rw[←rise c.fTables (·.fID) (jg3 c) rfl (fun i h=>jh0 h),←jnx c.fTables (·.fName)]
  constructor
  ·intro h
   have k:∀i (hi:i<c.fTables.length),_:=fun i hi=>by
    have:=h i hi
    rw[jir hi]at this
    unfold jjq at this
    simp only[Bool.and_eq_true,decide_eq_true_eq]at this
    exact this
   refine⟨fun i hi=>(k i hi).1,fun t ht=>?_,fun i hi=>(k i hi).2.2.2⟩
   obtain⟨i,hi,rfl⟩:=List.mem_iff_getElem.1 ht
   exact⟨(k i hi).2.1,(k i hi).2.2.1⟩
  ·rintro⟨h1,h2,h3⟩ i hi
   rw[jir hi]
   unfold jjq
   simp only[Bool.and_eq_true,decide_eq_true_eq]
   exact⟨h1 i hi,(h2 _ (List.getElem_mem hi)).1,(h2 _ (List.getElem_mem hi)).2,h3 i hi⟩
 have hX:(∀i,i<c.fIndexes.length→idxQ c i=true)↔((c.fIndexes.Pairwise (fun a b=>a.fID<b.fID)∧∀t∈c.fIndexes,0<t.fID)∧(∀x∈c.fIndexes,x.fID<c.fNext∧(jbG c x.fID).2=false∧jbc c x=true)∧c.fIndexes.Pairwise (fun a b=>a.fName≠b.fName)):=by
  rw[←rise c.fIndexes (·.fID) (jg4 c) rfl (fun i h=>jh1 h),←jnx c.fIndexes (·.fName)]
  constructor
  ·intro h
   have k:∀i (hi:i<c.fIndexes.length),_:=fun i hi=>by
    have:=h i hi
    rw[jih hi]at this
    unfold jjn at this
    simp only[Bool.and_eq_true,decide_eq_true_eq,Bool.not_eq_true']at this
    exact this
   refine⟨fun i hi=>(k i hi).1,fun t ht=>?_,fun i hi=>(k i hi).2.2.2.2⟩
   obtain⟨i,hi,rfl⟩:=List.mem_iff_getElem.1 ht
   exact⟨(k i hi).2.1,(k i hi).2.2.1,(k i hi).2.2.2.1⟩
  ·rintro⟨h1,h2,h3⟩ i hi
   rw[jih hi]
   unfold jjn
   simp only[Bool.and_eq_true,decide_eq_true_eq,Bool.not_eq_true']
   have:=h2 _ (List.getElem_mem hi)
   exact⟨h1 i hi,this.1,this.2.1,this.2.2,h3 i hi⟩
 unfold jc7 jjm
 rw[Bool.and_eq_true,Bool.and_eq_true,jjy,jjy,hT,hX,decide_eq_true_eq]
 constructor
 ·rintro⟨⟨a1,a2,a3,a4,a5⟩,⟨⟨b1,b2⟩,b3,b4⟩,⟨d1,d2⟩,d3,d4⟩
  exact⟨a1,a2,a3,a4,a5,b1,fun t ht=>⟨b2 t ht,b3 t ht⟩,b4,d1,fun x hx=>⟨d2 x hx,d3 x hx⟩,d4⟩
 ·intro h
  exact⟨⟨h.v0,h.n1,h.n2,h.t6,h.x10⟩,⟨⟨h.tid,fun t ht=>(h.tok t ht).1⟩,fun t ht=>(h.tok t ht).2,h.tnm⟩,⟨h.xid,fun t ht=>(h.xok t ht).1⟩,fun t ht=>(h.xok t ht).2,h.xnm⟩
section
theorem jfv{α:Type}{P:α→Bool}{l:List α}{z:α}(h:(jbj P l z).2=true):(jbj P l z).1∈l∧P (jbj P l z).1=true:=by
 unfold jbj at *
 cases hf:l.find? P with
 | none=>
  rw[hf]at h;cases h
 | some x=>
  rw[hf]at h;exact⟨List.mem_of_find?_eq_some hf,List.find?_some hf⟩
theorem jjL{α:Type}{P:α→Bool}{l:List α}{z:α}(h:(jbj P l z).2=false):∀x∈l,P x=false:=by
 unfold jbj at h
 cases hf:l.find? P with
 | none=>
  exact fun x hx=>by have:=List.find?_eq_none.1 hf x hx;simpa using this
 | some x=>
  rw[hf]at h;cases h
theorem jjj{c:GCatalog}{d:Int}(h:d∉c.fTables.map (·.fID)):(jbG c d).2=false:=by
 cases hf:(jbG c d).2 with
 | false=>
  rfl
 | true=>
  have:=jfv hf
  exact absurd (List.mem_map.2 ⟨_,this.1,by simpa using this.2⟩) h
section
variable {α : Type} {P : α → Bool} {l : List α} {z y : α}
theorem jiX(h:P y=false):jbj P (l ++ [y]) z=jbj P l z:=by
 unfold jbj
 rw[List.find?_append]
 cases hf:l.find? P with
 | none=>
  simp[h]
 | some x=>
  rfl
end
theorem jjR{α β:Type}{l:List α}{f:α→β}{k:Nat}{y:α}(hk:k<l.length)(h:f y=f l[k]):(l.set k y).map f=l.map f:=by
 rw[List.map_set,h]
 apply List.ext_getElem
 ·simp
 ·intro i h1 h2
  rw[List.getElem_set]
  by_cases e:k=i
  ·subst e;simp
  ·rw[if_neg e]
theorem jjX{α β:Type}{R:β→β→Prop}{l:List α}{f:α→β}{k:Nat}{y:α}(hk:k<l.length)(h:f y=f l[k])(hp:l.Pairwise (fun a b=>R (f a) (f b))):(l.set k y).Pairwise (fun a b=>R (f a) (f b)):=by
 rw[←List.pairwise_map (f:=f) (R:=R)]at hp ⊢
 rw[jjR hk h];exact hp
theorem jcY{c d:GCatalog}(h:d.fTables=c.fTables)(i:Int):jbG d i=jbG c i:=by unfold jbG;rw[h]
theorem je7{c d:GCatalog}(h:d.fTables=c.fTables)(x:GIndex):jbc d x=jbc c x:=by unfold jbc;rw[jcY h]
theorem jjO{c:GCatalog}{x:GIndex}(h:jbc c x=true):1≤x.fState∧x.fState≤7:=by
 unfold jbc at h
 simp only[Bool.and_eq_true,decide_eq_true_eq]at h
 exact h.2.2.2
theorem jhy{c:GCatalog}{x:GIndex}(h:jbc c x=true){s:Int}{b:Bool}(h1:1≤s)(h7:s≤7):jbc c {x with fState:=s,fBad:=b}=true:=by
 unfold jbc at *
 simp only[Bool.and_eq_true,decide_eq_true_eq]at h ⊢
 exact⟨h.1,h.2.1,h.2.2.1,h1,h7⟩
theorem jgM{c:GCatalog}(h:RightP c){k:Nat}(hk:k<c.fIndexes.length){y:GIndex}(h1:y.fID=c.fIndexes[k].fID)(h2:y.fName=c.fIndexes[k].fName)(h3:jbc c y=true):RightP (jcx c k y) where
 v0:=by have:=h.v0;show 0≤c.fVersion+1;omega
 n1:=h.n1
 n2:=h.n2
 t6:=h.t6
 x10:=by show(c.fIndexes.set k y).length≤10;rw[List.length_set];exact h.x10
 tid:=h.tid
 tok:=h.tok
 tnm:=h.tnm
 xid:=jjX (R:=(· < ·)) (f:=(·.fID)) hk h1 h.xid
 xok:=fun x hx=>by
  rw[jcY (c:=c) (d:=jcx c k y) rfl,je7 (c:=c) (d:=jcx c k y) rfl]
  rcases List.mem_or_eq_of_mem_set hx with hx | rfl
  ·exact h.xok x hx
  ·have:=h.xok _ (List.getElem_mem hk)
   rw[h1];exact⟨this.1,this.2.1,this.2.2.1,h3⟩
 xnm:=jjX (R:=(·≠·)) (f:=(·.fName)) hk h2 h.xnm
theorem jkC{c:GCatalog}(h:RightP c)(k:Nat):RightP (jdt c k) where
 v0:=by have:=h.v0;show 0≤c.fVersion+1;omega
 n1:=h.n1
 n2:=h.n2
 t6:=h.t6
 x10:=Nat.le_trans (List.length_eraseIdx_le _ _) h.x10
 tid:=h.tid
 tok:=h.tok
 tnm:=h.tnm
 xid:=h.xid.sublist (List.eraseIdx_sublist _ _)
 xok:=fun x hx=>by
  rw[jcY (c:=c) (d:=jdt c k) rfl,je7 (c:=c) (d:=jdt c k) rfl]
  exact h.xok x ((List.eraseIdx_sublist _ _).subset hx)
 xnm:=h.xnm.sublist (List.eraseIdx_sublist _ _)
theorem jop{s:Int}(h1:1≤s)(h7:s≤7):0≤jcv s∧jcv s≤7:=by
 unfold jcv
 split
 ·constructor <;> omega
 ·split <;> constructor <;> omega
theorem jiu{α β:Type}{P:α→Bool}{l:List α}{z:β}{f:Nat→α→β}:((∀x∈l,P x=false)∧atI (jbo P l) l z f=z)∨∃(k:Nat) (h:k<l.length),P l[k]=true∧(∀j (hj:j<k),P (l[j]'(by omega))=false)∧atI (jbo P l) l z f=f k l[k]:=by
 rcases jb6 P l with⟨h1,h2⟩ | ⟨k,hk,h1,h2,h3⟩
 ·exact .inl ⟨h2,by rw[h1,jel]⟩
 ·exact .inr ⟨k,hk,h2,h3,by rw[h1,jek hk]⟩
inductive StepTo (c:GCatalog) (d frm tq:Int) (bad:Bool):GCatalog×Int→Prop
 | none:(∀x∈c.fIndexes,x.fID≠d)→StepTo c d frm tq bad (c,5)
 | no (k:Nat) (h:k<c.fIndexes.length):c.fIndexes[k].fID=d→(c.fIndexes[k].fState≠frm∨(¬(tq=jcv c.fIndexes[k].fState∧tq≠frm)∧¬(bad=true∧frm=3∧tq=6)))→StepTo c d frm tq bad (c,7)
 | cut (k:Nat) (h:k<c.fIndexes.length):c.fIndexes[k].fID=d→c.fIndexes[k].fState=frm→tq=0→tq=jcv frm→StepTo c d frm tq bad (jdt c k,0)
 | set (k:Nat) (h:k<c.fIndexes.length):c.fIndexes[k].fID=d→c.fIndexes[k].fState=frm→tq≠0→((tq=jcv frm∧tq≠frm)∨(bad=true∧frm=3∧tq=6))→StepTo c d frm tq bad (jcx c k {c.fIndexes[k]with fState:=tq,fBad:=bad || c.fIndexes[k].fBad},0)
theorem joE(c:GCatalog)(d frm tq:Int)(bad:Bool):StepTo c d frm tq bad (jaS c d frm tq bad):=by
 unfold jaS
 rcases jiu (P:=fun x:GIndex=>decide (x.fID=d)) (l:=c.fIndexes) (z:=((c,5):GCatalog×Int)) (f:=jcX frm tq bad c)with⟨h1,h2⟩ | ⟨k,hk,h1,-,h2⟩
 ·rw[h2];exact .none fun x hx=>of_decide_eq_false (h1 x hx)
 ·rw[h2]
  have h1:=of_decide_eq_true h1
  unfold jcX
  by_cases hn:c.fIndexes[k].fState≠frm∨(¬(tq=jcv c.fIndexes[k].fState∧tq≠frm)∧¬(bad=true∧frm=3∧tq=6))
  ·rw[if_pos hn];exact .no k hk h1 hn
  ·rw[if_neg hn]
   have hs:c.fIndexes[k].fState=frm:=Classical.byContradiction fun e=>hn (.inl e)
   have hw:(tq=jcv frm∧tq≠frm)∨(bad=true∧frm=3∧tq=6):=Classical.byContradiction fun e=>hn (.inr ⟨fun g=>e (.inl (by rw[hs]at g;exact g)),fun g=>e (.inr g)⟩)
   by_cases h0:tq=0
   ·rw[if_pos h0]
    exact .cut k hk h1 hs h0 (by rcases hw with h | h <;> omega)
   ·rw[if_neg h0];exact .set k hk h1 hs h0 hw
theorem jmb{c:GCatalog}(h:RightP c)(d frm tq:Int)(bad:Bool):RightP (jaS c d frm tq bad).1:=by
 have:=joE c d frm tq bad
 generalize jaS c d frm tq bad=r at this
 cases this with
 | none=>
  exact h
 | no=>
  exact h
 | cut k=>
  exact jkC h k
 | set k hk h1 h2 h3 h4=>
  have hx:=(h.xok _ (List.getElem_mem hk)).2.2.2
  have hs:=jjO hx
  rw[h2]at hs
  have:=jop hs.1 hs.2
  exact jgM h hk rfl rfl (jhy hx (by rcases h4 with h | h <;> omega) (by rcases h4 with h | h <;> omega))
inductive DropTo (c:GCatalog) (nm:List UInt8):GCatalog×Int→Prop
 | none:(∀x∈c.fIndexes,x.fName≠nm)→DropTo c nm (c,5)
 | no (k:Nat) (h:k<c.fIndexes.length):c.fIndexes[k].fName=nm→¬(1≤c.fIndexes[k].fState∧c.fIndexes[k].fState≤4)→DropTo c nm (c,7)
 | set (k:Nat) (h:k<c.fIndexes.length) (s:Int):c.fIndexes[k].fName=nm→((c.fIndexes[k].fState=4∧s=5)∨(1≤c.fIndexes[k].fState∧c.fIndexes[k].fState<4∧s=6))→DropTo c nm (jcx c k {c.fIndexes[k]with fState:=s},0)
theorem jnT(c:GCatalog)(nm:List UInt8):DropTo c nm (jbU c nm):=by
 unfold jbU
 rcases jiu (P:=fun x:GIndex=>decide (x.fName=nm)) (l:=c.fIndexes) (z:=((c,5):GCatalog×Int)) (f:=jdD c)with⟨h1,h2⟩ | ⟨k,hk,h1,-,h2⟩
 ·rw[h2];exact .none fun x hx=>of_decide_eq_false (h1 x hx)
 ·rw[h2]
  have h1:=of_decide_eq_true h1
  unfold jdD
  by_cases h4:c.fIndexes[k].fState=4
  ·rw[if_pos h4];exact .set k hk 5 h1 (.inl ⟨h4,rfl⟩)
  ·rw[if_neg h4]
   by_cases h5:1≤c.fIndexes[k].fState∧c.fIndexes[k].fState<4
   ·rw[if_pos h5];exact .set k hk 6 h1 (.inr ⟨h5.1,h5.2,rfl⟩)
   ·rw[if_neg h5];exact .no k hk h1 (by omega)
theorem jl5{c:GCatalog}(h:RightP c)(nm:List UInt8):RightP (jbU c nm).1:=by
 have:=jnT c nm
 generalize jbU c nm=r at this
 cases this with
 | none=>
  exact h
 | no=>
  exact h
 | set k hk s h1 h2=>
  have hx:=(h.xok _ (List.getElem_mem hk)).2.2.2
  exact jgM h hk rfl rfl (jhy (b:=c.fIndexes[k].fBad) hx (by omega) (by omega))
inductive TabTo (c:GCatalog) (t:GTable):GCatalog×Int→Prop
 | no (e:Int):0<e→TabTo c t (c,e)
 | put:jbq t=true→(jbj (fun x=>decide (x.fName=t.fName)) c.fTables zTab).2=false→c.fTables.length<6→c.fNext<1073741824→TabTo c t ({c with fVersion:=c.fVersion+1,fNext:=c.fNext+1,fTables:=c.fTables ++ [{t with fID:=c.fNext}]},0)
theorem jjx(c:GCatalog)(t:GTable):TabTo c t (ja9 c t):=by
 unfold ja9
 by_cases h1:jbq t=false
 ·rw[if_pos h1];exact .no 9 (by decide)
 rw[if_neg h1]
 by_cases h2:(jbj (fun x=>decide (x.fName=t.fName)) c.fTables zTab).2=true
 ·rw[if_pos h2];exact .no 6 (by decide)
 rw[if_neg h2]
 by_cases h3:6≤c.fTables.length∨1073741824≤c.fNext
 ·rw[if_pos h3];exact .no 4 (by decide)
 rw[if_neg h3]
 exact .put (by simpa using h1) (by simpa using h2) (by omega) (by omega)
theorem jhX{c:GCatalog}(h:RightP c)(t:GTable):RightP (ja9 c t).1:=by
 have:=jjx c t
 generalize ja9 c t=r at this
 cases this with
 | no=>
  exact h
 | put h1 h2 h3 h4=>
  have htab:∀d,d≠c.fNext→jbG {c with fVersion:=c.fVersion+1,fNext:=c.fNext+1,fTables:=c.fTables ++ [{t with fID:=c.fNext}]} d=jbG c d:=fun d hd=>by
   unfold jbG
   exact jiX (decide_eq_false (fun e=>hd e.symm))
  refine⟨by have:=h.v0;show 0≤c.fVersion+1;omega,by have:=h.n1;show 1≤c.fNext+1;omega,by show c.fNext+1≤_;omega,by show(c.fTables ++ [_]).length≤6;simp;omega,h.x10,?_,?_,?_,h.xid,?_,h.xnm⟩
  ·refine List.pairwise_append.2 ⟨h.tid,List.pairwise_singleton _ _,fun a ha b hb=>?_⟩
   rw[List.mem_singleton]at hb;subst hb
   exact(h.tok a ha).2.1
  ·intro x hx
   rcases List.mem_append.1 hx with hx | hx
   ·have:=h.tok x hx
    exact⟨this.1,by show x.fID<c.fNext+1;omega,this.2.2⟩
   ·rw[List.mem_singleton]at hx;subst hx
    exact⟨by have:=h.n1;show 0<c.fNext;omega,by show c.fNext<c.fNext+1;omega,h1⟩
  ·refine List.pairwise_append.2 ⟨h.tnm,List.pairwise_singleton _ _,fun a ha b hb=>?_⟩
   rw[List.mem_singleton]at hb;subst hb
   exact of_decide_eq_false (jjL h2 a ha)
  ·intro x hx
   obtain⟨x1,x2,x3,x4⟩:=h.xok x hx
   refine⟨x1,by show x.fID<c.fNext+1;omega,by rw[htab _ (by omega)];exact x3,?_⟩
   have hxt:(jbG c x.fTable).2=true:=by unfold jbc at x4;simp only[Bool.and_eq_true]at x4;exact x4.1
   have hne:x.fTable≠c.fNext:=by
    have:=jfv hxt
    have h5:=of_decide_eq_true this.2
    have h6:=(h.tok _ this.1).2.1
    omega
   unfold jbc at *
   rw[htab _ hne];exact x4
inductive IdxTo (c:GCatalog) (x:GIndex) (tn:List UInt8):GCatalog×Int→Prop
 | no (e:Int):0<e→IdxTo c x tn (c,e)
 | put (t:GTable):t∈c.fTables→t.fName=tn→jbc c (newX c x t.fID)=true→(∀y∈c.fIndexes,y.fName≠x.fName)→c.fIndexes.length<10→c.fNext<1073741824→IdxTo c x tn (putX c (newX c x t.fID),0)
theorem jjw(c:GCatalog)(x:GIndex)(tn:List UInt8):IdxTo c x tn (jaH c x tn):=by
 unfold jaH
 obtain⟨r,hr⟩:∃r,r=jbj (fun t=>decide (t.fName=tn)) c.fTables zTab:=⟨_,rfl⟩
 show IdxTo c x tn (if(jbj (fun t=>decide (t.fName=tn)) c.fTables zTab).2=false then(c,5) else if jbc c (newX c x (jbj (fun t=>decide (t.fName=tn)) c.fTables zTab).1.fID)=false then(c,9)
  else if 0≤jbo (fun y=>decide (y.fName=x.fName)) c.fIndexes then(c,6) else if 10≤c.fIndexes.length∨1073741824≤c.fNext then(c,4) else(putX c (newX c x (jbj (fun t=>decide (t.fName=tn)) c.fTables zTab).1.fID),0))
 rw[←hr]
 by_cases h1:r.2=false
 ·rw[if_pos h1];exact .no 5 (by decide)
 rw[if_neg h1]
 by_cases h2:jbc c (newX c x r.1.fID)=false
 ·rw[if_pos h2];exact .no 9 (by decide)
 rw[if_neg h2]
 by_cases h3:0≤jbo (fun y=>decide (y.fName=x.fName)) c.fIndexes
 ·rw[if_pos h3];exact .no 6 (by decide)
 rw[if_neg h3]
 by_cases h4:10≤c.fIndexes.length∨1073741824≤c.fNext
 ·rw[if_pos h4];exact .no 4 (by decide)
 rw[if_neg h4]
 have hf:=jfv (P:=fun t:GTable=>decide (t.fName=tn)) (l:=c.fTables) (z:=zTab) (by rw[←hr];simpa using h1)
 rw[←hr]at hf
 refine .put r.1 hf.1 (of_decide_eq_true hf.2) (by simpa using h2) (fun y hy=>?_) (by omega) (by omega)
 rcases jb6 (fun y:GIndex=>decide (y.fName=x.fName)) c.fIndexes with⟨-,g⟩ | ⟨k,hk,g,-⟩
 ·exact of_decide_eq_false (g y hy)
 ·omega
theorem jhW{c:GCatalog}(h:RightP c)(x:GIndex)(tn:List UInt8):RightP (jaH c x tn).1:=by
 have:=jjw c x tn
 generalize jaH c x tn=r at this
 cases this with
 | no=>
  exact h
 | put t ht htn h1 h2 h3 h4=>
  refine⟨by have:=h.v0;show 0≤c.fVersion+1;omega,by have:=h.n1;show 1≤c.fNext+1;omega,by show c.fNext+1≤_;omega,h.t6,by show(c.fIndexes ++ [_]).length≤10;simp;omega,h.tid,fun t ht=>?_,h.tnm,?_,?_,?_⟩
  ·have:=h.tok t ht
   exact⟨this.1,by show t.fID<c.fNext+1;omega,this.2.2⟩
  ·refine List.pairwise_append.2 ⟨h.xid,List.pairwise_singleton _ _,fun a ha b hb=>?_⟩
   rw[List.mem_singleton]at hb;subst hb
   exact(h.xok a ha).2.1
  ·intro y hy
   show 0<y.fID∧y.fID<c.fNext+1∧(jbG (putX c (newX c x t.fID)) y.fID).2=false∧jbc (putX c (newX c x t.fID)) y=true
   rw[jcY (c:=c) (d:=putX c (newX c x t.fID)) rfl,je7 (c:=c) (d:=putX c (newX c x t.fID)) rfl]
   rcases List.mem_append.1 hy with hy | hy
   ·obtain⟨x1,x2,x3,x4⟩:=h.xok y hy
    exact⟨x1,by show y.fID<c.fNext+1;omega,x3,x4⟩
   ·rw[List.mem_singleton]at hy;subst hy
    refine⟨by have:=h.n1;show 0<c.fNext;omega,by show c.fNext<c.fNext+1;omega,?_,h1⟩
    refine jjj fun hm=>?_
    obtain⟨t',ht',e⟩:=List.mem_map.1 hm
    have h5:=(h.tok t' ht').2.1
    have e':t'.fID=c.fNext:=e
    omega
  ·refine List.pairwise_append.2 ⟨h.xnm,List.pairwise_singleton _ _,fun a ha b hb=>?_⟩
   rw[List.mem_singleton]at hb;subst hb
   exact h2 a ha
end
theorem jnd{c:GCatalog}(h:RightP c):FitC c:=by
 have h0:FitC {c with fIndexes:=[]}:=⟨h.t6,Nat.zero_le _,fun t ht=>jfR (h.tok t ht).2.2,fun x hx=>by cases hx⟩
 refine⟨h.t6,h.x10,fun t ht=>jfR (h.tok t ht).2.2,fun y hy=>?_⟩
 have hq:=(h.xok y hy).2.2.2
 unfold jbc at hq
 simp only[Bool.and_eq_true]at hq
 have hc:=jiN h0 y.fTable (by rw[jcY (d:={c with fIndexes:=[]}) (c:=c) rfl];exact hq.1)
 rw[jcY (d:={c with fIndexes:=[]}) (c:=c) rfl]at hc
 refine⟨jfE hq.2.1,?_⟩
 have h5:=hq.2.2.1
 unfold jcD at h5
 have h6:=of_decide_eq_true h5
 rw[show min ((jbG c y.fTable).1.fColumns.length:Int) 6=(((jbG c y.fTable).1.fColumns.length:Nat):Int)by omega]at h6
 have:=je2 _ _ h6.1
 omega
theorem jm3{c:GCatalog}(h:FitC c):jb4 c:=by
 refine⟨fun t ht=>?_,fun x hx=>?_,by have:=h.1;omega,by have:=h.2.1;omega⟩
 ·have:=h.2.2.1 t ht;unfold jki;unfold FitT at this;omega
 ·have:=h.2.2.2 x hx;unfold jkj;unfold FitX at this;omega
theorem jiA:∀(n:Nat) (l:List Int),(∀i:Nat,i<n→((i:Int)+1)∈l)→n≤l.length
 | 0,_,_=>Nat.zero_le _
 | n+1,l,h=>by
  have hm:=h n (Nat.lt_succ_self n)
  have h1:=jiA n (l.erase ((n:Int)+1)) (fun i hi=>(List.mem_erase_of_ne (by omega)).2 (h i (by omega)))
  have h2:=List.length_erase_of_mem hm
  have h3:=List.length_pos_of_mem hm
  omega
theorem ji1{PL:List (Int×Int)}{p:Int}(h:(jbp PL p).isSome=true):p∈PL.map (·.1):=by
 unfold jbp at h
 cases hf:PL.find? (fun x=>decide (x.1=p))with
 | none=>
  rw[hf]at h;cases h
 | some x=>
  have h1:=List.find?_some hf
  have h2:=List.mem_of_find?_eq_some hf
  exact List.mem_map.2 ⟨x,h2,of_decide_eq_true h1⟩
theorem jmT{PL:List (Int×Int)}(h:allP PL){p:Int}(hp:(jbp PL p).isSome=true):p≤(PL.length:Int):=by
 rcases Int.lt_or_le (PL.length:Int) p with hlt | hle
 ·have hm:=ji1 hp
  have h1:=jiA PL.length ((PL.map (·.1)).erase p) (fun i hi=>(List.mem_erase_of_ne (by omega)).2 (ji1 (h i hi)))
  have h2:=List.length_erase_of_mem hm
  have h3:=List.length_pos_of_mem hm
  rw[List.length_map]at h2 h3
  omega
 ·exact hle
def Told(dec:Int→Option Int)(PL:List (Int×Int)):Prop:=∀k p,dec k=some p→0≤p∧(0<p→(jbp PL p).isSome=true)
theorem jmV{PL:List (Int×Int)}{s:RdS}{bg:Int}(hb:¬jdh bg PL s){q:Int}(h:(jbp PL q).isSome=true):(jbp (putP PL s) q).isSome=true:=by
 unfold putP
 split
 ·rename_i h0
  have hn:jbp PL (entN s)=none:=by
   cases hf:jbp PL (entN s)with
   | none=>rfl
   | some u=>exact absurd (Or.inr (Or.inr ⟨h0,by rw[hf];rfl⟩)) hb
  rw[jeB PL _ _ _ hn]
  split
  ·rfl
  ·exact h
 ·exact h
theorem Told.put{dec:Int→Option Int}{PL:List (Int×Int)}{s:RdS}{bg:Int}(h:Told dec PL)(hb:¬jdh bg PL s):Told (updD dec (entT s) (entN s)) (putP PL s):=by
 intro k p hk
 unfold updD at hk
 split at hk
 ·cases hk
  refine⟨by unfold entN;omega,fun h0=>?_⟩
  have hn:jbp PL (entN s)=none:=by
   cases hf:jbp PL (entN s)with
   | none=>rfl
   | some u=>exact absurd (Or.inr (Or.inr ⟨h0,by rw[hf];rfl⟩)) hb
  unfold putP
  rw[if_pos h0,jeB PL _ _ _ hn,if_pos rfl]
  rfl
 ·exact⟨(h k p hk).1,fun h0=>jmV hb ((h k p hk).2 h0)⟩
theorem ji0(bg:Int):∀(m:Nat) (s:RdS) (dec:Int→Option Int) (PL:List (Int×Int)) (x:EntS),jbM bg m s dec PL=some x→Told dec PL→Told x.1 x.2.1
 | 0,s,dec,PL,x,h,ht=>by simp only[jbM,Option.some.injEq]at h;rw[←h];exact ht
 | m+1,s,dec,PL,x,h,ht=>by
  rw[jbM]at h
  split at h
  ·simp only[Option.some.injEq]at h;rw[←h];exact ht
  ·split at h
   ·cases h
   ·rename_i hb
    exact ji0 bg m _ _ _ x h (ht.put hb)
theorem jhq:∀(m i:Nat) (s:RdS) (y:List GCatalog×RdS),jbn m i s=some y→∀(j:Nat) (c:GCatalog),y.1[j]?=some c→jc7 c=true∧c.fVersion=((i+j:Nat):Int)
 | 0,_,s,y,h,j,c,hc=>by simp only[jbn,Option.some.injEq]at h;rw[←h]at hc;cases hc
 | m+1,i,s,y,h,j,c,hc=>by
  rw[jbn]at h
  split at h
  ·simp only[Option.some.injEq]at h;rw[←h]at hc;cases hc
  ·split at h
   ·cases h
   ·rename_i hb
    obtain⟨z,h1,h2⟩:=Option.map_eq_some_iff.1 h
    rw[←h2]at hc
    unfold jdC at hb
    simp only[not_or]at hb
    cases j with
    | zero=>
     have hc':(catT s).1=c:=by simpa using hc
     refine⟨by rw[←hc'];cases hr:jc7 (catT s).1 with | true=>rfl | false=>exact absurd hr hb.2.1,?_⟩
     rw[←hc']
     exact Classical.byContradiction fun e=>hb.2.2 e
    | succ j=>
     have hc':z.1[j]?=some c:=by simpa using hc
     obtain⟨g1,g2⟩:=jhq m (i+1) _ z h1 j c hc'
     exact⟨g1,by rw[g2];congr 1;omega⟩
structure LoadOk(R:RootS):Prop where
 root:RootOk R
 fit:FitR R
 sp:1≤R.spare∧R.spare≤4
 rt:R.routes.fSpans.length≤4
theorem joz{r:GRoutes}(h:jcA r=true):FitG r∧r.fSpans.length≤4:=by
 unfold jcA at h
 simp only[Bool.and_eq_true]at h
 obtain⟨h1,h2,h3⟩:=h
 unfold jcu at h1
 simp only[Bool.and_eq_true,decide_eq_true_eq]at h1
 refine⟨⟨fun o ho=>?_,?_⟩,h1.2.2.2.2⟩
 ·obtain⟨k,hk,rfl⟩:=List.mem_iff_getElem.1 ho
  have h4:=List.all_eq_true.1 h2 k (List.mem_range.2 hk)
  unfold jf0 at h4
  rw[List.getElem?_eq_getElem hk]at h4
  simp only[badP,Bool.not_eq_true',Bool.or_eq_false_iff,Bool.and_eq_false_iff]at h4
  obtain⟨-,-,-,h5,h6⟩:=h4
  rcases h6 with h6 | h6
  ·have hk0:k=0:=by have:=of_decide_eq_false h6;omega
   have h7:r.fSpans[k].fFrom=[120]:=by
    subst hk0
    by_cases hq:r.fSpans[0].fFrom=[120]
    ·exact hq
    ·simp[hq]at h5
   rw[h7];decide
  ·have:=of_decide_eq_false h6.2.2.1
   omega
 ·unfold jex at h3
  split at h3
  ·have:r.fCut=[]:=by simpa using h3
   rw[this];exact Nat.zero_le _
  ·simp only[Bool.and_eq_true,decide_eq_true_eq]at h3
   exact h3.2
theorem jlE{v:Nat}{rt:GRoutes}{L:List GCatalog}{bg:Nat}{dec:Int→Option Int}{PL:List (Int×Int)}(hp:jcA rt=true)(hv1:¬(v:Int)<1)(hv4:v≤4)(hr:∀(j:Nat) (c:GCatalog),L[j]?=some c→jc7 c=true∧c.fVersion=((0+j:Nat):Int))(hne:L≠[])(hbg:bg<2 ^ 64)
  (ht:Told dec PL) (hE:allP PL) (hn:L.length≤5000∧(ordL PL PL.length).length≤100000):LoadOk ⟨v,L,rt,bg,dec,ordL PL PL.length⟩:=by
 obtain⟨hf,hs4⟩:=joz hp
 have hfit:∀c∈L,FitC c:=fun c hc=>by
  obtain⟨j,hj,rfl⟩:=List.mem_iff_getElem.1 hc
  exact jnd (rightB_iff.1 (hr j _ (List.getElem?_eq_getElem hj)).1)
 refine⟨⟨hne,⟨Nat.le_trans hn.1 (by decide),hn.2⟩,fun c hc=>⟨jm3 (hfit c hc),?_⟩,fun i c hc=>by rw[(hr i c hc).2];simp,Nat.le_trans hs4 (by decide),⟨Int.natCast_nonneg _,by show(bg:Int)≤_;omega⟩,fun k p hk=>?_⟩,⟨hfit,hf⟩,⟨by show 1≤(v:Int);omega,by show(v:Int)≤4;omega⟩,hs4⟩
 ·obtain⟨j,hj,rfl⟩:=List.mem_iff_getElem.1 hc
  have hj':j<L.length:=hj
  rw[(hr j _ (List.getElem?_eq_getElem hj)).2]
  have:=hn.1
  omega
 ·obtain⟨h1,h2⟩:=ht k p hk
  refine⟨h1,?_⟩
  show p≤((ordL PL PL.length).length:Int)
  rw[show(ordL PL PL.length).length=PL.length by simp[ordL]]
  rcases Int.lt_or_le 0 p with h3 | h3
  ·exact jmT hE (h2 h3)
  ·omega
theorem jpw{l:List UInt8}{R:RootS}(h:jbr l=some R)(hn:R.cats.length≤5000∧R.order.length≤100000):LoadOk R:=by
 unfold jbr stB at h
 have hv4:=jcc 4 ⟨l,0,0,[]⟩
 generalize numS 4 ⟨l,0,0,[]⟩=y0 at *
 generalize ja4 M30 y0.2=y1 at *
 generalize jcP jbE jc5 y1.1=y2 at *
 split at h
 ·cases h
 rename_i h1
 simp only[not_or]at h1
 obtain⟨-,hp,hv⟩:=h1
 have hp:jcA y2.1.fRoutes=true:=by
  cases hq:jcA y2.1.fRoutes with
  | true=>rfl
  | false=>exact absurd hq hp
 unfold stC at h
 generalize numS M30 y1.2=y3 at *
 split at h
 ·cases h
 rename_i y hy
 split at h
 ·cases h
 rename_i hne
 unfold stD at h
 have hbg:=jbt maxU y.2
 generalize numS maxU y.2=y4 at *
 generalize numS M30 y4.2=y5 at *
 split at h
 ·cases h
 rename_i x hx
 unfold stE at h
 split at h
 ·rename_i hE
  simp only[Option.some.injEq]at h
  have hr:=jhq _ _ _ _ hy
  have ht:=ji0 _ _ _ _ _ _ hx (fun k p hk=>by cases hk)
  subst h
  exact jlE hp hv hv4 hr hne hbg ht hE.1 hn
 ·cases h
theorem jmn:StructT Tryz.prog 79 10:=⟨⟨_,Tryz.underlying79⟩,by kernel_rfl⟩
theorem joh(a:Act)(dst:Option Tmp)(x:Operand)(ty:TypeId)(pos:String)(after:Array Edge)(guard:Option (Nat×Bool)):execOp a.eval {dst:=dst,op:=.load 79 x,type:=ty,pos:=pos,after:=after,guard:=guard}=ja1 79 (a.eval x):=rfl
theorem joG(a:Act)(dst:Option Tmp)(x y:Operand)(ty:TypeId)(pos:String)(after:Array Edge)(guard:Option (Nat×Bool)):execOp a.eval {dst:=dst,op:=.store 79 x y,type:=ty,pos:=pos,after:=after,guard:=guard}=jbm 79 (a.eval x) (a.eval y):=rfl
theorem RootAt.move{w w':World}{O:Nat→Prop}{y g n:Nat}{R:RootS}{bM cC cO cS cU:Nat}{aC aO aS aU:Option Addr}{cssC:List (List Value)}{D:DataW Value}(B:RootAt w O y n R bM aC cC aO cO aS cS aU cU cssC D)(hg:¬O g)(k:Keep (·=g) w w')
  (row:RowIs w' g 79 [.int .i64 R.spare,.slice aC R.cats.length cC,.int .i64 R.routes.fEpoch,.int .i64 R.routes.fBase,.slice aS R.routes.fSpans.length cS,.int .i64 R.routes.fMoving,.slice aU R.routes.fCut.length cU,.int .u64 R.begun,.map (some bM),.slice aO R.order.length cO]) :
  RootAt w' (fun b=>O b∨b=g) g n R bM aC cC aO cO aS cS aU cU cssC D:=by
 have hne:∀b,O b→¬b=g:=fun b hb e=>hg (e ▸ hb)
 have hdeep:∀b,Deep O y bM (.slice aC R.cats.length cC) (.slice aO R.order.length cO) b→Deep (fun b=>O b∨b=g) g bM (.slice aC R.cats.length cC) (.slice aO R.order.length cO) b:=fun b hb=>⟨.inl hb.1,hne b hb.1,hb.2.2.1,hb.2.2.2.1,hb.2.2.2.2⟩
 exact⟨row,.inl B.oM,hne _ B.oM,fun b hb=>⟨.inl (B.oC b hb).1,hne b (B.oC b hb).1,(B.oC b hb).2.2⟩,fun b hb=>⟨.inl (B.oO b hb).1,hne b (B.oO b hb).1,(B.oO b hb).2.2⟩,B.co,jad B.rowC k (fun b hb=>hne b (B.oC b hb).1),
  (B.els.keep rGCatalog_lawful k (fun b hb=>hne b hb.1)).mono rGCatalog_lawful hdeep,rGRoutes_lawful.mono (rGRoutes_lawful.keep B.rts k (fun b hb=>hne b hb.1)) hdeep,jad B.rowO k (fun b hb=>hne b (B.oO b hb).1),B.dec.keep k (hne _ B.oM)⟩
end Go.Proofs.YtibaehlfpgipfaaGreat
