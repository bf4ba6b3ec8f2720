/- slices.Concat at bytes, of whatever parts. Printed by mac.py. -/
import Derived.Test.YtibaehlfpgipfaaGreatQZRkJ
import Derived.Lib.AppendZeros
import Derived.Test.YtibaehlfpgipfaaGreatQZG23
import Derived.Test.YtibaehlfpgipfaaGreatQZG5
import Derived.Sort.KeysCollected
import Derived.Test.YtibaehlfpgipfaaGreatQZG17
namespace Go.Proofs.YtibaehlfpgipfaaGreat
open Go.RowKit
set_option maxRecDepth 100000
set_option maxHeartbeats 4000000
set_option linter.unusedSimpArgs false
theorem jps(k:Nat)(h0:0<k)(hk:k≤1000000000)(w:World):Calls Tryz.prog 71 #[.slice none 0 0,.int .i64 k] w fun e w'=>∃G,e=.returned (.slice (some ⟨w.heap.size,0,none⟩) 0 G)∧w'.ownsRow w.heap.size 5 1 (.slice (some ⟨w.heap.size,0,none⟩) 0 G) 0 []∧Keep Nix w w':=by
 obtain⟨i,z,hi,hz,hsz,hby,hzs⟩:=T_bytes.info
 obtain⟨G,Z,hG,hG2,hZ,hrz⟩:∃(G:Nat) (Z:List Value),k≤G∧G≤9223372036854775807∧Z.length=G*1∧∀ty,(Builtin.append_ #[30,3] ty #[.slice none 0 0,.int .i64 (k:Int)]).run Tryz.prog w=.ok (.slice (some ⟨w.heap.size,0,none⟩) k G) (w.drew.alloc (.cells Z.toArray 5)):=by
  refine⟨grownCap w (0+k) 0 5,(Builtin.zeroCells z.cells k ++ Builtin.zeroCells z.cells (grownCap w (0+k) 0 5 - (0+k))).toList,?_,?_,?_,fun ty=>?_⟩
  ·have:=grownCap_ge w (0+k) 0 5;omega
  ·have:=grownCap_le_maxLen w (0+k) 0 5 (by unfold maxLen;omega)
   unfold maxLen at this
   omega
  ·have:=grownCap_ge w (0+k) 0 5
   simp[Builtin.zeroCells,hzs]
   simp at this
   omega
  ·have h:=Lib.run_append_grow_zeros w 30 3 ty 5 i z .i64 .i64 T_bytes.under Tryz.underlying3 hi hz none 0 0 [] (by simp[Builtin.firstCells]) k h0 (by rw[hsz];omega) (by omega) (by omega) (by rw[hby];omega) (by rw[hby];exact growslice_fits (by omega) (by omega))
   rw[show 0+k=k by omega]at h ⊢
   rw[h]
   congr 3
   simp
 have kk:Keep Nix w (w.drew.alloc (.cells Z.toArray 5)):=((Keep.refl Nix w).drew).alloc _
 have row:RowIs (w.drew.alloc (.cells Z.toArray 5)) w.heap.size 5 ([] ++ Z):=by
  have h:=RowIs.alloc w.drew Z.toArray 5
  exact h
 have own:Hid ((w.drew.alloc (.cells Z.toArray 5)).ownsRow w.heap.size 5 1 (.slice (some ⟨w.heap.size,0,none⟩) 0 G) 0 []):=jd9 row (Nat.le_refl _) (by simpa using hZ) rfl (by omega) (by unfold maxLen;exact hG2)
 have hk0:(0:Int)<(k:Int):=by omega
 have hkn:¬(k:Int)<0:=by omega
 have hkG:(k:Int)≤(G:Int):=by omega
 clear hi hz hsz hby hzs row hZ
 go_enter Tryz.func71,Tryz.ntmps71
 go_wp2_with (at_builtin;refine Lib.wpList_append_run _ rfl _ _ _ _ rfl _ _ rfl rfl _ _ (hrz _) ?_)
 go_ret
 exact⟨G,rfl,own.out,kk⟩
def PartsAt(w:World)(p:Nat→Prop)(cells:List Value)(ps:List (List UInt8)):Prop:=cells.length=ps.length∧∀(i:Nat) (l:List UInt8),ps[i]?=some l→∃(a:Option Addr) (c:Nat),cells[i]?=some (.slice a l.length c)∧Lies w p a (l.map bv)
theorem PartsAt.keep{w w':World}{p:Nat→Prop}{cells:List Value}{ps:List (List UInt8)}(h:PartsAt w p cells ps){S:Nat→Prop}(k:Keep S w w')(hs:∀b,p b→¬S b):PartsAt w' p cells ps:=
 ⟨h.1,fun i l hl=>by obtain⟨a,c,h1,h2⟩:=h.2 i l hl;exact⟨a,c,h1,h2.keep k hs⟩⟩
theorem PartsAt.nil(w:World)(p:Nat→Prop):PartsAt w p [] []:=⟨rfl,fun i l h=>by simp at h⟩
theorem PartsAt.cons{w:World}{p:Nat→Prop}{cells:List Value}{ps:List (List UInt8)}(h:PartsAt w p cells ps){a:Option Addr}{c n:Nat}{l:List UInt8}(hn:l.length=n)(hl:Lies w p a (l.map bv)):PartsAt w p (.slice a n c :: cells) (l :: ps):=by
 subst hn
 refine⟨by simp[h.1],fun i x hx=>?_⟩
 match i,hx with
 | 0,hx=>cases hx;exact⟨a,c,rfl,hl⟩
 | i+1,hx=>obtain⟨a2,c2,h1,h2⟩:=h.2 i x (by simpa using hx);exact⟨a2,c2,by simpa using h1,h2⟩
theorem jhQ(ps:List (List UInt8))(k:Nat)(h:k<ps.length):(ps.take (k+1)).flatten=(ps.take k).flatten ++ ps[k]:=by
 rw[List.take_succ_eq_append_getElem h,List.flatten_append];simp
theorem jjk(ps:List (List UInt8))(k:Nat):(ps.take k).flatten.length≤ps.flatten.length:=by
 have h:=congrArg (fun l=>(List.flatten l).length) (List.take_append_drop k ps)
 simp only[List.flatten_append,List.length_append]at h
 omega
theorem jgY{p:Nat→Prop}(g c:Nat)(ps:List (List UInt8))(cells:List Value)(w:World)(row:RowIs w g 30 cells)(hp:PartsAt w p cells ps)(hpb:∀b,p b→b<w.heap.size)(h0:0<ps.flatten.length)(hn:ps.flatten.length≤1000000000)(hk:ps.length≤1000000) :
  Calls Tryz.prog 27 #[.slice (some ⟨g,0,none⟩) ps.length c] w fun e w'=>∃a' c',e=.returned (.slice a' ps.flatten.length c')∧w'.ownsRow w.heap.size 5 1 (.slice a' ps.flatten.length c') ps.flatten.length (ps.flatten.map bv)∧Keep Nix w w':=by
 have HP:=Lib.hid hp
 have HPB:=Lib.hid hpb
 have ROW:=Lib.hid row
 have HG:=Lib.hid (jps ps.flatten.length h0 hn w)
 have HLE:=Lib.hid (jjk ps)
 clear row hp hpb
 obtain⟨N,hN⟩:∃N,Hid (ps.flatten.length=N):=⟨_,rfl⟩
 rw[hN.out]at HG h0 hn ⊢
 go_enter Tryz.func27,Tryz.ntmps27
 go_wp2_with fail
 go_loopw [3,11] (fun s i wr=>∃(k n:Nat),k≤ps.length∧i=.int .i64 (k:Int)∧s=.int .i64 (n:Int)∧Hid (n=(ps.take k).flatten.length)∧w=wr) (fun _ i _=>ps.length - (intOf i).toNat)
 case atStart=>exact⟨0,0,Nat.zero_le _,rfl,rfl,rfl,rfl⟩
 case round=>
  obtain⟨k,n,hkp,rfl,rfl,hs,rfl⟩:=hrel
  by_cases hlt:k<ps.length
  ·have hi0:(0:Int)≤(k:Int):=by omega
   have hi1:(k:Int)<(ps.length:Int):=by omega
   have hstep:Hid ((ps.take (k+1)).flatten.length=(ps.take k).flatten.length+ps[k].length):=by show _=_;rw[jhQ ps k hlt,List.length_append]
   obtain⟨a,c1,hc,-⟩:=HP.out.2 k ps[k] (List.getElem?_eq_getElem hlt)
   have x0:=(ROW.out.cell k).trans hc
   generalize ps[k]=l at *
   have hle:n+l.length≤N:=by have:=HLE.out (k+1);have:=hstep.out;have:=hs.out;have:=hN.out;omega
   have hwk:IntKind.i64.wrap ((k:Int)+1)=(k:Int)+1:=by rw[IntKind.wrap_i64];omega
   have hwn:IntKind.i64.wrap ((n:Int)+(l.length:Int))=(n:Int)+(l.length:Int):=by rw[IntKind.wrap_i64];omega
   have hnn:¬(n:Int)+(l.length:Int)<0:=by omega
   clear hc
   go_wp2_with fail
   go_roundw
   case rel=>exact⟨k+1,n+l.length,by omega,by go_num,by go_num,by show _=_;rw[hstep.out,hs.out],by first | rfl | trivial⟩
   case measure=>simp[intOf];omega
  ·obtain rfl:k=ps.length:=by omega
   have hnN:n=N:=by have:=hs.out;rw[List.take_length]at this;rw[this,hN.out]
   subst hnN
   go_wp2_with fail
   go_fit HG.out
   rintro e w1 ⟨G,rfl,own,k1⟩
   have ROW1:=Lib.hid (ROW.out.keep k1 id)
   have HP1:=Lib.hid (HP.out.keep k1 (fun _ _ h=>h))
   have hs1:=k1.size
   have OWN:=Lib.hid own
   have HK1:=Lib.hid k1
   clear own k1 HG
   go_wp2_with fail
   go_loopw [6,27] (fun s i wr=>∃(k:Nat) (a:Option Addr) (cp:Nat),k≤ps.length∧i=.int .i64 (k:Int)∧s=.slice a (ps.take k).flatten.length cp∧wr.ownsRow w.heap.size 5 1 (.slice a (ps.take k).flatten.length cp) (ps.take k).flatten.length ((ps.take k).flatten.map bv)∧Keep Nix w wr) (fun _ i _=>ps.length - (intOf i).toNat)
   case atStart=>exact⟨0,_,G,Nat.zero_le _,rfl,rfl,OWN.out,HK1.out⟩
   case round=>
    clear OWN HK1 hkp hlt hs
    obtain⟨k,a,cp,hkp,rfl,rfl,own,kk⟩:=hrel
    by_cases hlt:k<ps.length
    ·have hi0:(0:Int)≤(k:Int):=by omega
     have hi1:(k:Int)<(ps.length:Int):=by omega
     have hstep:Hid ((ps.take (k+1)).flatten=(ps.take k).flatten ++ ps[k]):=jhQ ps k hlt
     obtain⟨a2,c2,hc,hl⟩:=(HP.out.keep kk (fun _ _ h=>h)).2 k ps[k] (List.getElem?_eq_getElem hlt)
     have x0:=((ROW.out.keep kk id).cell k).trans hc
     generalize ps[k]=l at *
     have hwk:IntKind.i64.wrap ((k:Int)+1)=(k:Int)+1:=by rw[IntKind.wrap_i64];omega
     have hle:(ps.take k).flatten.length+l.length≤n:=by
      have h1:=HLE.out (k+1)
      rw[hstep.out,List.length_append]at h1
      have:=hN.out
      omega
     have HL:=Lib.hid hl
     have HKK:=Lib.hid kk
     have hsz:=kk.size
     clear hc hl kk
     generalize (ps.take k).flatten=xs at *
     go_wp2_with (at_builtin;refine jcy (m:=l.length) (c:=c2) T_bytes ?hgd (.tmp 31) (.tmp 32) ?ho w.heap.size ?hs own (l.map bv) ?hx ?c0 HL.out ?c1 ?c2 ?c3 ?c4 ?_)
     case hgd=>rfl
     case ho=>rfl
     case hs=>rfl
     case hx=>rfl
     case c0=>simp
     case c1=>exact jdW l
     case c2=>unfold maxLen;omega
     case c3=>omega
     case c4=>exact hsz
     intro a' cap' w2 own2 hg2
     have k2:Keep (OwnB (.slice a xs.length cp)) wr w2:=(Keep.refl _ wr).grown hg2 (fun _ h _=>h)
     have hge:∀b,OwnB (.slice a xs.length cp) b→w.heap.size≤b:=fun b hb=>(own.lt b hb).1
     have kw:=Lib.hid (HKK.out.then k2 (fun i hi h=>by have:=hge i h;omega))
     have OW2:=Lib.hid own2
     clear x0 own hg2 k2 hge own2
     go_wp2_with fail
     go_roundw
     case rel=>exact⟨k+1,a',cap',by omega,by go_num,by rw[hstep.out,List.length_append],by rw[hstep.out,List.length_append,List.map_append];exact OW2.out,kw.out⟩
     case measure=>simp[intOf];omega
    ·obtain rfl:k=ps.length:=by omega
     rw[List.take_length]at own ⊢
     rw[hN.out]at own ⊢
     have HO:=Lib.hid own
     have HKK:=Lib.hid kk
     clear own kk
     go_wp2_with fail
     go_ret
     exact⟨a,cp,rfl,HO.out,HKK.out⟩
structure Rise(ys:List Int)(dec:Int→Option Int):Prop where
 rise:ys.Pairwise (· < ·)
 mem:∀k,k∈ys↔jaw k∧(dec k).isSome=true
theorem Rise.uniq{ys zs:List Int}{dec:Int→Option Int}(h:Rise ys dec)(k:Rise zs dec):ys=zs:=jiH h.rise k.rise (fun i=>(h.mem i).trans (k.mem i).symm)
theorem Rise.of{D:DataW Value}{dec:Int→Option Int}(hD:∀k,jaw k→Maps.has D (keyU k)=(dec k).isSome){ss ys:List Int}(hk:KeysOf D (fun _=>false) ss)(hp:ys.Perm ss)(hu:UpTo ys.length ys):Rise ys dec:=by
 refine⟨jkO hu (hp.nodup_iff.2 hk.1),fun k=>?_⟩
 rw[hp.mem_iff,hk.2 k]
 constructor
 ·rintro⟨h1,h2,-⟩
  rw[hD k h1]at h2
  exact⟨h1,h2⟩
 ·rintro⟨h1,h2⟩
  exact⟨h1,by rw[hD k h1];exact h2,rfl⟩
theorem ji5(a b:Int):(keyU a).sameKey (keyU b)=decide (a=b):=by
 by_cases h:a=b
 ·subst h;simp[keyU,Lit.sameKey]
 ·simp[keyU,Lit.sameKey,h]
theorem jnm{w:World}{bM n:Nat}{D:DataW Value}{ss:List Int}(own:w.ownsMap Tryz.prog 28 jcm bM n D)(h:KeysOf D (fun _=>false) ss):Maps.size D=ss.length:=by
 obtain⟨es,hD,hp⟩:=own.tidy uK
 obtain⟨es2,hD2,hk⟩:=own.keysOf
 obtain rfl:es=es2:=by rw[hD]at hD2;cases hD2;rfl
 have hk2:∀p∈es,∃x,jaw x∧p.1=keyU x:=fun p hpm=>by
  obtain⟨v,hv⟩:=hk p hpm
  obtain⟨x,-,e,hw⟩:=Maps.keyOf_int_inv Tryz.underlying28 hv
  exact⟨x,jeS hw,e⟩
 rw[hD,Maps.size_eq]
 have hh:∀k,Maps.has D (keyU k)=es.any (fun p=>p.1.sameKey (keyU k)):=fun k=>by rw[hD,Maps.has_eq]
 obtain⟨f,hf⟩:∃f:Lit→Int,∀x,f (keyU x)=x:=⟨fun l=>match l with | .int _ x=>x | _=>0,fun x=>rfl⟩
 have hperm:(es.map (fun p=>f p.1)).Perm ss:=by
  refine(List.perm_ext_iff_of_nodup ?_ h.1).2 (fun k=>?_)
  ·refine List.pairwise_map.2 (hp.imp_of_mem ?_)
   intro p q hpm hqm hne e
   obtain⟨x,-,ex⟩:=hk2 p hpm
   obtain⟨y,-,ey⟩:=hk2 q hqm
   rw[ex,ey,hf,hf]at e
   exact hne (by rw[ex,ey,e])
  ·rw[h.2 k,hh k,List.mem_map,List.any_eq_true]
   constructor
   ·rintro⟨p,hpm,e⟩
    obtain⟨x,hx,ex⟩:=hk2 p hpm
    rw[ex,hf]at e
    subst e
    exact⟨hx,⟨p,hpm,by rw[ex,ji5];simp⟩,rfl⟩
   ·rintro⟨h1,⟨p,hpm,e⟩,-⟩
    obtain⟨x,hx,ex⟩:=hk2 p hpm
    rw[ex,ji5]at e
    exact⟨p,hpm,by rw[ex,hf];exact of_decide_eq_true e⟩
 have:=hperm.length_eq
 rw[List.length_map]at this
 exact this
theorem jmx{w:World}{bM n:Nat}{D:DataW Value}{dec:Int→Option Int}(h:DecIs w bM n D dec){k:Int}(hk:jaw k) :
  (Instr.lookup 77 (.map (some bM)) (.int .u64 k) false).run Tryz.prog w=.ok (.int .i64 (decO (dec k))) w:=by
 obtain⟨h1,-⟩:=h.2 k hk
 obtain⟨v',ps,hrun,h3⟩:=h.1.lookup uK Tryz.underlying77 (jlt w) (show jcm (.int .i64 0)=some (.held (.int .i64 0),[]) from rfl) (jg2 hk)
 rw[h1]at h3
 simp only[jcm,Option.some.injEq,Prod.mk.injEq,DataW.held.injEq]at h3
 rw[h3.1]at hrun
 exact hrun
def repR(r:GRoutes):GReply:=⟨0,0,0,false,[],[],⟨0,0,[],[]⟩,r⟩
def jcw(l:List GCatalog):List UInt8:=(l.map (fun c=>jas (jaq c))).flatten
def decB(dec:Int→Option Int)(ys:List Int):List UInt8:=(ys.map (fun k=>numB k.toNat ++ numB (decO (dec k)).toNat)).flatten
def jcR(R:RootS):List UInt8:=numB R.spare.toNat ++ (jas (ja5 (repR R.routes)) ++ numB R.cats.length)
def midB(R:RootS)(n:Nat):List UInt8:=(jcR R ++ jcw R.cats) ++ (numB R.begun.toNat ++ numB n)
def jbb(R:RootS)(ys:List Int):List UInt8:=midB R ys.length ++ decB R.dec ys
theorem jl3(l:List GCatalog)(k:Nat)(h:k<l.length):jcw (l.take (k+1))=jcw (l.take k) ++ jas (jaq l[k]):=by
 unfold jcw
 rw[List.take_succ_eq_append_getElem h,List.map_append,List.flatten_append];simp
theorem jmw(dec:Int→Option Int)(ys:List Int)(k:Nat)(h:k<ys.length):decB dec (ys.take (k+1))=decB dec (ys.take k) ++ (numB ys[k].toNat ++ numB (decO (dec ys[k])).toNat):=by
 unfold decB
 rw[List.take_succ_eq_append_getElem h,List.map_append,List.flatten_append];simp
theorem jfc(l:List UInt8):(jas l).length≤10+l.length:=by
 have:=(jaP l.length).1
 simp[jas];omega
theorem jd3{w:World}{p:Nat→Prop}{a:Option Addr}{xs:List Value}(h:Lies w p a xs):Lies w (fun b=>b<w.heap.size) a xs:=fun hx=>by
 obtain⟨b,off,h1,-,h3,h4⟩:=h hx
 exact⟨b,off,h1,h3,h3,h4⟩
theorem jlf{c:GCatalog}(h:FitC c):(jaq c).length≤100000:=by
 have h1:=jdY c
 have h2:c.size≤10000:=by
  have ht:jbF GTable.size c.fTables≤c.fTables.length*400+1:=jdl _ 400 _ (fun t ht=>by
   obtain⟨q1,q2,q3,q4⟩:=h.2.2.1 t ht
   have hc:jbF GColumn.size t.fColumns≤t.fColumns.length*40+1:=jdl _ 40 _ (fun d hd=>by
    have:=q3 d hd
    simp only[GColumn.size]
    omega)
   have hk:=jdl (fun _:Int=>1) 1 t.fKey (fun _ _=>Nat.le_refl _)
   simp only[GTable.size]
   omega)
  have hx:jbF GIndex.size c.fIndexes≤c.fIndexes.length*400+1:=jdl _ 400 _ (fun x hx=>by
   obtain⟨q1,q2⟩:=h.2.2.2 x hx
   have hk:=jdl (fun _:Int=>1) 1 x.fColumns (fun _ _=>Nat.le_refl _)
   simp only[GIndex.size]
   omega)
  have h3:=h.1
  have h4:=h.2.1
  simp only[GCatalog.size]
  omega
 omega
theorem jid{r:GRoutes}(h:FitG r)(h4:r.fSpans.length≤4):(ja5 (repR r)).length≤100000:=by
 have h1:=jiT (repR r)
 have h2:(repR r).size≤10000:=by
  have ho:jbF GOwner.size r.fSpans≤r.fSpans.length*700+1:=jdl _ 700 _ (fun o ho=>by
   have:=h.1 o ho
   simp only[GOwner.size]
   omega)
  have h5:=h.2
  simp only[repR,GReply.size,GRoutes.size,GCatalog.size,jbF,List.map_nil,List.sum_nil]at ho ⊢
  omega
 omega
section
theorem zI64:jae 0:=⟨by decide,by decide⟩
theorem zU64:jaw 0:=⟨by decide,by decide⟩
theorem repR_R{w:World}{p:Nat→Prop}{r:GRoutes}{aS:Option Addr}{cS:Nat}{aU:Option Addr}{cU:Nat}(h:jaz w p [.int .i64 r.fEpoch,.int .i64 r.fBase,.slice aS r.fSpans.length cS,.int .i64 r.fMoving,.slice aU r.fCut.length cU] r):jc4 w p [.int .i64 0,.int .u64 0,.int .i64 0,.bool false,.slice none 0 0,.slice none 0 0,.int .i64 0,.int .i64 0,.slice none 0 0,.slice none 0 0,.int .i64 r.fEpoch,.int .i64 r.fBase,.slice aS r.fSpans.length cS,.int .i64 r.fMoving,.slice aU r.fCut.length cU] (repR r):=by
 obtain⟨aS',cS',aU',cU',e,h1,h2,h3,h4,h5,-⟩:=jav h
 simp only[List.cons.injEq,Value.slice.injEq,and_true,true_and]at e
 obtain⟨⟨rfl,rfl⟩,rfl,rfl⟩:=e
 exact jd8 w p (x:=repR r) zI64 zU64 zI64 (jbW _ _) (jbW _ _) (jcs w p (x:=⟨0,0,[],[]⟩) zI64 zI64 (jbW _ _) (jbW _ _)) h
theorem jnh{p:Nat→Prop}(r:GRoutes)(crs:List Value)(w:World)(hr:jaz w p crs r)(hp:∀b,p b→b<w.heap.size)(hl:(ja5 (repR r)).length≤far) :
  Calls Tryz.prog 30 #[.agg crs.toArray] w (Made (ja5 (repR r)) w):=by
 have hr2:=hr
 obtain⟨aS,cS,aU,cU,rfl,-⟩:=jav hr
 have kk:Keep Nix w (w.alloc (.cells #[.int .i64 r.fEpoch,.int .i64 r.fBase,.slice aS r.fSpans.length cS,.int .i64 r.fMoving,.slice aU r.fCut.length cU] 53)):=(Keep.refl Nix w).alloc _
 have row0:RowIs (w.alloc (.cells #[.int .i64 r.fEpoch,.int .i64 r.fBase,.slice aS r.fSpans.length cS,.int .i64 r.fMoving,.slice aU r.fCut.length cU] 53)) w.heap.size 53 [.int .i64 r.fEpoch,.int .i64 r.fBase,.slice aS r.fSpans.length cS,.int .i64 r.fMoving,.slice aU r.fCut.length cU]:=RowIs.alloc w _ _
 have HC:=Lib.hid (jn2 (w.alloc (.cells #[.int .i64 r.fEpoch,.int .i64 r.fBase,.slice aS r.fSpans.length cS,.int .i64 r.fMoving,.slice aU r.fCut.length cU] 53)) p (fun b hb=>Nat.lt_of_lt_of_le (hp b hb) kk.size) (repR r) [.int .i64 0,.int .u64 0,.int .i64 0,.bool false,.slice none 0 0,.slice none 0 0,.int .i64 0,.int .i64 0,.slice none 0 0,.slice none 0 0,.int .i64 r.fEpoch,.int .i64 r.fBase,.slice aS r.fSpans.length cS,.int .i64 r.fMoving,.slice aU r.fCut.length cU] (repR_R (rGRoutes_lawful.nix hr2 kk)) hl)
 have x0:=row0.cell 0
 (try simp only[List.getElem?_cons_zero]at x0)
 have x1:=row0.cell 1
 (try simp only[List.getElem?_cons_succ]at x1);(try simp only[List.getElem?_cons_zero]at x1)
 have x2:=row0.cell 2
 (try simp only[List.getElem?_cons_succ]at x2);(try simp only[List.getElem?_cons_zero]at x2)
 have x3:=row0.cell 3
 (try simp only[List.getElem?_cons_succ]at x3);(try simp only[List.getElem?_cons_zero]at x3)
 have x4:=row0.cell 4
 (try simp only[List.getElem?_cons_succ]at x4);(try simp only[List.getElem?_cons_zero]at x4)
 clear hr hr2 row0 hp hl
 go_enter Tryz.func30,Tryz.ntmps30
 go_wp2_with fail
 go_fit HC.out
 rintro e w1 ⟨a,c,rfl,own,k1⟩
 go_wp2_with fail
 go_ret
 exact⟨a,c,rfl,jbY own kk.size,kk.trans k1⟩
def jml(w:World)(n:Nat)(R:RootS)(e:Ending)(w':World):Prop:=
 ∃(ys:List Int) (a:Option Addr) (c:Nat),Rise ys R.dec∧ys.length≤n∧e=.returned (.slice a (jbb R ys).length c)∧w'.ownsRow w.heap.size 5 1 (.slice a (jbb R ys).length c) (jbb R ys).length ((jbb R ys).map bv)∧Keep Nix w w'
structure SaveOk(R:RootS)(n:Nat):Prop where
 fit:FitR R
 sp:1≤R.spare∧R.spare≤4
 rt:R.routes.fSpans.length≤4
 cats:R.cats.length≤5000
 n:n≤1000000
theorem jiw:∀(l:List GCatalog),(∀c∈l,(jaq c).length≤100000)→(jcw l).length≤l.length*100010
 | [],_=>Nat.le_refl _
 | c :: l,h=>by
  have h1:=jiw l (fun d hd=>h d (by simp[hd]))
  have h2:=jfc (jaq c)
  have h3:=h c (by simp)
  simp only[jcw,List.map_cons,List.flatten_cons,List.length_append]at h1 ⊢
  rw[List.length_cons,Nat.succ_mul]
  omega
theorem jgZ(dec:Int→Option Int):∀(ys:List Int),(decB dec ys).length≤ys.length*20
 | []=>Nat.le_refl _
 | y :: ys=>by
  have h1:=jgZ dec ys
  have h2:=(jaP y.toNat).1
  have h3:=(jaP (decO (dec y)).toNat).1
  simp only[decB,List.map_cons,List.flatten_cons,List.length_append]at h1 ⊢
  rw[List.length_cons,Nat.succ_mul]
  omega
theorem jo2{w:World}{g:Nat}{v1 v2 v7 v8 v9:Value}{rs:List Value}(row:RowIs w g 79 (v1 :: v2 :: (rs ++ [v7,v8,v9])))(h5:rs.length=5):(ja1 53 (.pointer (some ⟨g,2,none⟩))).run Tryz.prog w=.ok (.value (.agg rs.toArray)) w:=Whole.at S_Routes h5 (fun j u hu=>by
 rw[row.cell,Nat.add_comm,List.getElem?_cons_succ,List.getElem?_cons_succ,List.getElem?_append_left (List.getElem?_eq_some_iff.1 hu).1];exact hu)
section
attribute [local go_sem ↓] jbC jbB jcp
theorem jf2(O:Nat→Prop)(g n:Nat)(R:RootS)(w:World)(H:IsRoot w O g n R)(hS:SaveOk R n) :
  Calls Tryz.prog 10 #[.pointer (some ⟨g,0,none⟩)] w (jml w n R):=by
 have HSO:=Lib.hid hS
 obtain⟨lt,og,ok,bM,aC,cC,aO,cO,aS,cS,aU,cU,cssC,D,B⟩:=H
 have ROW:=Lib.hid B.row
 have DM:=Lib.hid B.dec
 have OWC:=Lib.hid B.rowC
 have ELC:=Lib.hid B.els
 have RTS:=Lib.hid B.rts
 have HLT:=Lib.hid lt
 have HOK:=Lib.hid ok
 have HBM:Hid (bM<w.heap.size):=lt bM B.oM
 have HEC:Hid (∀c∈R.cats,(jaq c).length≤100000):=fun c hc=>jlf (hS.fit.cats c hc)
 have hER:=jid hS.fit.rts hS.rt
 have hcl:R.cats.length≤5000:=hS.cats
 have hsn:Maps.size D≤n:=B.dec.1.size_le
 have hn5:n≤1000000:=hS.n
 obtain⟨sz,hsz⟩:∃sz,Hid (Maps.size D=sz):=⟨_,rfl⟩
 rw[hsz.out]at hsn
 have hsp:0≤R.spare∧R.spare≤4:=⟨by have:=hS.sp.1;omega,hS.sp.2⟩
 have hspU:jaw R.spare:=⟨hsp.1,by omega⟩
 have hcv1:IntKind.u64.wrap R.spare=R.spare:=by rw[IntKind.wrap_u64];omega
 have hcv2:IntKind.u64.wrap (R.cats.length:Int)=(R.cats.length:Int):=by rw[IntKind.wrap_u64];omega
 have HSA:Hid (∀w',Keep Nix w w'→w'.cell? ⟨g,0,none⟩=some (.int .i64 R.spare)∧w'.cell? ⟨g,1,none⟩=some (.slice aC R.cats.length cC)∧(ja1 53 (.pointer (some ⟨g,2,none⟩))).run Tryz.prog w'=.ok (.value (.agg ([.int .i64 R.routes.fEpoch,.int .i64 R.routes.fBase,.slice aS R.routes.fSpans.length cS,.int .i64 R.routes.fMoving,.slice aU R.routes.fCut.length cU]:List Value).toArray)) w'):=fun w' k=>by
  have r:=ROW.out.keep k id
  exact⟨r.cell 0,r.cell 1,jo2 (rs:=[.int .i64 R.routes.fEpoch,.int .i64 R.routes.fBase,.slice aS R.routes.fSpans.length cS,.int .i64 R.routes.fMoving,.slice aU R.routes.fCut.length cU]) r rfl⟩
 have hU:=ok.u64
 clear lt og ok B hS
 go_enter Tryz.func10,Tryz.ntmps10
 go_upto_region 3 with fail
 refine wp_region_held_drew (S:=(fun w'=>w'.cell? ⟨g,0,none⟩=some (.int .i64 R.spare)∧w'.cell? ⟨g,1,none⟩=some (.slice aC R.cats.length cC)∧(ja1 53 (.pointer (some ⟨g,2,none⟩))).run Tryz.prog w'=.ok (.value (.agg ([.int .i64 R.routes.fEpoch,.int .i64 R.routes.fBase,.slice aS R.routes.fSpans.length cS,.int .i64 R.routes.fMoving,.slice aU R.routes.fCut.length cU]:List Value).toArray)) w')) (by kernel_rfl) ((HSA.out _ ((Keep.refl Nix w).drew))) (fun jaa=>?_)
 have KK:=Lib.hid ((Keep.refl Nix w).drew)
 generalize w.drew=wd at *
 refine tk 0 rfl jaa ?_
 refine tk 1 rfl jaa ?_
 refine tk 2 rfl jaa ?_
 refine tk 3 rfl jaa ?_
 refine tk 4 rfl jaa ?_
 refine tk 6 rfl jaa ?_
 refine tk 7 rfl jaa ?_
 refine tk 8 rfl jaa ?_
 refine tk 9 rfl jaa ?_
 refine tk 12 rfl jaa ?_
 refine tk 13 rfl jaa ?_
 refine tk 14 rfl jaa ?_
 refine tk 15 rfl jaa ?_
 refine tk 16 rfl jaa ?_
 refine tk 17 rfl jaa ?_
 clear hcv1 hcv2
 refine wpAnyH_ready (rs:=[5]) (by kernel_rfl) (by simp) ?_
 refine AllReadyH.cons rfl (fun K hK=>?_) AllReadyH.nil
 go_simp
 go_fit (jfG R.spare wd hspU)
 rintro e w1 ⟨n1,m1,rfl,own1,k1⟩
 have KN:=Lib.hid (KK.out.trans k1)
 clear KK
 have KK:=KN
 clear KN
 go_wp2_with fail
 refine hK.out _ _ ((HSA.out _ KK.out)) (fun jaa=>?_)
 clear hK K
 try simp only[Act.put,zz1,zz2,zz3,zz4,zz5,zz6]
 refine wpAnyH_ready (rs:=[10]) (by kernel_rfl) (by simp) ?_
 refine AllReadyH.cons rfl (fun K hK=>?_) AllReadyH.nil
 go_simp
 go_fit (jnh R.routes [.int .i64 R.routes.fEpoch,.int .i64 R.routes.fBase,.slice aS R.routes.fSpans.length cS,.int .i64 R.routes.fMoving,.slice aU R.routes.fCut.length cU] w1 (rGRoutes_lawful.nix RTS.out KK.out) (fun b hb=>Nat.lt_of_lt_of_le (HLT.out b hb.1) KK.out.size) (by unfold far;omega))
 rintro e w2 ⟨aR,cR,rfl,ownR,k2⟩
 have KN:=Lib.hid (KK.out.trans k2)
 clear KK
 have KK:=KN
 clear KN
 go_wp2_with fail
 refine hK.out _ _ ((HSA.out _ KK.out)) (fun jaa=>?_)
 clear hK K
 try simp only[Act.put,zz1,zz2,zz3,zz4,zz5,zz6]
 refine wpAnyH_ready (rs:=[11]) (by kernel_rfl) (by simp) ?_
 refine AllReadyH.cons rfl (fun K hK=>?_) AllReadyH.nil
 go_simp
 go_fit (jkp aR (ja5 (repR R.routes)).length cR (ja5 (repR R.routes)) w2 rfl (Lies.of_owned ownR) (by omega))
 rintro e w3 ⟨n2,m2,rfl,own2,k3⟩
 have KN:=Lib.hid (KK.out.trans k3)
 clear KK ownR
 have KK:=KN
 clear KN
 go_wp2_with fail
 refine hK.out _ _ ((HSA.out _ KK.out)) (fun jaa=>?_)
 clear hK K
 try simp only[Act.put,zz1,zz2,zz3,zz4,zz5,zz6]
 refine wpAnyH_ready (rs:=[18]) (by kernel_rfl) (by simp) ?_
 refine AllReadyH.cons rfl (fun K hK=>?_) AllReadyH.nil
 go_simp
 go_fit (jlN R.cats.length w3 (by unfold Fits;omega))
 rintro e w4 ⟨n3,m3,rfl,own3,k4⟩
 have KN:=Lib.hid (KK.out.trans k4)
 clear KK
 have KK:=KN
 clear KN
 go_wp2_with fail
 refine hK.out _ _ ((HSA.out _ KK.out)) (fun jaa=>?_)
 clear hK K
 try simp only[Act.put,zz1,zz2,zz3,zz4,zz5,zz6]
 refine wpAnyH_ready (rs:=[19]) (by kernel_rfl) (by simp) ?_
 refine AllReadyH.cons rfl (fun K hK=>?_) AllReadyH.nil
 try simp only[zz1,zz2,zz3]
 go_simp
 have kC:Keep Nix w4 (w4.alloc (.cells #[.slice n1 (numB R.spare.toNat).length m1,.slice n2 (jas (ja5 (repR R.routes))).length m2,.slice n3 (numB R.cats.length).length m3] 30)):=(Keep.refl Nix w4).alloc _
 have rowC:RowIs (w4.alloc (.cells #[.slice n1 (numB R.spare.toNat).length m1,.slice n2 (jas (ja5 (repR R.routes))).length m2,.slice n3 (numB R.cats.length).length m3] 30)) w4.heap.size 30 [.slice n1 (numB R.spare.toNat).length m1,.slice n2 (jas (ja5 (repR R.routes))).length m2,.slice n3 (numB R.cats.length).length m3]:=RowIs.alloc w4 _ _
 have hpl:(numB R.spare.toNat).length+((jas (ja5 (repR R.routes))).length+(numB R.cats.length).length)≤200000:=by
  have h1:=(jaP R.spare.toNat).1
  have h2:=jfc (ja5 (repR R.routes))
  have h3:=(jaP R.cats.length).1
  omega
 have hpl0:0<(numB R.spare.toNat).length:=(jaP R.spare.toNat).2
 have hparts:PartsAt (w4.alloc (.cells #[.slice n1 (numB R.spare.toNat).length m1,.slice n2 (jas (ja5 (repR R.routes))).length m2,.slice n3 (numB R.cats.length).length m3] 30)) (fun b=>b<(w4.alloc (.cells #[.slice n1 (numB R.spare.toNat).length m1,.slice n2 (jas (ja5 (repR R.routes))).length m2,.slice n3 (numB R.cats.length).length m3] 30)).heap.size) [.slice n1 (numB R.spare.toNat).length m1,.slice n2 (jas (ja5 (repR R.routes))).length m2,.slice n3 (numB R.cats.length).length m3] [numB R.spare.toNat,jas (ja5 (repR R.routes)),numB R.cats.length]:=
  (((PartsAt.nil _ _).cons rfl (jd3 ((Lies.of_owned own3).keep kC (fun _ _ h=>h)))).cons rfl (jd3 (((Lies.of_owned own2).keep k4 (fun _ _ h=>h)).keep kC (fun _ _ h=>h)))).cons rfl (jd3 (((((Lies.of_owned own1).keep k2 (fun _ _ h=>h)).keep k3 (fun _ _ h=>h)).keep k4 (fun _ _ h=>h)).keep kC (fun _ _ h=>h)))
 have HC:=jgY w4.heap.size 3 [numB R.spare.toNat,jas (ja5 (repR R.routes)),numB R.cats.length] [.slice n1 (numB R.spare.toNat).length m1,.slice n2 (jas (ja5 (repR R.routes))).length m2,.slice n3 (numB R.cats.length).length m3] (w4.alloc (.cells #[.slice n1 (numB R.spare.toNat).length m1,.slice n2 (jas (ja5 (repR R.routes))).length m2,.slice n3 (numB R.cats.length).length m3] 30)) rowC hparts (fun _ h=>h) (by simp;omega) (by simp;omega) (by simp)
 have KN:=Lib.hid (KK.out.trans kC)
 refine hK.out _ _ ((HSA.out _ KN.out)) (fun jaa=>?_)
 clear hK K
 try simp only[Act.put,zz1,zz2,zz3,zz4,zz5,zz6]
 refine wpAnyH_ready (rs:=[20]) (by kernel_rfl) (by simp) ?_
 refine AllReadyH.cons rfl (fun K hK=>?_) AllReadyH.nil
 try simp only[zz1,zz2,zz3]
 go_simp
 go_fit HC
 rintro e w5 ⟨a5,c5,rfl,own5,k5⟩
 have K5:=Lib.hid (KN.out.trans k5)
 go_wp2_with fail
 refine hK.out _ _ ((HSA.out _ K5.out)) (fun jaa=>?_)
 clear hK K
 try simp only[Act.put,zz1,zz2,zz3,zz4,zz5,zz6]
 refine tk 21 rfl jaa ?_
 refine wpAnyH_done (by kernel_rfl) ?_ _
 have hB5:Hid (([numB R.spare.toNat,jas (ja5 (repR R.routes)),numB R.cats.length]:List (List UInt8)).flatten=jcR R):=by
  show _=_
  simp[jcR]
 have HHL:Hid ((jcR R).length≤200000):=by show _≤_;unfold jcR;rw[List.length_append,List.length_append];exact hpl
 have OW5:=Lib.hid (jbY own5 (base':=w.heap.size) KN.out.size)
 clear own1 own2 own3 own5 k1 k2 k3 k4 k5 kC rowC hparts HC jaa KK KN hpl hpl0 hER
 rw[hB5.out]at OW5
 clear hB5
 have x1:=(HSA.out _ K5.out).2.1
 clear HSA
 have hHLe:Hid ((jcR R).length=(numB R.spare.toNat).length+((jas (ja5 (repR R.routes))).length+(numB R.cats.length).length)):=by show _=_;simp[jcR]
 go_wp2_with fail
 clear x1
 go_loopw [3,36] (fun s i wr=>∃(k:Nat) (B:List UInt8) (a:Option Addr) (c:Nat),k≤R.cats.length∧i=.int .i64 (k:Int)∧s=.slice a B.length c∧Hid (B=jcR R ++ jcw (R.cats.take k))∧wr.ownsRow w.heap.size 5 1 (.slice a B.length c) B.length (B.map bv)∧Keep Nix w wr) (fun _ i _=>R.cats.length - (intOf i).toNat)
 case atStart=>exact⟨0,jcR R,a5,c5,Nat.zero_le _,rfl,by rw[hHLe.out],by show _=_;simp[jcw],OW5.out,K5.out⟩
 case round=>
  clear OW5 K5 hHLe
  obtain⟨k,B,aB,cB,hk,rfl,rfl,hB,ownB,kk⟩:=hrel
  have hBl:B.length≤200000+k*100010:=by
   have h2:=jiw (R.cats.take k) (fun c hc=>HEC.out c (List.mem_of_mem_take hc))
   have h3:=HHL.out
   rw[hB.out,List.length_append]
   rw[List.length_take,Nat.min_eq_left hk]at h2
   omega
  have hkm:k*100010≤5000*100010:=Nat.mul_le_mul_right _ (by omega)
  have OWB:=Lib.hid ownB
  have HKK:=Lib.hid kk
  clear ownB kk
  by_cases hlt:k<R.cats.length
  ·have hi0:(0:Int)≤(k:Int):=by omega
   have hi1:(k:Int)<(R.cats.length:Int):=by omega
   have hwk:IntKind.i64.wrap ((k:Int)+1)=(k:Int)+1:=by rw[IntKind.wrap_i64];omega
   obtain⟨bC,rest,rfl,-,rowb,-,-,-,-⟩:=jg7 (jad OWC.out HKK.out (fun _ _ h=>h)) (by omega)
   have hkc:k<cssC.length:=by rw[ELC.out.1];exact hlt
   have hel:=(ELC.out.keep rGCatalog_lawful HKK.out (fun _ _ h=>h)).2 k cssC[k] R.cats[k] (List.getElem?_eq_getElem hkc) (List.getElem?_eq_getElem hlt)
   have hl4:∀d∈cssC,d.length=4:=fun d hd=>by
    obtain⟨i,hi,rfl⟩:=List.mem_iff_getElem.1 hd
    exact rGCatalog_lawful.len (ELC.out.2 i _ (R.cats[i]'(by rw[←ELC.out.1];exact hi)) (List.getElem?_eq_getElem hi) (List.getElem?_eq_getElem _))
   have hcx:∀j u,cssC[k][j]?=some u→wr.cell? ⟨bC,k*4+j,none⟩=some u:=fun j u hu=>by
    have hf:=jeH cssC hl4 k _ (List.getElem?_eq_getElem hkc) j u hu
    rw[rowb.cell,List.getElem?_append_left (List.getElem?_eq_some_iff.1 hf).1]
    exact hf
   have hstep:Hid (jcw (R.cats.take (k+1))=jcw (R.cats.take k) ++ jas (jaq R.cats[k])):=jl3 R.cats k hlt
   have hxl:=HEC.out _ (List.getElem_mem hlt)
   generalize cssC[k]=cm at *
   generalize R.cats[k]=x at *
   have hel2:=hel
   obtain⟨aT,cT,aX,cX,rfl,-⟩:=jau hel
   have hld:=Whole.at (P:=Tryz.prog) (w:=wr) (b:=bC) (o:=k*4) S_Catalog rfl hcx
   unfold Whole at hld
   obtain⟨hst,rowX,kX⟩:=jds (P:=Tryz.prog) (zs:=[.int .i64 0,.int .i64 0,.slice none 0 0,.slice none 0 0]) (cs:=[.int .i64 x.fVersion,.int .i64 x.fNext,.slice aT x.fTables.length cT,.slice aX x.fIndexes.length cX]) S_Catalog wr rfl rfl rfl
   generalize ((wr.alloc (.cells ([.int .i64 0,.int .i64 0,.slice none 0 0,.slice none 0 0]:List Value).toArray 50)).setRow wr.heap.size ([.int .i64 x.fVersion,.int .i64 x.fNext,.slice aT x.fTables.length cT,.slice aX x.fIndexes.length cX]:List Value).toArray)=wx at *
   have hl5:=Whole.row (P:=Tryz.prog) S_Catalog rfl rowX
   unfold Whole at hl5
   have HKX:=Lib.hid (HKK.out.trans kX)
   have OWX:=Lib.hid (jad OWB.out kX (fun _ _ h=>h))
   have HC:=Lib.hid (jkR wx (· < wx.heap.size) (fun _ h=>h) x [.int .i64 x.fVersion,.int .i64 x.fNext,.slice aT x.fTables.length cT,.slice aX x.fIndexes.length cX] (rGCatalog_lawful.mono (rGCatalog_lawful.nix hel2 kX) (fun b hb=>Nat.lt_of_lt_of_le (HLT.out b hb.1) HKX.out.size)) (by unfold far;omega))
   have htl:=jfc (jaq x)
   clear hcx hl4 rowb hel2 hkc kX rowX OWB HKK
   go_wp2_with fail
   clear hld hst hl5
   go_fit HC.out
   rintro e w4 ⟨a4,c4,rfl,own4,k4⟩
   have HC:=Lib.hid (jkp a4 (jaq x).length c4 (jaq x) w4 rfl (Lies.of_owned own4) (by omega))
   have HK4:=Lib.hid (HKX.out.trans k4)
   have OW4:=Lib.hid (jad OWX.out k4 (fun _ _ h=>h))
   clear own4 k4 HKX OWX
   go_wp2_with fail
   go_fit HC.out
   rintro e w5 ⟨a6,c6,rfl,own6,k6⟩
   have OWB6:=jad OW4.out k6 (fun _ _ h=>h)
   have L6:=Lib.hid (Lies.of_owned own6)
   have HK6:=Lib.hid (HK4.out.trans k6)
   have hsz6:w.heap.size≤w5.heap.size:=HK6.out.size
   clear own6 k6 HC HK4 OW4
   go_wp2_with (at_builtin;refine jcy (m:=(jas (jaq x)).length) (c:=c6) T_bytes ?q1 (.tmp 40) (.tmp 43) ?q2 w.heap.size ?q3 OWB6 ((jas (jaq x)).map bv) ?q4 ?q5 L6.out ?q6 ?q7 ?q8 ?q9 ?_)
   case q1=>rfl
   case q2=>rfl
   case q3=>rfl
   case q4=>rfl
   case q5=>simp
   case q6=>exact jdW _
   case q7=>unfold maxLen;omega
   case q8=>omega
   case q9=>exact hsz6
   intro a' cap' w7 own7 hg7
   have K7:=Lib.hid (HK6.out.grown hg7 (fun i hi hlt7=>by have:=(OWB6.lt i hi).1;omega))
   have HB7:Hid (B ++ jas (jaq x)=jcR R ++ jcw (R.cats.take (k+1))):=by show _=_;rw[hstep.out,hB.out,List.append_assoc]
   have OW7:=Lib.hid own7
   clear own7 hg7 OWB6 L6 HK6
   go_wp2_with fail
   go_roundw
   case rel=>exact⟨k+1,B ++ jas (jaq x),a',cap',by omega,by go_num,by rw[List.length_append],HB7,by rw[List.length_append,List.map_append];exact OW7.out,K7.out⟩
   case measure=>simp[intOf];omega
  ·obtain rfl:k=R.cats.length:=by omega
   rw[List.take_length]at hB
   have HSB:Hid (∀w',Keep Nix w w'→w'.cell? ⟨g,7,none⟩=some (.int .u64 R.begun)∧w'.cell? ⟨g,8,none⟩=some (.map (some bM))∧(Builtin.len_ #[77] 3 #[.map (some bM)]).run Tryz.prog w'=.ok (.int .i64 (sz:Int)) w'):=fun w' k=>by
    have r:=ROW.out.keep k id
    have hl:=(DM.out.keep k id).1.len Tryz.underlying77 3
    rw[hsz.out]at hl
    exact⟨by simpa using r.cell 7,by simpa using r.cell 8,hl⟩
   have hcv3:IntKind.u64.wrap (sz:Int)=(sz:Int):=by rw[IntKind.wrap_u64];omega
   clear hlt
   go_upto_region 9 with fail
   have KD:=Lib.hid (HKK.out.trans ((Keep.refl Nix wr).drew))
   have OWD:=Lib.hid (jad OWB.out ((Keep.refl Nix wr).drew) (fun _ _ h=>h))
   refine wp_region_held_drew (S:=(fun w'=>w'.cell? ⟨g,7,none⟩=some (.int .u64 R.begun)∧w'.cell? ⟨g,8,none⟩=some (.map (some bM))∧(Builtin.len_ #[77] 3 #[.map (some bM)]).run Tryz.prog w'=.ok (.int .i64 (sz:Int)) w')) (by kernel_rfl) ((HSB.out _ KD.out)) (fun jaa=>?_)
   clear HKK OWB
   generalize wr.drew=wd at *
   refine tk 0 rfl jaa ?_
   refine tk 1 rfl jaa ?_
   refine tk 2 rfl jaa ?_
   refine tk 3 rfl jaa ?_
   refine tk 4 rfl jaa ?_
   refine tk 6 rfl jaa ?_
   refine tk 7 rfl jaa ?_
   refine tk 8 rfl jaa ?_
   refine tk 9 rfl jaa ?_
   refine wpAnyH_ready (rs:=[5]) (by kernel_rfl) (by simp) ?_
   refine AllReadyH.cons rfl (fun K hK=>?_) AllReadyH.nil
   go_simp
   go_fit (jfG R.begun wd hU)
   rintro e w1 ⟨n1,m1,rfl,own1,k1⟩
   have K1:=Lib.hid (KD.out.trans k1)
   go_wp2_with fail
   refine hK.out _ _ ((HSB.out _ K1.out)) (fun jaa=>?_)
   clear hK K
   try simp only[Act.put,zz1,zz2,zz3,zz4,zz5,zz6]
   refine tk 10 rfl jaa ?_
   refine tk 11 rfl jaa ?_
   refine wpAnyH_ready (rs:=[12]) (by kernel_rfl) (by simp) ?_
   refine AllReadyH.cons rfl (fun K hK=>?_) AllReadyH.nil
   go_simp
   go_fit (jlN sz w1 (by unfold Fits;omega))
   rintro e w2 ⟨n2,m2,rfl,own2,k2⟩
   have K2:=Lib.hid (K1.out.trans k2)
   go_wp2_with fail
   refine hK.out _ _ ((HSB.out _ K2.out)) (fun jaa=>?_)
   clear hK K
   try simp only[Act.put,zz1,zz2,zz3,zz4,zz5,zz6]
   refine wpAnyH_ready (rs:=[13]) (by kernel_rfl) (by simp) ?_
   refine AllReadyH.cons rfl (fun K hK=>?_) AllReadyH.nil
   try simp only[zz1,zz2,zz3]
   go_simp
   have kC:Keep Nix w2 (w2.alloc (.cells #[.slice aB B.length cB,.slice n1 (numB R.begun.toNat).length m1,.slice n2 (numB sz).length m2] 30)):=(Keep.refl Nix w2).alloc _
   have rowC:RowIs (w2.alloc (.cells #[.slice aB B.length cB,.slice n1 (numB R.begun.toNat).length m1,.slice n2 (numB sz).length m2] 30)) w2.heap.size 30 [.slice aB B.length cB,.slice n1 (numB R.begun.toNat).length m1,.slice n2 (numB sz).length m2]:=RowIs.alloc w2 _ _
   have hpl:B.length+((numB R.begun.toNat).length+(numB sz).length)≤510000000:=by
    have h1:=(jaP R.begun.toNat).1
    have h3:=(jaP sz).1
    omega
   have hpl0:0<(numB sz).length:=(jaP sz).2
   have hparts:PartsAt (w2.alloc (.cells #[.slice aB B.length cB,.slice n1 (numB R.begun.toNat).length m1,.slice n2 (numB sz).length m2] 30)) (fun b=>b<(w2.alloc (.cells #[.slice aB B.length cB,.slice n1 (numB R.begun.toNat).length m1,.slice n2 (numB sz).length m2] 30)).heap.size) [.slice aB B.length cB,.slice n1 (numB R.begun.toNat).length m1,.slice n2 (numB sz).length m2] [B,numB R.begun.toNat,numB sz]:=
    (((PartsAt.nil _ _).cons rfl (jd3 ((Lies.of_owned own2).keep kC (fun _ _ h=>h)))).cons rfl (jd3 (((Lies.of_owned own1).keep k2 (fun _ _ h=>h)).keep kC (fun _ _ h=>h)))).cons rfl (jd3 ((((Lies.of_owned OWD.out).keep k1 (fun _ _ h=>h)).keep k2 (fun _ _ h=>h)).keep kC (fun _ _ h=>h)))
   have HC:=jgY w2.heap.size 3 [B,numB R.begun.toNat,numB sz] [.slice aB B.length cB,.slice n1 (numB R.begun.toNat).length m1,.slice n2 (numB sz).length m2] (w2.alloc (.cells #[.slice aB B.length cB,.slice n1 (numB R.begun.toNat).length m1,.slice n2 (numB sz).length m2] 30)) rowC hparts (fun _ h=>h) (by simp;omega) (by simp;omega) (by simp)
   have KN:=Lib.hid (K2.out.trans kC)
   refine hK.out _ _ ((HSB.out _ KN.out)) (fun jaa=>?_)
   clear hK K
   try simp only[Act.put,zz1,zz2,zz3,zz4,zz5,zz6]
   refine wpAnyH_ready (rs:=[14]) (by kernel_rfl) (by simp) ?_
   refine AllReadyH.cons rfl (fun K hK=>?_) AllReadyH.nil
   try simp only[zz1,zz2,zz3]
   go_simp
   go_fit HC
   rintro e w3 ⟨a3,c3,rfl,own3,k3⟩
   have K3:=Lib.hid (KN.out.trans k3)
   go_wp2_with fail
   refine hK.out _ _ ((HSB.out _ K3.out)) (fun jaa=>?_)
   clear hK K
   try simp only[Act.put,zz1,zz2,zz3,zz4,zz5,zz6]
   refine tk 15 rfl jaa ?_
   refine wpAnyH_done (by kernel_rfl) ?_ _
   have hM:Hid (([B,numB R.begun.toNat,numB sz]:List (List UInt8)).flatten=midB R sz):=by
    show _=_
    rw[hB.out]
    simp[midB]
   have hMe:Hid ((midB R sz).length=B.length+((numB R.begun.toNat).length+(numB sz).length)):=by show _=_;rw[←hM.out];simp
   have hML:Hid ((midB R sz).length≤510000000):=by show _≤_;rw[hMe.out];exact hpl
   have OW3:=Lib.hid (jbY own3 (base':=w.heap.size) KN.out.size)
   rw[hM.out]at OW3
   have x8:=(HSB.out _ K3.out).2.1
   clear own1 own2 own3 k1 k2 k3 kC rowC hparts HC jaa K1 K2 KN KD OWD hpl hpl0 HSB hM hcv3
   go_wp2_with fail
   clear x8
   go_fit (keys_c bM w3)
   rintro e w4 ⟨rfl,rfl⟩
   have kA:Keep Nix w3 (w3.alloc (.cells #[.map (some bM)] 77)):=(Keep.refl Nix w3).alloc _
   have HS:=jo9 w3.heap.size bM n _ (w3.alloc (.cells #[.map (some bM)] 77)) (jlD w3.heap.size bM n D _ (RowIs.alloc w3 _ _) (jec (jec DM.out.1 K3.out id) kA id)) (by have:=HBM.out;have:=K3.out.size;simp;omega) (by omega)
   have OWA:=Lib.hid (jad OW3.out kA (fun _ _ h=>h))
   have KA:=Lib.hid (K3.out.trans kA)
   replace HS:=Lib.hid HS
   clear kA OW3 K3
   go_wp2_with fail
   go_fit HS.out
   rintro e w5 ⟨ys,ss,aY,cY,rfl,hS,hsl,hp,hu,ownY,k5⟩
   have hR:=Lib.hid (Rise.of (fun k hk=>(DM.out.2 k hk).2) hS hp hu)
   have hyl:ys.length=sz:=by rw[hp.length_eq,←jnm DM.out.1 hS,hsz.out]
   have KW:=Lib.hid (KA.out.trans k5)
   have OW5:=Lib.hid (jad OWA.out k5 (fun _ _ h=>h))
   have OWY:=Lib.hid (jbY ownY (base':=w.heap.size) KA.out.size)
   clear HS hS hp hu ownY k5 OWA KA hsl hsz
   subst hyl
   go_wp2_with fail
   go_loopw [3,68] (fun s i wr=>∃(k:Nat) (B:List UInt8) (a:Option Addr) (c:Nat),k≤ys.length∧i=.int .i64 (k:Int)∧s=.slice a B.length c∧Hid (B=midB R ys.length ++ decB R.dec (ys.take k))∧wr.ownsRow w.heap.size 5 1 (.slice a B.length c) B.length (B.map bv)∧Keep Nix w5 wr) (fun _ i _=>ys.length - (intOf i).toNat)
   case atStart=>exact⟨0,midB R ys.length,a3,c3,Nat.zero_le _,rfl,by rw[hMe.out],by show _=_;simp[decB],OW5.out,Keep.refl _ _⟩
   case round=>
    clear OW5 hMe hB hBl
    obtain⟨k,B,aB,cB,hk,rfl,rfl,hB,ownB,kk⟩:=hrel
    have hBl:B.length≤510000000+k*20:=by
     have h2:=jgZ R.dec (ys.take k)
     have h3:=hML.out
     rw[hB.out,List.length_append]
     rw[List.length_take,Nat.min_eq_left hk]at h2
     omega
    have OWB:=Lib.hid ownB
    have HKK:=Lib.hid kk
    clear ownB kk
    by_cases hlt:k<ys.length
    ·have hi0:(0:Int)≤(k:Int):=by omega
     have hi1:(k:Int)<(ys.length:Int):=by omega
     have hwk:IntKind.i64.wrap ((k:Int)+1)=(k:Int)+1:=by rw[IntKind.wrap_i64];omega
     obtain⟨bY,oY,e1,-,hbY,hcY⟩:=Lies.of_owned (jad OWY.out HKK.out (fun _ _ h=>h)) (by intro h;rw[List.map_eq_nil_iff]at h;rw[h]at hlt;simp at hlt)
     subst e1
     have y0:=hcY k (iv ys[k]) (by simp[hlt])
     have hstep:Hid (decB R.dec (ys.take (k+1))=decB R.dec (ys.take k) ++ (numB ys[k].toNat ++ numB (decO (R.dec ys[k])).toNat)):=jmw R.dec ys k hlt
     have hyu:jaw ys[k]:=((hR.out.mem ys[k]).1 (List.getElem_mem hlt)).1
     generalize ys[k]=y at *
     replace y0:wr.cell? ⟨bY,oY+k,none⟩=some (.int .u64 y):=y0
     have hP0:0≤decO (R.dec y)∧decO (R.dec y)≤100000:=by
      cases hd:R.dec y with
      | none=>exact⟨by decide,by decide⟩
      | some p=>have h1:=HOK.out.place y p hd;have h2:=HOK.out.len.2;exact⟨h1.1,by show p≤100000;omega⟩
     have HSC:Hid (∀w',Keep Nix wr w'→w'.cell? ⟨g,8,none⟩=some (.map (some bM))∧(Instr.lookup 77 (.map (some bM)) (.int .u64 y) false).run Tryz.prog w'=.ok (.int .i64 (decO (R.dec y))) w'):=fun w' k'=>by
      have kw:=(KW.out.trans HKK.out).trans k'
      exact⟨by simpa using (ROW.out.keep kw id).cell 8,jmx (DM.out.keep kw id) hyu⟩
     obtain⟨P,hP⟩:∃P,Hid (decO (R.dec y)=P):=⟨_,rfl⟩
     rw[hP.out]at HSC hP0 hstep
     have hPu:jaw P:=⟨hP0.1,by omega⟩
     have hcvp:IntKind.u64.wrap P=P:=by rw[IntKind.wrap_u64];omega
     clear hcY
     go_upto_region 13 with fail
     clear y0
     have kd:Keep Nix wr wr.drew:=(Keep.refl Nix wr).drew
     have OWD:=Lib.hid (jad OWB.out kd (fun _ _ h=>h))
     refine wp_region_held_drew (S:=(fun w'=>w'.cell? ⟨g,8,none⟩=some (.map (some bM))∧(Instr.lookup 77 (.map (some bM)) (.int .u64 y) false).run Tryz.prog w'=.ok (.int .i64 P) w')) (by kernel_rfl) ((HSC.out _ kd)) (fun jaa=>?_)
     have KQ:=Lib.hid kd
     clear kd OWB
     generalize wr.drew=wd at *
     refine tk 0 rfl jaa ?_
     refine tk 1 rfl jaa ?_
     refine tk 3 rfl jaa ?_
     refine tk 4 rfl jaa ?_
     refine tk 5 rfl jaa ?_
     refine tk 6 rfl jaa ?_
     refine tk 7 rfl jaa ?_
     refine tk 8 rfl jaa ?_
     refine tk 9 rfl jaa ?_
     clear hcvp
     refine wpAnyH_ready (rs:=[2]) (by kernel_rfl) (by simp) ?_
     refine AllReadyH.cons rfl (fun K hK=>?_) AllReadyH.nil
     go_simp
     go_fit (jfG y wd hyu)
     rintro e w1 ⟨n1,m1,rfl,own1,k1⟩
     have K1:=Lib.hid (KQ.out.trans k1)
     go_wp2_with fail
     refine hK.out _ _ ((HSC.out _ K1.out)) (fun jaa=>?_)
     clear hK K
     try simp only[Act.put,zz1,zz2,zz3,zz4,zz5,zz6]
     refine wpAnyH_ready (rs:=[10]) (by kernel_rfl) (by simp) ?_
     refine AllReadyH.cons rfl (fun K hK=>?_) AllReadyH.nil
     go_simp
     go_fit (jfG P w1 hPu)
     rintro e w2 ⟨n2,m2,rfl,own2,k2⟩
     have K2:=Lib.hid (K1.out.trans k2)
     go_wp2_with fail
     refine hK.out _ _ ((HSC.out _ K2.out)) (fun jaa=>?_)
     clear hK K
     try simp only[Act.put,zz1,zz2,zz3,zz4,zz5,zz6]
     refine wpAnyH_ready (rs:=[11]) (by kernel_rfl) (by simp) ?_
     refine AllReadyH.cons rfl (fun K hK=>?_) AllReadyH.nil
     try simp only[zz1,zz2,zz3]
     go_simp
     have kC:Keep Nix w2 (w2.alloc (.cells #[.slice aB B.length cB,.slice n1 (numB y.toNat).length m1,.slice n2 (numB P.toNat).length m2] 30)):=(Keep.refl Nix w2).alloc _
     have rowC:RowIs (w2.alloc (.cells #[.slice aB B.length cB,.slice n1 (numB y.toNat).length m1,.slice n2 (numB P.toNat).length m2] 30)) w2.heap.size 30 [.slice aB B.length cB,.slice n1 (numB y.toNat).length m1,.slice n2 (numB P.toNat).length m2]:=RowIs.alloc w2 _ _
     have hkm2:k*20≤1000000*20:=Nat.mul_le_mul_right _ (by omega)
     have hpl:B.length+((numB y.toNat).length+(numB P.toNat).length)≤540000000:=by
      have h1:=(jaP y.toNat).1
      have h3:=(jaP P.toNat).1
      omega
     have hpl0:0<(numB y.toNat).length:=(jaP y.toNat).2
     have hparts:PartsAt (w2.alloc (.cells #[.slice aB B.length cB,.slice n1 (numB y.toNat).length m1,.slice n2 (numB P.toNat).length m2] 30)) (fun b=>b<(w2.alloc (.cells #[.slice aB B.length cB,.slice n1 (numB y.toNat).length m1,.slice n2 (numB P.toNat).length m2] 30)).heap.size) [.slice aB B.length cB,.slice n1 (numB y.toNat).length m1,.slice n2 (numB P.toNat).length m2] [B,numB y.toNat,numB P.toNat]:=
      (((PartsAt.nil _ _).cons rfl (jd3 ((Lies.of_owned own2).keep kC (fun _ _ h=>h)))).cons rfl (jd3 (((Lies.of_owned own1).keep k2 (fun _ _ h=>h)).keep kC (fun _ _ h=>h)))).cons rfl (jd3 ((((Lies.of_owned OWD.out).keep k1 (fun _ _ h=>h)).keep k2 (fun _ _ h=>h)).keep kC (fun _ _ h=>h)))
     have HC:=jgY w2.heap.size 3 [B,numB y.toNat,numB P.toNat] [.slice aB B.length cB,.slice n1 (numB y.toNat).length m1,.slice n2 (numB P.toNat).length m2] (w2.alloc (.cells #[.slice aB B.length cB,.slice n1 (numB y.toNat).length m1,.slice n2 (numB P.toNat).length m2] 30)) rowC hparts (fun _ h=>h) (by simp;omega) (by simp;omega) (by simp)
     have KN:=Lib.hid (K2.out.trans kC)
     refine hK.out _ _ ((HSC.out _ KN.out)) (fun jaa=>?_)
     clear hK K
     try simp only[Act.put,zz1,zz2,zz3,zz4,zz5,zz6]
     refine wpAnyH_ready (rs:=[12]) (by kernel_rfl) (by simp) ?_
     refine AllReadyH.cons rfl (fun K hK=>?_) AllReadyH.nil
     try simp only[zz1,zz2,zz3]
     go_simp
     go_fit HC
     rintro e w7 ⟨a7,c7,rfl,own7,k7⟩
     have K7:=Lib.hid (KN.out.trans k7)
     go_wp2_with fail
     refine hK.out _ _ ((HSC.out _ K7.out)) (fun jaa=>?_)
     clear hK K
     try simp only[Act.put,zz1,zz2,zz3,zz4,zz5,zz6]
     refine tk 13 rfl jaa ?_
     refine wpAnyH_done (by kernel_rfl) ?_ _
     have hB7:Hid (([B,numB y.toNat,numB P.toNat]:List (List UInt8)).flatten=midB R ys.length ++ decB R.dec (ys.take (k+1))):=by
      show _=_
      rw[hstep.out,hB.out]
      simp
     have hB7l:Hid (([B,numB y.toNat,numB P.toNat]:List (List UInt8)).flatten.length=B.length+((numB y.toNat).length+(numB P.toNat).length)):=by show _=_;simp
     have OW7:=Lib.hid (jbY own7 (base':=w.heap.size) (by have h1:=KW.out.size;have h2:=HKK.out.size;have h3:=KN.out.size;omega))
     have K8:=Lib.hid (HKK.out.trans K7.out)
     clear own1 own2 own7 k1 k2 k7 kC rowC hparts HC jaa K1 K2 KN K7 KQ OWD hpl hpl0 HSC
     generalize ([B,numB y.toNat,numB P.toNat]:List (List UInt8)).flatten=B7 at *
     go_wp2_with fail
     go_roundw
     case rel=>exact⟨k+1,B7,a7,c7,by omega,by go_num,by rw[hB7l.out],hB7,OW7.out,K8.out⟩
     case measure=>simp[intOf];omega
    ·obtain rfl:k=ys.length:=by omega
     rw[List.take_length]at hB
     have HF:Hid (B=jbb R ys):=hB
     have KF:=Lib.hid (KW.out.trans HKK.out)
     go_wp2_with fail
     go_ret
     refine⟨ys,aB,cB,hR.out,by omega,by rw[←HF.out];rfl,by rw[←HF.out];exact OWB.out,KF.out⟩
end
end
def jeh(r:GRoutes)(k:Nat)(g:Int):Bool:=(r.fSpans.take k).any (isG g)
def badP(r:GRoutes)(k:Nat)(o:GOwner):Bool:=decide (o.fGroup≤r.fBase) || (decide (r.fBase+4<o.fGroup) || (jeh r k o.fGroup || ((decide (o.fFrom=[120]) != decide (k=0)) || (decide (0<k) && (o.fFrom.isEmpty || (!(o.fFrom.head? == some 120) || (decide (600<o.fFrom.length) || !ltB (ja8 r.fSpans (k - 1)) o.fFrom)))))))
def jf0(r:GRoutes)(k:Nat):Bool:=match r.fSpans[k]? with
 | some o=>badP r k o
 | none=>false
def jex(r:GRoutes):Bool:=if r.fMoving=0 then r.fCut.isEmpty else jdm r.fSpans r.fMoving r.fCut && decide (r.fCut.length≤600)
def jcu(r:GRoutes):Bool:=decide (0≤r.fEpoch) && (decide (1≤r.fBase) && (decide (r.fBase≤4) && (decide (1≤r.fSpans.length) && decide (r.fSpans.length≤4))))
def jcA(r:GRoutes):Bool:=jcu r && ((List.range r.fSpans.length).all (fun k=>!jf0 r k) && jex r)
theorem jmU{r:GRoutes}{k:Nat}(hk:k<r.fSpans.length)(h:badP r k r.fSpans[k]=true):jcA r=false:=by
 have:(List.range r.fSpans.length).all (fun k=>!jf0 r k)=false:=by
  rw[List.all_eq_false]
  refine⟨k,List.mem_range.2 hk,?_⟩
  unfold jf0
  rw[List.getElem?_eq_getElem hk]
  simp[h]
 unfold jcA;rw[this];simp
theorem jlO{r:GRoutes}(h:jcu r=false):jcA r=false:=by unfold jcA;rw[h];rfl
theorem jiD{r:GRoutes}(h0:jcu r=true)(h:∀j (hj:j<r.fSpans.length),badP r j r.fSpans[j]=false):jcA r=jex r:=by
 have:(List.range r.fSpans.length).all (fun k=>!jf0 r k)=true:=by
  rw[List.all_eq_true]
  intro k hk
  have hk:=List.mem_range.1 hk
  unfold jf0
  rw[List.getElem?_eq_getElem hk]
  simp[h k hk]
 unfold jcA;rw[this,h0];simp
end Go.Proofs.YtibaehlfpgipfaaGreat
