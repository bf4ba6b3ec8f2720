/- DATA WITH DEPTH: what cells read as, by combinators: numbers, bools, strings, bytes, lists, structs (the structs' own readings are written by gen.py). -/
import Derived.Test.YtibaehlfpgipfaaGreatQZArgs
import Derived.Test.YtibaehlfpgipfaaGreatQZBase
import Derived.Maps.AppendAt
namespace Go.Proofs.YtibaehlfpgipfaaGreat
open Go.RowKit
section
abbrev RD(α:Type):=World→(Nat→Prop)→List Value→α→Prop
structure Lawful{α:Type}(R:RD α)(sz:Nat):Prop where
  len:∀ {w:World} {p:Nat→Prop} {cs:List Value} {x:α},R w p cs x→cs.length=sz
  keep:∀ {S:Nat→Prop} {w w':World} {p:Nat→Prop} {cs:List Value} {x:α},R w p cs x→Keep S w w'→(∀b,p b→¬S b)→R w' p cs x
  mono:∀ {w:World} {p q:Nat→Prop} {cs:List Value} {x:α},R w p cs x→(∀b,p b→q b)→R w q cs x
theorem Lawful.nix{α:Type}{R:RD α}{sz:Nat}(l:Lawful R sz){w w':World}{p:Nat→Prop}{cs:List Value}{x:α}(h:R w p cs x)(k:Keep Nix w w'):R w' p cs x:=l.keep h k (fun _ _ h=>h)
def far:Nat:=140737488351232
def rInt(k:IntKind):RD Int:=fun _ _ cs n=>cs=[.int k n]∧(Lit.int k n).wf=true
def jdg:RD Bool:=fun _ _ cs b=>cs=[.bool b]
def rStr:RD (List UInt8):=fun _ _ cs l=>cs=[.string (strB l)]∧l.length≤far
def jc6:RD (List UInt8):=fun w p cs l=>∃(a:Option Addr) (cap:Nat),cs=[.slice a l.length cap]∧Lies w p a (l.map bv)∧l.length≤cap∧l.length≤far
def jap{α:Type}(R:RD α):RD (List α):=fun w p cs l=>∃(a:Option Addr) (cap:Nat) (css:List (List Value)),cs=[.slice a l.length cap]∧css.length=l.length∧Lies w p a css.flatten∧l.length≤cap∧l.length≤far∧∀(i:Nat) (c:List Value) (x:α),css[i]?=some c→l[i]?=some x→R w p c x
theorem jab(k:IntKind):Lawful (rInt k) 1:=⟨fun h=>by rw[h.1];rfl,fun h _ _=>h,fun h _=>h⟩
theorem rBool_lawful:Lawful jdg 1:=⟨fun h=>by rw[h];rfl,fun h _ _=>h,fun h _=>h⟩
theorem rStr_lawful:Lawful rStr 1:=⟨fun h=>by rw[h.1];rfl,fun h _ _=>h,fun h _=>h⟩
theorem rBytes_lawful:Lawful jc6 1:=
  ⟨fun⟨_,_,h,_⟩=>by rw[h];rfl,fun⟨a,cap,h,hl,r⟩ k hs=>⟨a,cap,h,hl.keep k hs,r⟩,fun⟨a,cap,h,hl,r⟩ hq=>⟨a,cap,h,hl.mono hq,r⟩⟩
theorem jac{α:Type}{R:RD α}{sz:Nat}(L:Lawful R sz):Lawful (jap R) 1:=
  ⟨fun⟨_,_,_,h,_⟩=>by rw[h];rfl,
   fun⟨a,cap,css,h,h1,hl,h2,h3,r⟩ k hs=>⟨a,cap,css,h,h1,hl.keep k hs,h2,h3,fun i c x hc hx=>L.keep (r i c x hc hx) k hs⟩,
   fun⟨a,cap,css,h,h1,hl,h2,h3,r⟩ hq=>⟨a,cap,css,h,h1,hl.mono hq,h2,h3,fun i c x hc hx=>L.mono (r i c x hc hx) hq⟩⟩
theorem jeH{sz:Nat}:∀(css:List (List Value)),(∀c∈css,c.length=sz)→∀(i:Nat) (c:List Value),css[i]?=some c→∀(j:Nat) (u:Value),c[j]?=some u→css.flatten[i*sz+j]?=some u
  | [],_,i,c,h,_,_,_=>by simp at h
  | d :: css,hl,0,c,h,j,u,hu=>by
    simp only[List.getElem?_cons_zero,Option.some.injEq]at h
    subst h
    rw[List.flatten_cons,Nat.zero_mul,Nat.zero_add,List.getElem?_append_left (List.getElem?_eq_some_iff.1 hu).1];exact hu
  | d :: css,hl,i+1,c,h,j,u,hu=>by
    have hd:=hl d (by simp)
    rw[List.flatten_cons,List.getElem?_append_right (by rw[hd,Nat.add_mul];omega),hd,show(i+1)*sz+j - sz=i*sz+j by rw[Nat.add_mul];omega]
    exact jeH css (fun c hc=>hl c (by simp[hc])) i c (by simpa using h) j u hu
theorem jaY{α:Type}{R:RD α}{sz:Nat}(L:Lawful R sz)(hsz:0<sz){w:World}{p:Nat→Prop}{cs:List Value}{l:List α}(h:jap R w p cs l)(k:Nat)(hk:k<l.length) :
    ∃b off cap c,cs=[.slice (some ⟨b,off,none⟩) l.length cap]∧p b∧b<w.heap.size∧R w p c l[k]∧∀(j:Nat) (u:Value),c[j]?=some u→w.cell? ⟨b,off+k*sz+j,none⟩=some u:=by
  obtain⟨a,cap,css,rfl,h1,hl,-,-,r⟩:=h
  have hlen:∀c∈css,c.length=sz:=by
    intro c hc
    obtain⟨i,hi,rfl⟩:=List.mem_iff_getElem.1 hc
    exact L.len (r i _ (l[i]'(by omega)) (List.getElem?_eq_getElem hi) (List.getElem?_eq_getElem _))
  have hkc:k<css.length:=by omega
  have hc:=r k _ _ (List.getElem?_eq_getElem hkc) (List.getElem?_eq_getElem hk)
  have hcl:=L.len hc
  have hne:css.flatten≠[]:=by
    intro e
    have:=jeH css hlen k _ (List.getElem?_eq_getElem hkc) 0 _ (List.getElem?_eq_getElem (by omega))
    rw[e]at this;simp at this
  obtain⟨b,off,rfl,hp,hb,hcell⟩:=hl hne
  refine⟨b,off,cap,_,rfl,hp,hb,hc,fun j u hu=>?_⟩
  have:=hcell _ _ (jeH css hlen k _ (List.getElem?_eq_getElem hkc) j u hu)
  rw[←Nat.add_assoc]at this
  exact this
/-! ### from what came in -/
section
variable {P : Program} {W : World} {m : Nat} {t e : TypeId} {cs : List Value}
def jbF{α:Type}(f:α→Nat)(l:List α):Nat:=(l.map f).sum+1
theorem Red.toInt{k:IntKind}(ht:P.underlying t=some (.int k))(h:Red P W m t cs):∃n,rInt k W (· < W.heap.size) cs n∧1≤m:=by
  obtain⟨n,h1,h2⟩:=h.int ht
  exact⟨n,⟨h1,h2⟩,h.pos⟩
theorem Red.toBool(ht:P.underlying t=some .bool)(h:Red P W m t cs):∃b,jdg W (· < W.heap.size) cs b∧1≤m:=by
  obtain⟨b,h1⟩:=h.bool ht
  exact⟨b,h1,h.pos⟩
theorem Red.string'(ht:P.underlying t=some .string)(h:Red P W m t cs):∃s:ByteArray,cs=[.string s]∧s.size≤reachBytes∧s.size+1≤m:=by
  obtain⟨H,enc,fuel,d,ps,hd,hw,-,hb⟩:=h
  obtain⟨s,h1,h2,-⟩:=DataW.trod_string ht hd
  simp only[Prod.mk.injEq]at h2
  obtain⟨rfl,-⟩:=h2
  have e:s.data.toList.length=s.size:=by rw[Array.length_toList];rfl
  refine⟨s,h1,?_,?_⟩
  · rw[←e];exact hw _ (by simp[DataW.weights])
  · simp only[Rows.uptoBulk]at hb;omega
theorem Red.toStr(ht:P.underlying t=some .string)(h:Red P W m t cs):∃l,rStr W (· < W.heap.size) cs l∧l.length+1≤m:=by
  obtain⟨s,h1,h2,h3⟩:=h.string' ht
  have e:s.data.toList.length=s.size:=by rw[Array.length_toList];rfl
  refine⟨s.data.toList,⟨by rw[h1];simp[strB],?_⟩,by omega⟩
  rw[e];simpa [far,reachBytes] using h2
theorem jms{a:Option Addr}{n cap:Nat}(ht:P.underlying t=some (.slice e))(he:P.underlying e=some (.int .u8))(hc:P.cellsOf e=1)(hby:P.bytesOf e=1)
    (h:Red P W m t [.slice a n cap]):∃l:List UInt8,l.length=n∧Lies W (· < W.heap.size) a (l.map bv)∧cap≤140737488351232∧n≤cap∧n+1≤m:=by
  obtain⟨l,h1,h2,h3,h4,-⟩:=jj4 ht he hc hby h
  refine⟨l,h1,h2,h3,h4,?_⟩
  obtain⟨a',n',cap',css,ms,e1,e2,e3,e4,-,-,-,-,h7,-⟩:=h.slice ht hc hby (by decide)
  simp only[List.cons.injEq,Value.slice.injEq,and_true]at e1
  obtain⟨rfl,rfl,rfl⟩:=e1
  have:ms.length≤ms.sum:=by
    have h9:∀k∈ms,1≤k:=by
      intro k hk
      obtain⟨i,hi,rfl⟩:=List.mem_iff_getElem.1 hk
      exact(h7 i _ _ (List.getElem?_eq_getElem (by omega)) (List.getElem?_eq_getElem hi)).2.pos
    clear h7 e4 e3
    induction ms with
    | nil=>simp
    | cons k ms ih=>have:=ih (fun k hk=>h9 k (by simp[hk]));have:=h9 k (by simp);simp only[List.length_cons,List.sum_cons];omega
  omega
theorem Red.toBytes(ht:P.underlying t=some (.slice e))(he:P.underlying e=some (.int .u8))(hc:P.cellsOf e=1)(hby:P.bytesOf e=1)(h:Red P W m t cs):∃l,jc6 W (· < W.heap.size) cs l∧l.length+1≤m:=by
  obtain⟨a,n,cap,css,ms,rfl,-⟩:=h.slice ht hc hby (by decide)
  obtain⟨l,rfl,h2,h3,h4,h5⟩:=jms ht he hc hby h
  exact⟨l,⟨a,cap,rfl,h2,h4,by unfold far;omega⟩,h5⟩
theorem Red.toList{α:Type}{R:RD α}{sz by':Nat}(size:α→Nat)(ht:P.underlying t=some (.slice e))(hc:P.cellsOf e=sz)(hby:P.bytesOf e=by')(hsz:0<sz)(hb0:0<by')
    (one:∀ {m:Nat} {c:List Value},Red P W m e c→∃x,R W (· < W.heap.size) c x∧size x≤m) (h:Red P W m t cs):∃l,jap R W (· < W.heap.size) cs l∧jbF size l≤m:=by
  obtain⟨a,n,cap,css,ms,rfl,h2,h3,h4,h5,-,h6,-,h7,h8⟩:=h.slice ht hc hby hsz
  have key:∃l:List α,l.length=css.length∧(∀(i:Nat) (c:List Value) (x:α),css[i]?=some c→l[i]?=some x→R W (· < W.heap.size) c x)∧(l.map size).sum≤ms.sum:=by
    clear h8 h5 h6 h4 h
    induction css generalizing ms n with
    | nil=>exact⟨[],rfl,fun i c x hc=>by simp at hc,by simp⟩
    | cons c css ih=>
      match ms,h3 with
      | [],h3=>simp at h2 h3;omega
      | k :: ms,h3=>
        obtain⟨x,hx,hs⟩:=one (h7 0 c k rfl rfl).2
        obtain⟨l,hl1,hl2,hl3⟩:=ih css.length ms rfl (by simp at h2 h3;omega) (fun i c k hc hk=>h7 (i+1) c k (by simpa using hc) (by simpa using hk))
        refine⟨x :: l,by simp[hl1],fun i d y hd hy=>?_,by simp only[List.map_cons,List.sum_cons];omega⟩
        cases i with
        | zero=>simp at hd hy;subst hd hy;exact hx
        | succ i=>exact hl2 i d y (by simpa using hd) (by simpa using hy)
  obtain⟨l,k1,k2,k3⟩:=key
  refine⟨l,⟨a,cap,css,by rw[k1,h2],k1.symm,h8,by omega,?_,k2⟩,by unfold jbF;omega⟩
  have:cap≤cap*by':=Nat.le_mul_of_pos_right _ hb0
  rw[k1,h2];unfold far;simp only[reachBytes]at h6;omega
theorem Red.fields{fs:Array Field}{sz:Nat}(ht:P.underlying t=some (.struct fs))(hc:P.cellsOf t=sz)(h:Red P W m t cs) :
    cs.length=sz∧∃ms:List Nat,ms.length=fs.size∧ms.sum+1≤m∧∀(i:Nat) (f:Field) (k:Nat),fs[i]?=some f→ms[i]?=some k→Red P W k f.type ((cs.drop f.offset).take (P.cellsOf f.type)):=by
  obtain⟨H,enc,fuel,d,ps,hd,hw,hp,hb⟩:=h
  obtain⟨xs,n,-,hx,hl,hlen,hf⟩:=DataW.trod_struct ht hd
  simp only[Prod.mk.injEq]at hx
  obtain⟨rfl,rfl⟩:=hx
  refine⟨hl.trans hc,xs.map (fun x=>Rows.uptoBulk x.1),by simp[hlen],?_,fun i f k hi hk=>?_⟩
  · simp only[Rows.uptoBulk,jj2,List.map_map,Function.comp_def]at hb;exact hb
  have hil:i<xs.length:=by rw[hlen];exact(Array.getElem?_eq_some_iff.1 hi).1
  have h1:=hf i f hi
  rw[List.getElem?_eq_getElem hil]at h1
  have hk':Rows.uptoBulk xs[i].1=k:=by simpa [hil] using hk
  refine⟨H,enc,n,xs[i].1,xs[i].2,h1,?_,?_,Nat.le_of_eq hk'⟩
  · intro x hx
    refine hw x ?_
    simp only[DataW.weights,ht]
    exact DataW.weights_mem_each (j:=i) (by simp[hi]) (by simp[hil]) x hx
  · intro x hx
    exact hp x (List.mem_flatMap.2 ⟨xs[i],List.getElem_mem _,hx⟩)
end
def parts(cs:List Value):List Nat→Nat→List (List Value)
  | [],_=>[]
  | s :: r,o=>(cs.drop o).take s :: parts cs r (o+s)
theorem jco(cs:List Value):∀(l:List Nat) (o:Nat),cs.length=o+l.sum→(parts cs l o).flatten=cs.drop o
  | [],o,h=>by simp at h;simp[parts,h]
  | s :: r,o,h=>by
    simp only[List.sum_cons]at h
    rw[parts,List.flatten_cons,jco cs r (o+s) (by omega)]
    rw[←List.drop_drop,List.take_append_drop]
end
theorem jcQ:Tryz.prog.cellsOf 3=1:=by kernel_rfl
theorem jf1:Tryz.prog.cellsOf 4=1:=by kernel_rfl
theorem je0:Tryz.prog.cellsOf 5=1:=by kernel_rfl
theorem jhr:Tryz.prog.cellsOf 9=1:=by kernel_rfl
theorem jpd:Tryz.prog.cellsOf 28=1:=by kernel_rfl
theorem jdQ:Tryz.prog.cellsOf 30=1:=by kernel_rfl
theorem jia:Tryz.prog.cellsOf 32=2:=by kernel_rfl
theorem jkX:Tryz.prog.cellsOf 33=1:=by kernel_rfl
theorem jpe:Tryz.prog.cellsOf 34=1:=by kernel_rfl
theorem jpf:Tryz.prog.cellsOf 35=1:=by kernel_rfl
theorem jpg:Tryz.prog.cellsOf 36=1:=by kernel_rfl
theorem jkY:Tryz.prog.cellsOf 37=1:=by kernel_rfl
theorem jkZ:Tryz.prog.cellsOf 39=4:=by kernel_rfl
theorem jla:Tryz.prog.cellsOf 41=7:=by kernel_rfl
theorem jlb:Tryz.prog.cellsOf 43=25:=by kernel_rfl
theorem jph:Tryz.prog.cellsOf 45=27:=by kernel_rfl
theorem jgX:Tryz.prog.cellsOf 114=3:=by kernel_rfl
theorem jj7:Tryz.prog.cellsOf 148=3:=by kernel_rfl
theorem jj8:Tryz.prog.cellsOf 212=3:=by kernel_rfl
theorem jj9:Tryz.prog.cellsOf 216=3:=by kernel_rfl
theorem jmr:Tryz.prog.bytesOf 3=8:=by kernel_rfl
theorem jez:Tryz.prog.bytesOf 5=1:=by kernel_rfl
theorem jj3:Tryz.prog.bytesOf 114=56:=by kernel_rfl
theorem jnO:Tryz.prog.bytesOf 148=32:=by kernel_rfl
theorem jnP:Tryz.prog.bytesOf 212=72:=by kernel_rfl
theorem jnQ:Tryz.prog.bytesOf 216=56:=by kernel_rfl
structure GOwner where
  fGroup:Int
  fFrom:(List UInt8)
  deriving DecidableEq
def jbv:RD GOwner:=fun w p cs x=>∃c0 c1:List Value,cs=List.flatten [c0,c1]∧(rInt .i64) w p c0 x.fGroup∧jc6 w p c1 x.fFrom
theorem rGOwner_lawful:Lawful jbv 2:=
  ⟨fun⟨c0,c1,h,h0,h1⟩=>by rw[h];simp only[List.flatten_cons,List.flatten_nil,List.append_nil,List.length_append,(jab _).len h0,rBytes_lawful.len h1],
   fun⟨c0,c1,h,h0,h1⟩ k hs=>⟨c0,c1,h,(jab _).keep h0 k hs,rBytes_lawful.keep h1 k hs⟩,
   fun⟨c0,c1,h,h0,h1⟩ hq=>⟨c0,c1,h,(jab _).mono h0 hq,rBytes_lawful.mono h1 hq⟩⟩
def GOwner.size(x:GOwner):Nat:=(fun _=>1) x.fGroup+(fun x:List UInt8=>x.length+1) x.fFrom+1
structure GRoutes where
  fEpoch:Int
  fBase:Int
  fSpans:(List GOwner)
  fMoving:Int
  fCut:(List UInt8)
  deriving DecidableEq
def jaz:RD GRoutes:=fun w p cs x=>∃c0 c1 c2 c3 c4:List Value,cs=List.flatten [c0,c1,c2,c3,c4]∧(rInt .i64) w p c0 x.fEpoch∧(rInt .i64) w p c1 x.fBase∧(jap jbv) w p c2 x.fSpans∧(rInt .i64) w p c3 x.fMoving∧jc6 w p c4 x.fCut
theorem rGRoutes_lawful:Lawful jaz 5:=
  ⟨fun⟨c0,c1,c2,c3,c4,h,h0,h1,h2,h3,h4⟩=>by rw[h];simp only[List.flatten_cons,List.flatten_nil,List.append_nil,List.length_append,(jab _).len h0,(jab _).len h1,(jac rGOwner_lawful).len h2,(jab _).len h3,rBytes_lawful.len h4],
   fun⟨c0,c1,c2,c3,c4,h,h0,h1,h2,h3,h4⟩ k hs=>⟨c0,c1,c2,c3,c4,h,(jab _).keep h0 k hs,(jab _).keep h1 k hs,(jac rGOwner_lawful).keep h2 k hs,(jab _).keep h3 k hs,rBytes_lawful.keep h4 k hs⟩,
   fun⟨c0,c1,c2,c3,c4,h,h0,h1,h2,h3,h4⟩ hq=>⟨c0,c1,c2,c3,c4,h,(jab _).mono h0 hq,(jab _).mono h1 hq,(jac rGOwner_lawful).mono h2 hq,(jab _).mono h3 hq,rBytes_lawful.mono h4 hq⟩⟩
def GRoutes.size(x:GRoutes):Nat:=(fun _=>1) x.fEpoch+(fun _=>1) x.fBase+(jbF GOwner.size) x.fSpans+(fun _=>1) x.fMoving+(fun x:List UInt8=>x.length+1) x.fCut+1
structure GColumn where
  fName:(List UInt8)
  fKind:Int
  fNull:Bool
  deriving DecidableEq
def jbl:RD GColumn:=fun w p cs x=>∃c0 c1 c2:List Value,cs=List.flatten [c0,c1,c2]∧rStr w p c0 x.fName∧(rInt .i64) w p c1 x.fKind∧jdg w p c2 x.fNull
theorem rGColumn_lawful:Lawful jbl 3:=
  ⟨fun⟨c0,c1,c2,h,h0,h1,h2⟩=>by rw[h];simp only[List.flatten_cons,List.flatten_nil,List.append_nil,List.length_append,rStr_lawful.len h0,(jab _).len h1,rBool_lawful.len h2],
   fun⟨c0,c1,c2,h,h0,h1,h2⟩ k hs=>⟨c0,c1,c2,h,rStr_lawful.keep h0 k hs,(jab _).keep h1 k hs,rBool_lawful.keep h2 k hs⟩,
   fun⟨c0,c1,c2,h,h0,h1,h2⟩ hq=>⟨c0,c1,c2,h,rStr_lawful.mono h0 hq,(jab _).mono h1 hq,rBool_lawful.mono h2 hq⟩⟩
def GColumn.size(x:GColumn):Nat:=(fun x:List UInt8=>x.length+1) x.fName+(fun _=>1) x.fKind+(fun _=>1) x.fNull+1
theorem jlP{W:World}{m:Nat}{cs:List Value}(h:Red Tryz.prog W m 148 cs):∃x,jbl W (· < W.heap.size) cs x∧x.size≤m:=by
  obtain⟨hl,ms,h1,h2,h3⟩:=h.fields Tryz.underlying148 jj7
  match ms,h1 with
  | [m0,m1,m2],_=>
    have r0:Red Tryz.prog W m0 9 ((cs.drop 0).take 1):=(congrArg (fun k=>Red Tryz.prog W m0 9 ((cs.drop 0).take k)) jhr).mp (h3 0 _ m0 rfl rfl)
    obtain⟨x0,g0,s0⟩:=Red.toStr Tryz.underlying9 r0
    have r1:Red Tryz.prog W m1 3 ((cs.drop 1).take 1):=(congrArg (fun k=>Red Tryz.prog W m1 3 ((cs.drop 1).take k)) jcQ).mp (h3 1 _ m1 rfl rfl)
    obtain⟨x1,g1,s1⟩:=Red.toInt Tryz.underlying3 r1
    have r2:Red Tryz.prog W m2 4 ((cs.drop 2).take 1):=(congrArg (fun k=>Red Tryz.prog W m2 4 ((cs.drop 2).take k)) jf1).mp (h3 2 _ m2 rfl rfl)
    obtain⟨x2,g2,s2⟩:=Red.toBool Tryz.underlying4 r2
    have hp:=jco cs [1,1,1] 0 (by simpa using hl)
    simp only[parts,List.drop_zero,Nat.zero_add,Nat.reduceAdd]at hp
    refine⟨⟨x0,x1,x2⟩,⟨_,_,_,hp.symm,g0,g1,g2⟩,?_⟩
    simp only[List.sum_cons,List.sum_nil]at h2
    simp only[GColumn.size]at *
    omega
structure GTable where
  fID:Int
  fName:(List UInt8)
  fColumns:(List GColumn)
  fKey:(List Int)
  deriving DecidableEq
def jaG:RD GTable:=fun w p cs x=>∃c0 c1 c2 c3:List Value,cs=List.flatten [c0,c1,c2,c3]∧(rInt .i64) w p c0 x.fID∧rStr w p c1 x.fName∧(jap jbl) w p c2 x.fColumns∧(jap (rInt .i64)) w p c3 x.fKey
theorem rGTable_lawful:Lawful jaG 4:=
  ⟨fun⟨c0,c1,c2,c3,h,h0,h1,h2,h3⟩=>by rw[h];simp only[List.flatten_cons,List.flatten_nil,List.append_nil,List.length_append,(jab _).len h0,rStr_lawful.len h1,(jac rGColumn_lawful).len h2,(jac (jab _)).len h3],
   fun⟨c0,c1,c2,c3,h,h0,h1,h2,h3⟩ k hs=>⟨c0,c1,c2,c3,h,(jab _).keep h0 k hs,rStr_lawful.keep h1 k hs,(jac rGColumn_lawful).keep h2 k hs,(jac (jab _)).keep h3 k hs⟩,
   fun⟨c0,c1,c2,c3,h,h0,h1,h2,h3⟩ hq=>⟨c0,c1,c2,c3,h,(jab _).mono h0 hq,rStr_lawful.mono h1 hq,(jac rGColumn_lawful).mono h2 hq,(jac (jab _)).mono h3 hq⟩⟩
def GTable.size(x:GTable):Nat:=(fun _=>1) x.fID+(fun x:List UInt8=>x.length+1) x.fName+(jbF GColumn.size) x.fColumns+(jbF (fun _=>1)) x.fKey+1
theorem jna{W:World}{m:Nat}{cs:List Value}(h:Red Tryz.prog W m 39 cs):∃x,jaG W (· < W.heap.size) cs x∧x.size≤m:=by
  obtain⟨hl,ms,h1,h2,h3⟩:=h.fields Tryz.underlying39 jkZ
  match ms,h1 with
  | [m0,m1,m2,m3],_=>
    have r0:Red Tryz.prog W m0 3 ((cs.drop 0).take 1):=(congrArg (fun k=>Red Tryz.prog W m0 3 ((cs.drop 0).take k)) jcQ).mp (h3 0 _ m0 rfl rfl)
    obtain⟨x0,g0,s0⟩:=Red.toInt Tryz.underlying3 r0
    have r1:Red Tryz.prog W m1 9 ((cs.drop 1).take 1):=(congrArg (fun k=>Red Tryz.prog W m1 9 ((cs.drop 1).take k)) jhr).mp (h3 1 _ m1 rfl rfl)
    obtain⟨x1,g1,s1⟩:=Red.toStr Tryz.underlying9 r1
    have r2:Red Tryz.prog W m2 36 ((cs.drop 2).take 1):=(congrArg (fun k=>Red Tryz.prog W m2 36 ((cs.drop 2).take k)) jpg).mp (h3 2 _ m2 rfl rfl)
    obtain⟨x2,g2,s2⟩:=Red.toList (GColumn.size) Tryz.underlying36 jj7 jnO (by decide) (by decide) (fun h=>jlP h) r2
    have r3:Red Tryz.prog W m3 37 ((cs.drop 3).take 1):=(congrArg (fun k=>Red Tryz.prog W m3 37 ((cs.drop 3).take k)) jkY).mp (h3 3 _ m3 rfl rfl)
    obtain⟨x3,g3,s3⟩:=Red.toList ((fun _=>1)) Tryz.underlying37 jcQ jmr (by decide) (by decide) (fun h=>Red.toInt Tryz.underlying3 h) r3
    have hp:=jco cs [1,1,1,1] 0 (by simpa using hl)
    simp only[parts,List.drop_zero,Nat.zero_add,Nat.reduceAdd]at hp
    refine⟨⟨x0,x1,x2,x3⟩,⟨_,_,_,_,hp.symm,g0,g1,g2,g3⟩,?_⟩
    simp only[List.sum_cons,List.sum_nil]at h2
    simp only[GTable.size]at *
    omega
structure GIndex where
  fID:Int
  fTable:Int
  fName:(List UInt8)
  fColumns:(List Int)
  fUnique:Bool
  fState:Int
  fBad:Bool
  deriving DecidableEq
def jaZ:RD GIndex:=fun w p cs x=>∃c0 c1 c2 c3 c4 c5 c6:List Value,cs=List.flatten [c0,c1,c2,c3,c4,c5,c6]∧(rInt .i64) w p c0 x.fID∧(rInt .i64) w p c1 x.fTable∧rStr w p c2 x.fName∧(jap (rInt .i64)) w p c3 x.fColumns∧jdg w p c4 x.fUnique∧(rInt .i64) w p c5 x.fState∧jdg w p c6 x.fBad
theorem rGIndex_lawful:Lawful jaZ 7:=
  ⟨fun⟨c0,c1,c2,c3,c4,c5,c6,h,h0,h1,h2,h3,h4,h5,h6⟩=>by rw[h];simp only[List.flatten_cons,List.flatten_nil,List.append_nil,List.length_append,(jab _).len h0,(jab _).len h1,rStr_lawful.len h2,(jac (jab _)).len h3,rBool_lawful.len h4,(jab _).len h5,rBool_lawful.len h6],
   fun⟨c0,c1,c2,c3,c4,c5,c6,h,h0,h1,h2,h3,h4,h5,h6⟩ k hs=>⟨c0,c1,c2,c3,c4,c5,c6,h,(jab _).keep h0 k hs,(jab _).keep h1 k hs,rStr_lawful.keep h2 k hs,(jac (jab _)).keep h3 k hs,rBool_lawful.keep h4 k hs,(jab _).keep h5 k hs,rBool_lawful.keep h6 k hs⟩,
   fun⟨c0,c1,c2,c3,c4,c5,c6,h,h0,h1,h2,h3,h4,h5,h6⟩ hq=>⟨c0,c1,c2,c3,c4,c5,c6,h,(jab _).mono h0 hq,(jab _).mono h1 hq,rStr_lawful.mono h2 hq,(jac (jab _)).mono h3 hq,rBool_lawful.mono h4 hq,(jab _).mono h5 hq,rBool_lawful.mono h6 hq⟩⟩
def GIndex.size(x:GIndex):Nat:=(fun _=>1) x.fID+(fun _=>1) x.fTable+(fun x:List UInt8=>x.length+1) x.fName+(jbF (fun _=>1)) x.fColumns+(fun _=>1) x.fUnique+(fun _=>1) x.fState+(fun _=>1) x.fBad+1
theorem jmZ{W:World}{m:Nat}{cs:List Value}(h:Red Tryz.prog W m 41 cs):∃x,jaZ W (· < W.heap.size) cs x∧x.size≤m:=by
  obtain⟨hl,ms,h1,h2,h3⟩:=h.fields Tryz.underlying41 jla
  match ms,h1 with
  | [m0,m1,m2,m3,m4,m5,m6],_=>
    have r0:Red Tryz.prog W m0 3 ((cs.drop 0).take 1):=(congrArg (fun k=>Red Tryz.prog W m0 3 ((cs.drop 0).take k)) jcQ).mp (h3 0 _ m0 rfl rfl)
    obtain⟨x0,g0,s0⟩:=Red.toInt Tryz.underlying3 r0
    have r1:Red Tryz.prog W m1 3 ((cs.drop 1).take 1):=(congrArg (fun k=>Red Tryz.prog W m1 3 ((cs.drop 1).take k)) jcQ).mp (h3 1 _ m1 rfl rfl)
    obtain⟨x1,g1,s1⟩:=Red.toInt Tryz.underlying3 r1
    have r2:Red Tryz.prog W m2 9 ((cs.drop 2).take 1):=(congrArg (fun k=>Red Tryz.prog W m2 9 ((cs.drop 2).take k)) jhr).mp (h3 2 _ m2 rfl rfl)
    obtain⟨x2,g2,s2⟩:=Red.toStr Tryz.underlying9 r2
    have r3:Red Tryz.prog W m3 37 ((cs.drop 3).take 1):=(congrArg (fun k=>Red Tryz.prog W m3 37 ((cs.drop 3).take k)) jkY).mp (h3 3 _ m3 rfl rfl)
    obtain⟨x3,g3,s3⟩:=Red.toList ((fun _=>1)) Tryz.underlying37 jcQ jmr (by decide) (by decide) (fun h=>Red.toInt Tryz.underlying3 h) r3
    have r4:Red Tryz.prog W m4 4 ((cs.drop 4).take 1):=(congrArg (fun k=>Red Tryz.prog W m4 4 ((cs.drop 4).take k)) jf1).mp (h3 4 _ m4 rfl rfl)
    obtain⟨x4,g4,s4⟩:=Red.toBool Tryz.underlying4 r4
    have r5:Red Tryz.prog W m5 3 ((cs.drop 5).take 1):=(congrArg (fun k=>Red Tryz.prog W m5 3 ((cs.drop 5).take k)) jcQ).mp (h3 5 _ m5 rfl rfl)
    obtain⟨x5,g5,s5⟩:=Red.toInt Tryz.underlying3 r5
    have r6:Red Tryz.prog W m6 4 ((cs.drop 6).take 1):=(congrArg (fun k=>Red Tryz.prog W m6 4 ((cs.drop 6).take k)) jf1).mp (h3 6 _ m6 rfl rfl)
    obtain⟨x6,g6,s6⟩:=Red.toBool Tryz.underlying4 r6
    have hp:=jco cs [1,1,1,1,1,1,1] 0 (by simpa using hl)
    simp only[parts,List.drop_zero,Nat.zero_add,Nat.reduceAdd]at hp
    refine⟨⟨x0,x1,x2,x3,x4,x5,x6⟩,⟨_,_,_,_,_,_,_,hp.symm,g0,g1,g2,g3,g4,g5,g6⟩,?_⟩
    simp only[List.sum_cons,List.sum_nil]at h2
    simp only[GIndex.size]at *
    omega
structure GCatalog where
  fVersion:Int
  fNext:Int
  fTables:(List GTable)
  fIndexes:(List GIndex)
  deriving DecidableEq
def jat:RD GCatalog:=fun w p cs x=>∃c0 c1 c2 c3:List Value,cs=List.flatten [c0,c1,c2,c3]∧(rInt .i64) w p c0 x.fVersion∧(rInt .i64) w p c1 x.fNext∧(jap jaG) w p c2 x.fTables∧(jap jaZ) w p c3 x.fIndexes
theorem rGCatalog_lawful:Lawful jat 4:=
  ⟨fun⟨c0,c1,c2,c3,h,h0,h1,h2,h3⟩=>by rw[h];simp only[List.flatten_cons,List.flatten_nil,List.append_nil,List.length_append,(jab _).len h0,(jab _).len h1,(jac rGTable_lawful).len h2,(jac rGIndex_lawful).len h3],
   fun⟨c0,c1,c2,c3,h,h0,h1,h2,h3⟩ k hs=>⟨c0,c1,c2,c3,h,(jab _).keep h0 k hs,(jab _).keep h1 k hs,(jac rGTable_lawful).keep h2 k hs,(jac rGIndex_lawful).keep h3 k hs⟩,
   fun⟨c0,c1,c2,c3,h,h0,h1,h2,h3⟩ hq=>⟨c0,c1,c2,c3,h,(jab _).mono h0 hq,(jab _).mono h1 hq,(jac rGTable_lawful).mono h2 hq,(jac rGIndex_lawful).mono h3 hq⟩⟩
def GCatalog.size(x:GCatalog):Nat:=(fun _=>1) x.fVersion+(fun _=>1) x.fNext+(jbF GTable.size) x.fTables+(jbF GIndex.size) x.fIndexes+1
structure GSpan where
  fFrom:(List UInt8)
  fTo:(List UInt8)
  deriving DecidableEq
def jdH:RD GSpan:=fun w p cs x=>∃c0 c1:List Value,cs=List.flatten [c0,c1]∧jc6 w p c0 x.fFrom∧jc6 w p c1 x.fTo
theorem rGSpan_lawful:Lawful jdH 2:=
  ⟨fun⟨c0,c1,h,h0,h1⟩=>by rw[h];simp only[List.flatten_cons,List.flatten_nil,List.append_nil,List.length_append,rBytes_lawful.len h0,rBytes_lawful.len h1],
   fun⟨c0,c1,h,h0,h1⟩ k hs=>⟨c0,c1,h,rBytes_lawful.keep h0 k hs,rBytes_lawful.keep h1 k hs⟩,
   fun⟨c0,c1,h,h0,h1⟩ hq=>⟨c0,c1,h,rBytes_lawful.mono h0 hq,rBytes_lawful.mono h1 hq⟩⟩
def GSpan.size(x:GSpan):Nat:=(fun x:List UInt8=>x.length+1) x.fFrom+(fun x:List UInt8=>x.length+1) x.fTo+1
theorem jkd{W:World}{m:Nat}{cs:List Value}(h:Red Tryz.prog W m 32 cs):∃x,jdH W (· < W.heap.size) cs x∧x.size≤m:=by
  obtain⟨hl,ms,h1,h2,h3⟩:=h.fields Tryz.underlying32 jia
  match ms,h1 with
  | [m0,m1],_=>
    have r0:Red Tryz.prog W m0 30 ((cs.drop 0).take 1):=(congrArg (fun k=>Red Tryz.prog W m0 30 ((cs.drop 0).take k)) jdQ).mp (h3 0 _ m0 rfl rfl)
    obtain⟨x0,g0,s0⟩:=Red.toBytes Tryz.underlying30 Tryz.underlying5 je0 jez r0
    have r1:Red Tryz.prog W m1 30 ((cs.drop 1).take 1):=(congrArg (fun k=>Red Tryz.prog W m1 30 ((cs.drop 1).take k)) jdQ).mp (h3 1 _ m1 rfl rfl)
    obtain⟨x1,g1,s1⟩:=Red.toBytes Tryz.underlying30 Tryz.underlying5 je0 jez r1
    have hp:=jco cs [1,1] 0 (by simpa using hl)
    simp only[parts,List.drop_zero,Nat.zero_add]at hp
    refine⟨⟨x0,x1⟩,⟨_,_,hp.symm,g0,g1⟩,?_⟩
    simp only[List.sum_cons,List.sum_nil]at h2
    simp only[GSpan.size]at *
    omega
structure GPair where
  fKey:(List UInt8)
  fValue:(List UInt8)
  fVersion:Int
  deriving DecidableEq
def jdj:RD GPair:=fun w p cs x=>∃c0 c1 c2:List Value,cs=List.flatten [c0,c1,c2]∧jc6 w p c0 x.fKey∧jc6 w p c1 x.fValue∧(rInt .i64) w p c2 x.fVersion
theorem rGPair_lawful:Lawful jdj 3:=
  ⟨fun⟨c0,c1,c2,h,h0,h1,h2⟩=>by rw[h];simp only[List.flatten_cons,List.flatten_nil,List.append_nil,List.length_append,rBytes_lawful.len h0,rBytes_lawful.len h1,(jab _).len h2],
   fun⟨c0,c1,c2,h,h0,h1,h2⟩ k hs=>⟨c0,c1,c2,h,rBytes_lawful.keep h0 k hs,rBytes_lawful.keep h1 k hs,(jab _).keep h2 k hs⟩,
   fun⟨c0,c1,c2,h,h0,h1,h2⟩ hq=>⟨c0,c1,c2,h,rBytes_lawful.mono h0 hq,rBytes_lawful.mono h1 hq,(jab _).mono h2 hq⟩⟩
def GPair.size(x:GPair):Nat:=(fun x:List UInt8=>x.length+1) x.fKey+(fun x:List UInt8=>x.length+1) x.fValue+(fun _=>1) x.fVersion+1
theorem jkc{W:World}{m:Nat}{cs:List Value}(h:Red Tryz.prog W m 114 cs):∃x,jdj W (· < W.heap.size) cs x∧x.size≤m:=by
  obtain⟨hl,ms,h1,h2,h3⟩:=h.fields Tryz.underlying114 jgX
  match ms,h1 with
  | [m0,m1,m2],_=>
    have r0:Red Tryz.prog W m0 30 ((cs.drop 0).take 1):=(congrArg (fun k=>Red Tryz.prog W m0 30 ((cs.drop 0).take k)) jdQ).mp (h3 0 _ m0 rfl rfl)
    obtain⟨x0,g0,s0⟩:=Red.toBytes Tryz.underlying30 Tryz.underlying5 je0 jez r0
    have r1:Red Tryz.prog W m1 30 ((cs.drop 1).take 1):=(congrArg (fun k=>Red Tryz.prog W m1 30 ((cs.drop 1).take k)) jdQ).mp (h3 1 _ m1 rfl rfl)
    obtain⟨x1,g1,s1⟩:=Red.toBytes Tryz.underlying30 Tryz.underlying5 je0 jez r1
    have r2:Red Tryz.prog W m2 3 ((cs.drop 2).take 1):=(congrArg (fun k=>Red Tryz.prog W m2 3 ((cs.drop 2).take k)) jcQ).mp (h3 2 _ m2 rfl rfl)
    obtain⟨x2,g2,s2⟩:=Red.toInt Tryz.underlying3 r2
    have hp:=jco cs [1,1,1] 0 (by simpa using hl)
    simp only[parts,List.drop_zero,Nat.zero_add,Nat.reduceAdd]at hp
    refine⟨⟨x0,x1,x2⟩,⟨_,_,_,hp.symm,g0,g1,g2⟩,?_⟩
    simp only[List.sum_cons,List.sum_nil]at h2
    simp only[GPair.size]at *
    omega
structure GSeen where
  fSpan:GSpan
  fPairs:(List GPair)
  deriving DecidableEq
def jhE:RD GSeen:=fun w p cs x=>∃c0 c1:List Value,cs=List.flatten [c0,c1]∧jdH w p c0 x.fSpan∧(jap jdj) w p c1 x.fPairs
theorem je8:Lawful jhE 3:=
  ⟨fun⟨c0,c1,h,h0,h1⟩=>by rw[h];simp only[List.flatten_cons,List.flatten_nil,List.append_nil,List.length_append,rGSpan_lawful.len h0,(jac rGPair_lawful).len h1],
   fun⟨c0,c1,h,h0,h1⟩ k hs=>⟨c0,c1,h,rGSpan_lawful.keep h0 k hs,(jac rGPair_lawful).keep h1 k hs⟩,
   fun⟨c0,c1,h,h0,h1⟩ hq=>⟨c0,c1,h,rGSpan_lawful.mono h0 hq,(jac rGPair_lawful).mono h1 hq⟩⟩
def GSeen.size(x:GSeen):Nat:=GSpan.size x.fSpan+(jbF GPair.size) x.fPairs+1
theorem jo0{W:World}{m:Nat}{cs:List Value}(h:Red Tryz.prog W m 212 cs):∃x,jhE W (· < W.heap.size) cs x∧x.size≤m:=by
  obtain⟨hl,ms,h1,h2,h3⟩:=h.fields Tryz.underlying212 jj8
  match ms,h1 with
  | [m0,m1],_=>
    have r0:Red Tryz.prog W m0 32 ((cs.drop 0).take 2):=(congrArg (fun k=>Red Tryz.prog W m0 32 ((cs.drop 0).take k)) jia).mp (h3 0 _ m0 rfl rfl)
    obtain⟨x0,g0,s0⟩:=jkd r0
    have r1:Red Tryz.prog W m1 33 ((cs.drop 2).take 1):=(congrArg (fun k=>Red Tryz.prog W m1 33 ((cs.drop 2).take k)) jkX).mp (h3 1 _ m1 rfl rfl)
    obtain⟨x1,g1,s1⟩:=Red.toList (GPair.size) Tryz.underlying33 jgX jj3 (by decide) (by decide) (fun h=>jkc h) r1
    have hp:=jco cs [2,1] 0 (by simpa using hl)
    simp only[parts,List.drop_zero,Nat.zero_add]at hp
    refine⟨⟨x0,x1⟩,⟨_,_,hp.symm,g0,g1⟩,?_⟩
    simp only[List.sum_cons,List.sum_nil]at h2
    simp only[GSeen.size]at *
    omega
structure GWrite where
  fKey:(List UInt8)
  fValue:(List UInt8)
  fDrop:Bool
  deriving DecidableEq
def jg8:RD GWrite:=fun w p cs x=>∃c0 c1 c2:List Value,cs=List.flatten [c0,c1,c2]∧jc6 w p c0 x.fKey∧jc6 w p c1 x.fValue∧jdg w p c2 x.fDrop
theorem jeo:Lawful jg8 3:=
  ⟨fun⟨c0,c1,c2,h,h0,h1,h2⟩=>by rw[h];simp only[List.flatten_cons,List.flatten_nil,List.append_nil,List.length_append,rBytes_lawful.len h0,rBytes_lawful.len h1,rBool_lawful.len h2],
   fun⟨c0,c1,c2,h,h0,h1,h2⟩ k hs=>⟨c0,c1,c2,h,rBytes_lawful.keep h0 k hs,rBytes_lawful.keep h1 k hs,rBool_lawful.keep h2 k hs⟩,
   fun⟨c0,c1,c2,h,h0,h1,h2⟩ hq=>⟨c0,c1,c2,h,rBytes_lawful.mono h0 hq,rBytes_lawful.mono h1 hq,rBool_lawful.mono h2 hq⟩⟩
def GWrite.size(x:GWrite):Nat:=(fun x:List UInt8=>x.length+1) x.fKey+(fun x:List UInt8=>x.length+1) x.fValue+(fun _=>1) x.fDrop+1
theorem jnb{W:World}{m:Nat}{cs:List Value}(h:Red Tryz.prog W m 216 cs):∃x,jg8 W (· < W.heap.size) cs x∧x.size≤m:=by
  obtain⟨hl,ms,h1,h2,h3⟩:=h.fields Tryz.underlying216 jj9
  match ms,h1 with
  | [m0,m1,m2],_=>
    have r0:Red Tryz.prog W m0 30 ((cs.drop 0).take 1):=(congrArg (fun k=>Red Tryz.prog W m0 30 ((cs.drop 0).take k)) jdQ).mp (h3 0 _ m0 rfl rfl)
    obtain⟨x0,g0,s0⟩:=Red.toBytes Tryz.underlying30 Tryz.underlying5 je0 jez r0
    have r1:Red Tryz.prog W m1 30 ((cs.drop 1).take 1):=(congrArg (fun k=>Red Tryz.prog W m1 30 ((cs.drop 1).take k)) jdQ).mp (h3 1 _ m1 rfl rfl)
    obtain⟨x1,g1,s1⟩:=Red.toBytes Tryz.underlying30 Tryz.underlying5 je0 jez r1
    have r2:Red Tryz.prog W m2 4 ((cs.drop 2).take 1):=(congrArg (fun k=>Red Tryz.prog W m2 4 ((cs.drop 2).take k)) jf1).mp (h3 2 _ m2 rfl rfl)
    obtain⟨x2,g2,s2⟩:=Red.toBool Tryz.underlying4 r2
    have hp:=jco cs [1,1,1] 0 (by simpa using hl)
    simp only[parts,List.drop_zero,Nat.zero_add,Nat.reduceAdd]at hp
    refine⟨⟨x0,x1,x2⟩,⟨_,_,_,hp.symm,g0,g1,g2⟩,?_⟩
    simp only[List.sum_cons,List.sum_nil]at h2
    simp only[GWrite.size]at *
    omega
structure GCommand where
  fKind:Int
  fEpoch:Int
  fTxn:Int
  fN:Int
  fFrom:Int
  fTo:Int
  fFlag:Bool
  fKey:(List UInt8)
  fSpan:GSpan
  fPairs:(List GPair)
  fSeens:(List GSeen)
  fWrites:(List GWrite)
  fTable:GTable
  fIndex:GIndex
  fName:(List UInt8)
  deriving DecidableEq
def jdb:RD GCommand:=fun w p cs x=>∃c0 c1 c2 c3 c4 c5 c6 c7 c8 c9 c10 c11 c12 c13 c14:List Value,cs=List.flatten [c0,c1,c2,c3,c4,c5,c6,c7,c8,c9,c10,c11,c12,c13,c14]∧(rInt .i64) w p c0 x.fKind∧(rInt .i64) w p c1 x.fEpoch∧(rInt .u64) w p c2 x.fTxn∧(rInt .i64) w p c3 x.fN∧(rInt .i64) w p c4 x.fFrom∧(rInt .i64) w p c5 x.fTo∧jdg w p c6 x.fFlag∧jc6 w p c7 x.fKey∧jdH w p c8 x.fSpan∧(jap jdj) w p c9 x.fPairs∧(jap jhE) w p c10 x.fSeens∧(jap jg8) w p c11 x.fWrites∧jaG w p c12 x.fTable∧jaZ w p c13 x.fIndex∧rStr w p c14 x.fName
theorem rGCommand_lawful:Lawful jdb 25:=
  ⟨fun⟨c0,c1,c2,c3,c4,c5,c6,c7,c8,c9,c10,c11,c12,c13,c14,h,h0,h1,h2,h3,h4,h5,h6,h7,h8,h9,h10,h11,h12,h13,h14⟩=>by rw[h];simp only[List.flatten_cons,List.flatten_nil,List.append_nil,List.length_append,(jab _).len h0,(jab _).len h1,(jab _).len h2,(jab _).len h3,(jab _).len h4,(jab _).len h5,rBool_lawful.len h6,rBytes_lawful.len h7,rGSpan_lawful.len h8,(jac rGPair_lawful).len h9,(jac je8).len h10,(jac jeo).len h11,rGTable_lawful.len h12,rGIndex_lawful.len h13,rStr_lawful.len h14],
   fun⟨c0,c1,c2,c3,c4,c5,c6,c7,c8,c9,c10,c11,c12,c13,c14,h,h0,h1,h2,h3,h4,h5,h6,h7,h8,h9,h10,h11,h12,h13,h14⟩ k hs=>⟨c0,c1,c2,c3,c4,c5,c6,c7,c8,c9,c10,c11,c12,c13,c14,h,(jab _).keep h0 k hs,(jab _).keep h1 k hs,(jab _).keep h2 k hs,(jab _).keep h3 k hs,(jab _).keep h4 k hs,(jab _).keep h5 k hs,rBool_lawful.keep h6 k hs,rBytes_lawful.keep h7 k hs,rGSpan_lawful.keep h8 k hs,(jac rGPair_lawful).keep h9 k hs,(jac je8).keep h10 k hs,(jac jeo).keep h11 k hs,rGTable_lawful.keep h12 k hs,rGIndex_lawful.keep h13 k hs,rStr_lawful.keep h14 k hs⟩,
   fun⟨c0,c1,c2,c3,c4,c5,c6,c7,c8,c9,c10,c11,c12,c13,c14,h,h0,h1,h2,h3,h4,h5,h6,h7,h8,h9,h10,h11,h12,h13,h14⟩ hq=>⟨c0,c1,c2,c3,c4,c5,c6,c7,c8,c9,c10,c11,c12,c13,c14,h,(jab _).mono h0 hq,(jab _).mono h1 hq,(jab _).mono h2 hq,(jab _).mono h3 hq,(jab _).mono h4 hq,(jab _).mono h5 hq,rBool_lawful.mono h6 hq,rBytes_lawful.mono h7 hq,rGSpan_lawful.mono h8 hq,(jac rGPair_lawful).mono h9 hq,(jac je8).mono h10 hq,(jac jeo).mono h11 hq,rGTable_lawful.mono h12 hq,rGIndex_lawful.mono h13 hq,rStr_lawful.mono h14 hq⟩⟩
def GCommand.size(x:GCommand):Nat:=(fun _=>1) x.fKind+(fun _=>1) x.fEpoch+(fun _=>1) x.fTxn+(fun _=>1) x.fN+(fun _=>1) x.fFrom+(fun _=>1) x.fTo+(fun _=>1) x.fFlag+(fun x:List UInt8=>x.length+1) x.fKey+GSpan.size x.fSpan+(jbF GPair.size) x.fPairs+(jbF GSeen.size) x.fSeens+(jbF GWrite.size) x.fWrites+GTable.size x.fTable+GIndex.size x.fIndex+(fun x:List UInt8=>x.length+1) x.fName+1
theorem jkA{W:World}{m:Nat}{cs:List Value}(h:Red Tryz.prog W m 43 cs):∃x,jdb W (· < W.heap.size) cs x∧x.size≤m:=by
  obtain⟨hl,ms,h1,h2,h3⟩:=h.fields Tryz.underlying43 jlb
  match ms,h1 with
  | [m0,m1,m2,m3,m4,m5,m6,m7,m8,m9,m10,m11,m12,m13,m14],_=>
    have r0:Red Tryz.prog W m0 3 ((cs.drop 0).take 1):=(congrArg (fun k=>Red Tryz.prog W m0 3 ((cs.drop 0).take k)) jcQ).mp (h3 0 _ m0 rfl rfl)
    obtain⟨x0,g0,s0⟩:=Red.toInt Tryz.underlying3 r0
    have r1:Red Tryz.prog W m1 3 ((cs.drop 1).take 1):=(congrArg (fun k=>Red Tryz.prog W m1 3 ((cs.drop 1).take k)) jcQ).mp (h3 1 _ m1 rfl rfl)
    obtain⟨x1,g1,s1⟩:=Red.toInt Tryz.underlying3 r1
    have r2:Red Tryz.prog W m2 28 ((cs.drop 2).take 1):=(congrArg (fun k=>Red Tryz.prog W m2 28 ((cs.drop 2).take k)) jpd).mp (h3 2 _ m2 rfl rfl)
    obtain⟨x2,g2,s2⟩:=Red.toInt Tryz.underlying28 r2
    have r3:Red Tryz.prog W m3 3 ((cs.drop 3).take 1):=(congrArg (fun k=>Red Tryz.prog W m3 3 ((cs.drop 3).take k)) jcQ).mp (h3 3 _ m3 rfl rfl)
    obtain⟨x3,g3,s3⟩:=Red.toInt Tryz.underlying3 r3
    have r4:Red Tryz.prog W m4 3 ((cs.drop 4).take 1):=(congrArg (fun k=>Red Tryz.prog W m4 3 ((cs.drop 4).take k)) jcQ).mp (h3 4 _ m4 rfl rfl)
    obtain⟨x4,g4,s4⟩:=Red.toInt Tryz.underlying3 r4
    have r5:Red Tryz.prog W m5 3 ((cs.drop 5).take 1):=(congrArg (fun k=>Red Tryz.prog W m5 3 ((cs.drop 5).take k)) jcQ).mp (h3 5 _ m5 rfl rfl)
    obtain⟨x5,g5,s5⟩:=Red.toInt Tryz.underlying3 r5
    have r6:Red Tryz.prog W m6 4 ((cs.drop 6).take 1):=(congrArg (fun k=>Red Tryz.prog W m6 4 ((cs.drop 6).take k)) jf1).mp (h3 6 _ m6 rfl rfl)
    obtain⟨x6,g6,s6⟩:=Red.toBool Tryz.underlying4 r6
    have r7:Red Tryz.prog W m7 30 ((cs.drop 7).take 1):=(congrArg (fun k=>Red Tryz.prog W m7 30 ((cs.drop 7).take k)) jdQ).mp (h3 7 _ m7 rfl rfl)
    obtain⟨x7,g7,s7⟩:=Red.toBytes Tryz.underlying30 Tryz.underlying5 je0 jez r7
    have r8:Red Tryz.prog W m8 32 ((cs.drop 8).take 2):=(congrArg (fun k=>Red Tryz.prog W m8 32 ((cs.drop 8).take k)) jia).mp (h3 8 _ m8 rfl rfl)
    obtain⟨x8,g8,s8⟩:=jkd r8
    have r9:Red Tryz.prog W m9 33 ((cs.drop 10).take 1):=(congrArg (fun k=>Red Tryz.prog W m9 33 ((cs.drop 10).take k)) jkX).mp (h3 9 _ m9 rfl rfl)
    obtain⟨x9,g9,s9⟩:=Red.toList (GPair.size) Tryz.underlying33 jgX jj3 (by decide) (by decide) (fun h=>jkc h) r9
    have r10:Red Tryz.prog W m10 34 ((cs.drop 11).take 1):=(congrArg (fun k=>Red Tryz.prog W m10 34 ((cs.drop 11).take k)) jpe).mp (h3 10 _ m10 rfl rfl)
    obtain⟨x10,g10,s10⟩:=Red.toList (GSeen.size) Tryz.underlying34 jj8 jnP (by decide) (by decide) (fun h=>jo0 h) r10
    have r11:Red Tryz.prog W m11 35 ((cs.drop 12).take 1):=(congrArg (fun k=>Red Tryz.prog W m11 35 ((cs.drop 12).take k)) jpf).mp (h3 11 _ m11 rfl rfl)
    obtain⟨x11,g11,s11⟩:=Red.toList (GWrite.size) Tryz.underlying35 jj9 jnQ (by decide) (by decide) (fun h=>jnb h) r11
    have r12:Red Tryz.prog W m12 39 ((cs.drop 13).take 4):=(congrArg (fun k=>Red Tryz.prog W m12 39 ((cs.drop 13).take k)) jkZ).mp (h3 12 _ m12 rfl rfl)
    obtain⟨x12,g12,s12⟩:=jna r12
    have r13:Red Tryz.prog W m13 41 ((cs.drop 17).take 7):=(congrArg (fun k=>Red Tryz.prog W m13 41 ((cs.drop 17).take k)) jla).mp (h3 13 _ m13 rfl rfl)
    obtain⟨x13,g13,s13⟩:=jmZ r13
    have r14:Red Tryz.prog W m14 9 ((cs.drop 24).take 1):=(congrArg (fun k=>Red Tryz.prog W m14 9 ((cs.drop 24).take k)) jhr).mp (h3 14 _ m14 rfl rfl)
    obtain⟨x14,g14,s14⟩:=Red.toStr Tryz.underlying9 r14
    have hp:=jco cs [1,1,1,1,1,1,1,1,2,1,1,1,4,7,1] 0 (by simpa using hl)
    simp only[parts,List.drop_zero,Nat.zero_add,Nat.reduceAdd]at hp
    refine⟨⟨x0,x1,x2,x3,x4,x5,x6,x7,x8,x9,x10,x11,x12,x13,x14⟩,⟨_,_,_,_,_,_,_,_,_,_,_,_,_,_,_,hp.symm,g0,g1,g2,g3,g4,g5,g6,g7,g8,g9,g10,g11,g12,g13,g14⟩,?_⟩
    simp only[List.sum_cons,List.sum_nil]at h2
    simp only[GCommand.size]at *
    omega
structure GReply where
  fErr:Int
  fTxn:Int
  fN:Int
  fFlag:Bool
  fPairs:(List GPair)
  fTxns:(List Int)
  fCatalog:GCatalog
  fRoutes:GRoutes
  deriving DecidableEq
def jc4:RD GReply:=fun w p cs x=>∃c0 c1 c2 c3 c4 c5 c6 c7:List Value,cs=List.flatten [c0,c1,c2,c3,c4,c5,c6,c7]∧(rInt .i64) w p c0 x.fErr∧(rInt .u64) w p c1 x.fTxn∧(rInt .i64) w p c2 x.fN∧jdg w p c3 x.fFlag∧(jap jdj) w p c4 x.fPairs∧(jap (rInt .u64)) w p c5 x.fTxns∧jat w p c6 x.fCatalog∧jaz w p c7 x.fRoutes
theorem rGReply_lawful:Lawful jc4 15:=
  ⟨fun⟨c0,c1,c2,c3,c4,c5,c6,c7,h,h0,h1,h2,h3,h4,h5,h6,h7⟩=>by rw[h];simp only[List.flatten_cons,List.flatten_nil,List.append_nil,List.length_append,(jab _).len h0,(jab _).len h1,(jab _).len h2,rBool_lawful.len h3,(jac rGPair_lawful).len h4,(jac (jab _)).len h5,rGCatalog_lawful.len h6,rGRoutes_lawful.len h7],
   fun⟨c0,c1,c2,c3,c4,c5,c6,c7,h,h0,h1,h2,h3,h4,h5,h6,h7⟩ k hs=>⟨c0,c1,c2,c3,c4,c5,c6,c7,h,(jab _).keep h0 k hs,(jab _).keep h1 k hs,(jab _).keep h2 k hs,rBool_lawful.keep h3 k hs,(jac rGPair_lawful).keep h4 k hs,(jac (jab _)).keep h5 k hs,rGCatalog_lawful.keep h6 k hs,rGRoutes_lawful.keep h7 k hs⟩,
   fun⟨c0,c1,c2,c3,c4,c5,c6,c7,h,h0,h1,h2,h3,h4,h5,h6,h7⟩ hq=>⟨c0,c1,c2,c3,c4,c5,c6,c7,h,(jab _).mono h0 hq,(jab _).mono h1 hq,(jab _).mono h2 hq,rBool_lawful.mono h3 hq,(jac rGPair_lawful).mono h4 hq,(jac (jab _)).mono h5 hq,rGCatalog_lawful.mono h6 hq,rGRoutes_lawful.mono h7 hq⟩⟩
def GReply.size(x:GReply):Nat:=(fun _=>1) x.fErr+(fun _=>1) x.fTxn+(fun _=>1) x.fN+(fun _=>1) x.fFlag+(jbF GPair.size) x.fPairs+(jbF (fun _=>1)) x.fTxns+GCatalog.size x.fCatalog+GRoutes.size x.fRoutes+1
structure GOp where
  fC:GCommand
  fRaw:(List UInt8)
  fLoad:Bool
  deriving DecidableEq
def rGOp:RD GOp:=fun w p cs x=>∃c0 c1 c2:List Value,cs=List.flatten [c0,c1,c2]∧jdb w p c0 x.fC∧jc6 w p c1 x.fRaw∧jdg w p c2 x.fLoad
theorem jk8:Lawful rGOp 27:=
  ⟨fun⟨c0,c1,c2,h,h0,h1,h2⟩=>by rw[h];simp only[List.flatten_cons,List.flatten_nil,List.append_nil,List.length_append,rGCommand_lawful.len h0,rBytes_lawful.len h1,rBool_lawful.len h2],
   fun⟨c0,c1,c2,h,h0,h1,h2⟩ k hs=>⟨c0,c1,c2,h,rGCommand_lawful.keep h0 k hs,rBytes_lawful.keep h1 k hs,rBool_lawful.keep h2 k hs⟩,
   fun⟨c0,c1,c2,h,h0,h1,h2⟩ hq=>⟨c0,c1,c2,h,rGCommand_lawful.mono h0 hq,rBytes_lawful.mono h1 hq,rBool_lawful.mono h2 hq⟩⟩
def GOp.size(x:GOp):Nat:=GCommand.size x.fC+(fun x:List UInt8=>x.length+1) x.fRaw+(fun _=>1) x.fLoad+1
theorem redGOp{W:World}{m:Nat}{cs:List Value}(h:Red Tryz.prog W m 45 cs):∃x,rGOp W (· < W.heap.size) cs x∧x.size≤m:=by
  obtain⟨hl,ms,h1,h2,h3⟩:=h.fields Tryz.underlying45 jph
  match ms,h1 with
  | [m0,m1,m2],_=>
    have r0:Red Tryz.prog W m0 43 ((cs.drop 0).take 25):=(congrArg (fun k=>Red Tryz.prog W m0 43 ((cs.drop 0).take k)) jlb).mp (h3 0 _ m0 rfl rfl)
    obtain⟨x0,g0,s0⟩:=jkA r0
    have r1:Red Tryz.prog W m1 30 ((cs.drop 25).take 1):=(congrArg (fun k=>Red Tryz.prog W m1 30 ((cs.drop 25).take k)) jdQ).mp (h3 1 _ m1 rfl rfl)
    obtain⟨x1,g1,s1⟩:=Red.toBytes Tryz.underlying30 Tryz.underlying5 je0 jez r1
    have r2:Red Tryz.prog W m2 4 ((cs.drop 26).take 1):=(congrArg (fun k=>Red Tryz.prog W m2 4 ((cs.drop 26).take k)) jf1).mp (h3 2 _ m2 rfl rfl)
    obtain⟨x2,g2,s2⟩:=Red.toBool Tryz.underlying4 r2
    have hp:=jco cs [25,1,1] 0 (by simpa using hl)
    simp only[parts,List.drop_zero,Nat.zero_add,Nat.reduceAdd]at hp
    refine⟨⟨x0,x1,x2⟩,⟨_,_,_,hp.symm,g0,g1,g2⟩,?_⟩
    simp only[List.sum_cons,List.sum_nil]at h2
    simp only[GOp.size]at *
    omega
def ja1(T:TypeId)(v:Value):Sem Next:=do pure (.value (←Instr.loadAt T v))
def jbm(T:TypeId)(a v:Value):Sem Next:=do
 Instr.storeAt T a v
 pure .skip
def jcJ(T:TypeId)(parts:Array (Nat×Value)):Sem Next:=do pure (.value (←Instr.build T parts))
def Whole(P:Program)(w:World)(T:TypeId)(b o:Nat)(cs:List Value):Prop:=(ja1 T (.pointer (some ⟨b,o,none⟩))).run P w=.ok (.value (.agg cs.toArray)) w
structure StructT(P:Program)(T n:Nat):Prop where
 under:∃fs,P.underlying T=some (.struct fs)
 info:(P.info? T).map (·.size)=some n
theorem Whole.at{P:Program}{w:World}{T n b o:Nat}{cs:List Value}(S:StructT P T n)(hn:cs.length=n)(h:∀j u,cs[j]?=some u→w.cell? ⟨b,o+j,none⟩=some u):Whole P w T b o cs:=by
 obtain⟨fs,hu⟩:=S.under
 have hl:(loadCells ⟨b,o,none⟩ cs.length).run P w=.ok cs.toArray w:=
  run_loadCells_list (P:=P) w ⟨b,o,none⟩ cs (fun j v hv=>by rw[Addr.add_lit];exact h j v hv)
 have hi:=S.info
 cases hq:P.info? T with
 | none=>
  simp[hq]at hi
 | some i=>
  have hs:i.size=cs.length:=by rw[hn];simpa [hq] using hi
  have hagg:(isAgg T).run P w=.ok true w:=by
   unfold isAgg
   rw[Sem.run_bind,run_underlying hu w]
   simp
  unfold Whole ja1
  simp[Instr.loadAt,Instr.sureAddr,loadVar,Sem.run_bind,hagg,sizeOf,typeInfo,hq,hs,hl]
theorem Whole.row{P:Program}{w:World}{T T' n b:Nat}{cs:List Value}(S:StructT P T n)(hn:cs.length=n)(h:RowIs w b T' cs):Whole P w T b 0 cs:=
 Whole.at S hn fun j u hu=>by rw[Nat.zero_add,h.cell];exact hu
/-! ### parts -/
def jal:List Value→List Value
 | []=>[]
 | v :: vs=>v.cells.toList ++ jal vs
def ones(cs:List Value):Bool:=cs.all (·.oneCell')
theorem jk7(a b:List Value):ones (a ++ b)=(ones a && ones b):=List.all_append
theorem jbN(v:Value)(vs:List Value):(jal (v :: vs)).length=v.cells.size+(jal vs).length:=by simp[jal]
theorem jcn:(jal []).length=0:=rfl
theorem jcz(v:Value)(vs:List Value):ones (jal (v :: vs))=(ones v.cells.toList && ones (jal vs)):=jk7 _ _
theorem jcr:ones (jal [])=true:=rfl
theorem jdy(k:IntKind)(n:Int):ones (Value.int k n).cells.toList=true:=rfl
theorem jgg(b:Bool):ones (Value.bool b).cells.toList=true:=rfl
theorem jfw(b:ByteArray):ones (Value.string b).cells.toList=true:=rfl
theorem jdf(a:Option Addr)(n c:Nat):ones (Value.slice a n c).cells.toList=true:=rfl
theorem jor(cs:List Value):ones (Value.agg cs.toArray).cells.toList=ones cs:=by simp[Value.cells]
theorem jbJ(k:IntKind)(n:Int):(Value.int k n).cells.size=1:=rfl
theorem jdT(b:Bool):(Value.bool b).cells.size=1:=rfl
theorem jdq(b:ByteArray):(Value.string b).cells.size=1:=rfl
theorem jb8(a:Option Addr)(n c:Nat):(Value.slice a n c).cells.size=1:=rfl
theorem jhf(cs:List Value):(Value.agg cs.toArray).cells.size=cs.length:=by simp[Value.cells]
def jbX(i:Nat):List Value→List (Nat×Value)
 | []=>[]
 | v :: vs=>(i,v) :: jbX (i+1) vs
theorem jmW(done c rest:List Value)(hr:c.length≤rest.length) :
  ∀(i:Nat),i≤c.length→(c.drop i |>.zipIdx i).foldl (fun(cs:Array Value) (x:Value×Nat)=>cs.setIfInBounds (done.length+x.2) x.1) (done ++ c.take i ++ rest.drop i).toArray=(done ++ c ++ rest.drop c.length).toArray:=by
 intro i hi
 induction h:c.length - i generalizing i with
 | zero=>
  have:i=c.length:=by omega
  subst this
  simp
 | succ n ih=>
  have hlt:i<c.length:=by omega
  rw[List.drop_eq_getElem_cons hlt,List.zipIdx_cons,List.foldl_cons]
  have hlr:i<rest.length:=by omega
  have:((done ++ c.take i ++ rest.drop i).toArray.setIfInBounds (done.length+i) c[i])=(done ++ c.take (i+1) ++ rest.drop (i+1)).toArray:=by
   rw[List.setIfInBounds_toArray]
   congr 1
   rw[List.set_append_right _ _ (by simp;omega)]
   have e1:done.length+i - (done ++ c.take i).length=0:=by simp;omega
   have e2:(rest.drop i).set 0 c[i]=c[i] :: rest.drop (i+1):=by rw[List.drop_eq_getElem_cons hlr];rfl
   rw[e1,e2,List.take_succ_eq_append_getElem hlt]
   simp only[List.append_assoc,List.cons_append,List.nil_append]
  simp only at this ⊢
  rw[this]
  exact ih (i+1) hlt (by omega)
theorem jfA(place:Nat→Option (Nat×Nat)):∀(vs:List Value) (i:Nat) (done rest:List Value),rest.length=(jal vs).length→
  (∀k v,vs[k]?=some v→place (i+k)=some (done.length+(jal (vs.take k)).length,v.cells.size))→Instr.fill place (done ++ rest).toArray (jbX i vs)=some (done ++ jal vs).toArray
 | [],i,done,rest,h,_=>by
  have:rest=[]:=List.eq_nil_of_length_eq_zero (by simpa [jal] using h)
  subst this
  rfl
 | v :: vs,i,done,rest,h,hp=>by
  have h0:=hp 0 v rfl
  simp only[Nat.add_zero,List.take_zero,jal,List.length_nil]at h0
  rw[jbN]at h
  have hc:v.cells.toList.length=v.cells.size:=Array.length_toList
  simp only[jbX,Instr.fill,h0]
  rw[if_neg (by simp;omega)]
  have hput:=jmW done v.cells.toList rest (by omega) 0 (Nat.zero_le _)
  simp only[List.drop_zero,List.take_zero,List.append_nil]at hput
  have hz:v.cells.zipIdx.foldl (fun cs x=>match x with | (c,j)=>cs.setIfInBounds (done.length+j) c) (done ++ rest).toArray=(done ++ v.cells.toList ++ rest.drop v.cells.toList.length).toArray:=by
   rw[←hput,←Array.foldl_toList,Array.toList_zipIdx]
  rw[hz]
  have:=jfA place vs (i+1) (done ++ v.cells.toList) (rest.drop v.cells.toList.length) (by simp;omega) (fun k u hu=>by
   have:=hp (k+1) u (by simpa using hu)
   rw[show i+1+k=i+(k+1)by omega,this,List.take_succ_cons,jbN]
   simp only[List.length_append,hc]
   congr 2;omega)
  rw[this]
  simp[jal]
structure BuildT(P:Program)(T:Nat)(sizes:List Nat):Prop where
 place:∃fs it z places,P.underlying T=some (.struct fs)∧P.info? T=some it∧it.zero=some z∧z.cells.size=sizes.sum∧fs.toList.mapM (fun f=>(P.info? f.type).map fun i=>(f.offset,i.size))=some places∧
  places.length=sizes.length∧∀k,k<sizes.length→places[k]?=some ((sizes.take k).sum,sizes.getD k 0)
theorem jeT:∀(vs:List Value),(jal vs).length=(vs.map (·.cells.size)).sum
 | []=>rfl
 | v :: vs=>by rw[jbN,jeT vs];simp
theorem jcZ{P:Program}{T:Nat}{sizes:List Nat}(B:BuildT P T sizes)(vs:List Value)(h:vs.map (·.cells.size)=sizes)(w:World) :
  (jcJ T (jbX 0 vs).toArray).run P w=.ok (.value (.agg (jal vs).toArray)) w:=by
 obtain⟨fs,it,z,places,h1,h2,h3,h4,h5,h6,h7⟩:=B.place
 have hb:P.built T (jbX 0 vs)=some (jal vs).toArray:=by
  unfold Program.built
  simp only[h2,h1,h3,h5]
  have:=jfA (fun x=>places.toArray[x]?) vs 0 [] z.cells.toList (by rw[jeT,h];simpa using h4) (fun k v hv=>by
   have hk:k<sizes.length:=by rw[←h,List.length_map];exact(List.getElem?_eq_some_iff.1 hv).1
   have:=h7 k hk
   simp only[Nat.zero_add,List.getElem?_toArray,this,List.length_nil]
   congr 2
   ·rw[jeT,List.map_take,h]
   ·rw[←h];simp[List.getD,hv])
  simpa using this
 unfold jcJ
 rw[Sem.run_bind,run_build w T _ (jal vs).toArray (by simpa using hb)]
 rfl
theorem jaf{P:Program}{w:World}{T T' n b:Nat}{old cs:List Value}(S:StructT P T n)(hr:RowIs w b T' old)(ho:old.length=n)(hn:cs.length=n)(h1:ones cs=true) :
  (jbm T (.pointer (some ⟨b,0,none⟩)) (.agg cs.toArray)).run P w=.ok .skip (w.setRow b cs.toArray):=by
 have:=run_storeVar_row (P:=P) w b T' T old.toArray cs.toArray hr (by simpa [hn] using S.info) (by simp;omega) (by simpa [ones] using h1)
 unfold jbm
 simp[Instr.storeAt,Instr.sureAddr,this]
theorem RowIs.setRow{w:World}{b:Nat}{e:TypeId}{cs:List Value}(h:RowIs w b e cs)(ds:List Value):RowIs (w.setRow b ds.toArray) b e ds:=by
 unfold RowIs
 exact setRow_heap w b cs.toArray ds.toArray e (0,0) h
theorem Keep.setRow{S:Nat→Prop}{a b:World}(h:Keep S a b){g:Nat}(hg:g<a.heap.size→S g)(cs:Array Value):Keep S a (b.setRow g cs):=
 ⟨h.os,h.tape,h.output,by simpa using h.size,fun k hk hs=>by
  rw[setRow_other _ _ _ _ (by rintro rfl;exact hs (hg hk))];exact h.block k hk hs⟩
section
theorem far_len:far≤140737488351232∧far≤maxLen:=by decide
theorem jba{α:Type}{R:RD α}{w:World}{p:Nat→Prop}{cs:List Value}{l:List α}(h:jap R w p cs l):∃a cap,cs=[.slice a l.length cap]∧jap R w p [.slice a l.length cap] l:=by
  obtain⟨a,cap,css,rfl,h⟩:=h
  exact⟨a,cap,rfl,a,cap,css,rfl,h⟩
theorem ja0{α:Type}{R:RD α}{w:World}{p:Nat→Prop}{a:Option Addr}{n cap:Nat}{l:List α}(h:jap R w p [.slice a n cap] l):n=l.length∧n≤cap∧n≤far:=by
  obtain⟨a',cap',css,h1,h2,h3,h4,h5,-⟩:=h
  simp only[List.cons.injEq,Value.slice.injEq,and_true]at h1
  obtain⟨-,rfl,rfl⟩:=h1
  exact⟨rfl,h4,h5⟩
def LiesW(w:World)(p:Nat→Prop)(a:Option Addr)(xs:List Value):Prop:=
  xs≠[]→∃b off,a=some ⟨b,off,none⟩∧p b∧b<w.heap.size∧(∀j u,xs[j]?=some u→w.cell? ⟨b,off+j,none⟩=some u)∧∀j,w.frozen? ⟨b,j,none⟩=false
theorem LiesW.lies{w:World}{p:Nat→Prop}{a:Option Addr}{xs:List Value}(h:LiesW w p a xs):Lies w p a xs:=fun hx=>by
  obtain⟨b,off,h1,h2,h3,h4,-⟩:=h hx
  exact⟨b,off,h1,h2,h3,h4⟩
theorem LiesW.of_owned{w:World}{base:Nat}{e sz:Nat}{a:Option Addr}{n m cap:Nat}{xs:List Value}(h:w.ownsRow base e sz (.slice a n cap) m xs):LiesW w (fun b=>base≤b) a xs:=by
  intro hx
  rcases h.2 with⟨h1,rfl⟩ | ⟨g,cap',cur,h1,hb,hg,_⟩
  · exact absurd (List.eq_nil_of_length_eq_zero (by simpa using h.1)) hx
  · cases h1
    refine⟨g,0,rfl,hb,(Array.getElem?_eq_some_iff.1 hg).1,fun j u hu=>?_,fun j=>frozen_of_row w g j cur e hg⟩
    have:=h.cells (g:=g) rfl j u hu
    rw[Addr.add_lit]at this
    exact this
def jdp:RD (List UInt8):=fun w p cs l=>∃(a:Option Addr) (cap:Nat),cs=[.slice a l.length cap]∧LiesW w p a (l.map bv)∧l.length≤cap∧l.length≤far
theorem rBytesW_lawful:Lawful jdp 1:=
  ⟨fun⟨_,_,h,_⟩=>by rw[h];rfl,
   fun⟨a,cap,h,hl,r⟩ k hs=>⟨a,cap,h,fun hx=>by
      obtain⟨b,off,h1,h2,h3,h4,h5⟩:=hl hx
      exact⟨b,off,h1,h2,Nat.lt_of_lt_of_le h3 k.size,fun j u hu=>(k.cell (p:=⟨b,off+j,none⟩) h3 (hs b h2)).trans (h4 j u hu),fun j=>(k.frozen (p:=⟨b,j,none⟩) h3 (hs b h2)).trans (h5 j)⟩,r⟩,
   fun⟨a,cap,h,hl,r⟩ hq=>⟨a,cap,h,fun hx=>by
      obtain⟨b,off,h1,h2,h3⟩:=hl hx
      exact⟨b,off,h1,hq b h2,h3⟩,r⟩⟩
theorem jeF{w:World}{p:Nat→Prop}{cs:List Value}{l:List UInt8}(h:jdp w p cs l):jc6 w p cs l:=by
  obtain⟨a,cap,h1,h2,h3⟩:=h
  exact⟨a,cap,h1,h2.lies,h3⟩
theorem jed{w:World}{p:Nat→Prop}{cs:List Value}{l:List UInt8}(h:jdp w p cs l):∃a cap,cs=[.slice a l.length cap]∧jdp w p [.slice a l.length cap] l:=by
  obtain⟨a,cap,rfl,h⟩:=h
  exact⟨a,cap,rfl,a,cap,rfl,h⟩
theorem jdz{α:Type}{R R':RD α}(f:∀ {w:World} {p:Nat→Prop} {cs:List Value} {x:α},R w p cs x→R' w p cs x){w:World}{p:Nat→Prop}{cs:List Value}{l:List α}(h:jap R w p cs l):jap R' w p cs l:=by
  obtain⟨a,cap,css,h1,h2,h3,h4,h5,h6⟩:=h
  exact⟨a,cap,css,h1,h2,h3,h4,h5,fun i c x hc hx=>f (h6 i c x hc hx)⟩
def jai(w w':World):Nat→Prop:=fun b=>w.heap.size≤b∧b<w'.heap.size
def jb5(n:Nat)(w':World):Nat→Prop:=fun b=>n≤b∧b<w'.heap.size
/-! ### a list of one element, and what it is appended to -/
def jcC(T n:Nat)(parts:Array (Nat×Value)):Sem Next:=do pure (.value (←Instr.buildSlice T n parts))
theorem jb3{P:Program}{t e n bytes:Nat}(S:SliceT P t e n bytes)(hn:n≤100)(cs:List Value)(hc:cs.length=n)(w:World) :
    (jcC t 1 #[(0,.agg cs.toArray)]).run P w=.ok (.value (.slice (some ⟨w.heap.size,0,none⟩) 1 1)) (w.alloc (.cells cs.toArray e)):=by
  obtain⟨i,z,hi,hz,hsz,hby,hzs⟩:=S.info
  have hpos:=S.pos
  have hf:∀Z:Array Value,Z.size=n→Instr.fill (fun j=>some (j*n,n)) Z [(0,.agg cs.toArray)]=some cs.toArray:=by
    intro Z hZ
    have:=jfA (fun j=>some (j*n,n)) [.agg cs.toArray] 0 [] Z.toList (by rw[jbN,jcn,jhf,hc];simpa using hZ) (fun k v hv=>by
      match k,hv with
      | 0,hv=>simp at hv;subst hv;simp[jal,Value.cells,hc])
    have e:([] ++ Z.toList).toArray=Z:=by simp
    rw[e]at this
    simpa [jbX,jal,Value.cells] using this
  have hf2:=hf ((Array.range (1*n)).map (z.cells[· % z.cells.size]!)) (by simp)
  unfold jcC Instr.buildSlice
  simp[run_underlying S.under,sizeOf,typeInfo,hi,hz,hsz,show ¬(16777216<n)by omega,show n≠0 by omega,zeroValue,newRow,newObj]
  simp only[Nat.one_mul]at hf2
  rw[hf2]
  rfl
def Els{α:Type}(R:RD α)(w:World)(p:Nat→Prop)(css:List (List Value))(xs:List α):Prop:=css.length=xs.length∧∀(i:Nat) (c:List Value) (x:α),css[i]?=some c→xs[i]?=some x→R w p c x
theorem Els.nil{α:Type}(R:RD α)(w:World)(p:Nat→Prop):Els R w p [] []:=⟨rfl,fun i c x h=>by simp at h⟩
section
variable {α : Type} {R : RD α} {sz : Nat} {w wr w2 w3 : World} {p q : Nat → Prop} {css : List (List Value)} {xs : List α}
theorem Els.keep(h:Els R w p css xs)(L:Lawful R sz){S:Nat→Prop}(k:Keep S w wr)(hs:∀b,p b→¬S b):Els R wr p css xs:=⟨h.1,fun i c x hc hx=>L.keep (h.2 i c x hc hx) k hs⟩
theorem Els.mono(h:Els R w p css xs)(L:Lawful R sz)(hq:∀b,p b→q b):Els R w q css xs:=⟨h.1,fun i c x hc hx=>L.mono (h.2 i c x hc hx) hq⟩
theorem Els.snoc(h:Els R w p css xs){c:List Value}{x:α}(hc:R w p c x):Els R w p (css ++ [c]) (xs ++ [x]):=by
  refine⟨by simp[h.1],fun i d y hd hy=>?_⟩
  by_cases hi:i<css.length
  · rw[List.getElem?_append_left hi]at hd
    rw[List.getElem?_append_left (by rw[←h.1];exact hi)]at hy
    exact h.2 i d y hd hy
  · rw[List.getElem?_append_right (by omega)]at hd
    rw[List.getElem?_append_right (by rw[←h.1];omega)]at hy
    have h0:i - css.length=0:=by have:=(List.getElem?_eq_some_iff.1 hd).1;simp at this;omega
    rw[h0]at hd
    rw[←h.1,h0]at hy
    simp at hd hy
    subst hd hy
    exact hc
theorem Els.push{rd:Nat}{v v':Value}{c:List Value}{x:α}(els:Els R wr (fun b=>jai w wr b∧¬OwnB v b) css xs)(L:Lawful R sz)(hc:R w2 (jai wr w2) c x)(k2:Keep (·=rd) wr w2)(k3:Keep (OwnB v) w2 w3)(hrd:rd<w.heap.size)(hw:w.heap.size≤wr.heap.size)
    (hv:∀b,OwnB v b→b<wr.heap.size) (hn:∀b,OwnB v' b→OwnB v b∨w2.heap.size≤b):Els R w3 (fun b=>jai w w3 b∧¬OwnB v' b) (css ++ [c]) (xs ++ [x]):=by
  have s2:=k2.size
  have s3:=k3.size
  refine Els.snoc ?_ ?_
  · refine((els.keep L k2 (fun b hb e=>by have:=hb.1.1;omega)).keep L k3 (fun b hb=>hb.2)).mono L (fun b hb=>⟨⟨hb.1.1,by have:=hb.1.2;omega⟩,fun h=>?_⟩)
    rcases hn b h with h | h
    · exact hb.2 h
    · have:=hb.1.2;omega
  · refine L.mono (L.keep hc k3 (fun b hb h=>by have:=hv b h;have:=hb.1;omega)) (fun b hb=>⟨⟨by have:=hb.1;omega,by have:=hb.2;omega⟩,fun h=>?_⟩)
    rcases hn b h with h | h
    · have:=hv b h;have:=hb.1;omega
    · have:=hb.2;omega
theorem Els.list{e:Nat}{a:Option Addr}{cap base:Nat}{y:List α}(hb:w.heap.size≤base)(own:wr.ownsRow base e sz (.slice a xs.length cap) xs.length css.flatten)(els:Els R wr (fun b=>jai w wr b∧¬OwnB (.slice a xs.length cap) b) css xs)(L:Lawful R sz)(hy:y=xs)(hf:xs.length≤far) :
    jap R wr (jai w wr) [.slice a xs.length cap] y:=by
  subst hy
  refine⟨a,cap,css,rfl,els.1,fun hx=>?_,(jbu own).2.1,hf,(els.mono L (fun b h=>h.1)).2⟩
  obtain⟨b,off,ha,hp,hlt,hc⟩:=Lies.of_owned own hx
  exact⟨b,off,ha,⟨Nat.le_trans hb hp.1,hlt⟩,hlt,hc⟩
end
theorem jbi{P:Program}{t e sz bytes:Nat}(T:SliceT P t e sz bytes){w:World}{cs:Array Value}{t':TypeId}{ops:Array Oper}{rest:List Oper}{o:Oper}{a:Act}{Q:Exit→Act→World→Prop}(hgd:o.guard=none)(s x:Operand)
    (ho:o.op=.call {callee:=.builtin .append,args:=#[s,x],argTypes:=#[t,t]})
    (base:Nat) {v:Value} {n:Nat} {xs:List Value} (hs:a.eval s=v) (hown:w.ownsRow base e sz v n xs)
    {c:Nat} (hx:a.eval x=.slice (some ⟨w.heap.size,0,none⟩) 1 c) (hl:cs.size=sz) (h1:∀u∈cs.toList,u.oneCell'=true)
    (h63:n+1≤maxLen) (hbytes:(n+1)*bytes≤140737488355328) (hbase:base≤w.heap.size)
    (h:∀a' cap' w',w'.ownsRow base e sz (.slice a' (n+1) cap') (n+1) (xs ++ cs.toList)→Keep (OwnB v) w w'→(∀b,OwnB (.slice a' (n+1) cap') b→OwnB v b∨w.heap.size≤b)→wpList P ops Q rest (a.put o.dst (.slice a' (n+1) cap')) w') :
    wpList P ops Q (o :: rest) a (w.alloc (.cells cs t')):=by
  obtain⟨i,z,hi,hz,hsz,hby,hzs⟩:=T.info
  obtain⟨b,off,hb,hp,hlt,hc⟩:=Lies.block w cs t' (·=w.heap.size) rfl (fun e=>by
    have:=congrArg List.length e
    rw[Array.length_toList,hl,List.length_nil]at this
    exact absurd this (Nat.ne_of_gt T.pos))
  simp only[Option.some.injEq,Addr.mk.injEq]at hb
  obtain⟨rfl,rfl,-⟩:=hb
  refine wpList_append_own_at (w.alloc (.cells cs t')) hgd s x t ho base e i z sz bytes T.under hi hz hsz hby hzs T.pos v n xs hs (hown.alloc _) ⟨w.heap.size,0,none⟩ 1 c cs.toList hx (by simp[hl]) (fun j u hu=>by rw[Addr.add_lit];exact hc j u hu) h1 h63 hbytes (by simp;omega) ?_
  intro v' w' ho' hg _ hat
  obtain⟨a',cap',rfl⟩:=jdn ho'
  refine h a' cap' w' ho' (((Keep.refl _ _).alloc _).grown hg fun _ hk _=>hk) (fun b hb=>?_)
  rcases hat with hat | hat
  · exact .inl (hat.symm.trans hb)
  · have:some b=some (w.alloc (.cells cs t')).heap.size:=hb.symm.trans hat
    simp only[Option.some.injEq]at this
    subst this
    exact .inr (by simp)
def Took{α:Type}(R:RD α)(w:World)(y:α×Int)(e:Ending)(w':World):Prop:=∃cs:List Value,e=.returned (.tuple #[.agg cs.toArray,.int .i64 y.2])∧R w' (jai w w') cs y.1∧ones cs=true∧Keep Nix w w'
def TookR{α:Type}(R:RD α)(rd:Nat)(w:World)(y:α×Int)(e:Ending)(w':World):Prop:=∃cs:List Value,e=.returned (.tuple #[.agg cs.toArray,.int .i64 y.2])∧R w' (jai w w') cs y.1∧ones cs=true∧Keep (·=rd) w w'
theorem jag{P:Program}{fn:Func}{p q:Tmp}{ty:TypeId}(h:fn.results=#[.cell p ty,.tmp q])(tmps:Array Value)(w:World)(g:Nat)(t:TypeId)(cs:Array Value)(fr:Nat×Nat)(d:TypeDesc)
    (hp:tmps.getD p undef=.pointer (some ⟨g,0,none⟩)) (hg:w.heap[g]?=some (.cells cs t fr))
    (hu:P.underlying ty=some d) (hd:(match d with | .struct _ | .array _ _=>true | _=>false)=true) (hi:(P.info? ty).map (·.size)=some cs.size) :
    (results fn tmps).run P w=.ok (.tuple #[.agg cs,tmps.getD q undef]) w:=by
  have hp':tmps[p]?.getD undef=.pointer (some ⟨g,0,none⟩):=by simpa using hp
  simp[results,h,hp',asAddr,run_loadVar_row w g t ty cs fr d hg hu hd hi]
end
end Go.Proofs.YtibaehlfpgipfaaGreat
