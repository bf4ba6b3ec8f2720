/- WHAT COMES IN: an argument that can be read as data, opened cell by cell. -/
import Derived.Test.YtibaehlfpgipfaaGreatQZBase
import Derived.SizedLaws
import Derived.Deep.CondSized
import Derived.Deep.Slices
namespace Go.Proofs.YtibaehlfpgipfaaGreat
open Go.RowKit
/-! ### bulk -/
theorem jnN{H:Type}(d:DataW H):1≤Rows.uptoBulk d:=by
 cases d with
 | lit l=>
  cases l <;> simp[Rows.uptoBulk]
 | nil=>
  simp[Rows.uptoBulk]
 | ptr d=>
  simp[Rows.uptoBulk]
 | slice elems spare=>
  simp[Rows.uptoBulk]
 | agg parts=>
  simp[Rows.uptoBulk]
 | iface t d=>
  simp[Rows.uptoBulk]
 | map entries=>
  simp[Rows.uptoBulk]
 | held h=>
  simp[Rows.uptoBulk]
theorem jj2{H:Type}(l:List (DataW H)):Rows.uptoBulkAll l=(l.map Rows.uptoBulk).sum:=by
 induction l with
 | nil=>rfl
 | cons x l ih=>simp only[Rows.uptoBulkAll,List.map_cons,List.sum_cons,ih]
theorem jkS{H:Type}(P:Program)(e:TypeId)(l:List (DataW H))(n:Nat):n∈DataW.weightsAll P e l↔∃d∈l,n∈d.weights P e:=by
 induction l with
 | nil=>simp[DataW.weightsAll]
 | cons x l ih=>simp[DataW.weightsAll,ih]
def Red(P:Program)(W:World)(m:Nat)(t:TypeId)(cs:List Value):Prop:=
 ∃(H:Type) (enc:TypeId×Value→H) (fuel:Nat) (d:DataW H) (ps:List MemPlace),DataW.trod enc P W 0 (fun _=>true) true fuel t cs=some (d,ps)∧
  (∀n∈d.weights P t,n≤reachBytes)∧(∀x∈ps,x.block<W.heap.size)∧Rows.uptoBulk d≤m
section
variable {P : Program} {W : World} {m : Nat} {t e : TypeId} {cs : List Value}
theorem Red.int{k:IntKind}(ht:P.underlying t=some (.int k))(h:Red P W m t cs):∃n,cs=[.int k n]∧(Lit.int k n).wf=true:=by
 obtain⟨H,enc,fuel,d,ps,hd,-⟩:=h
 obtain⟨n,h1,-,h2⟩:=DataW.trod_int ht hd
 exact⟨n,h1,h2⟩
theorem Red.bool(ht:P.underlying t=some .bool)(h:Red P W m t cs):∃b,cs=[.bool b]:=by
 obtain⟨H,enc,fuel,d,ps,hd,-⟩:=h
 obtain⟨b,h1,-⟩:=DataW.trod_bool ht hd
 exact⟨b,h1⟩
theorem Red.slice{sz by':Nat}(ht:P.underlying t=some (.slice e))(hc:P.cellsOf e=sz)(hby:P.bytesOf e=by')(hsz:0<sz)(h:Red P W m t cs) :
  ∃(a:Option Addr) (n cap:Nat) (css:List (List Value)) (ms:List Nat),cs=[.slice a n cap]∧css.length=n∧ms.length=n∧ms.sum+1≤m∧n≤cap∧cap≤maxLen∧cap*by'≤reachBytes∧(a=none→n=0∧cap=0)∧
   (∀(i:Nat) (c:List Value) (k:Nat),css[i]?=some c→ms[i]?=some k→c.length=sz∧Red P W k e c)∧Lies W (· < W.heap.size) a css.flatten:=by
 obtain⟨H,enc,fuel,d,ps,hd,hw,hp,hb⟩:=h
 rcases DataW.trod_slice ht hd with⟨rfl,hx⟩ | ⟨a,len,cap,elems,rest,n,-,rfl,hx,-,hl,hm,hlen,hel,hsp,-⟩
 ·simp only[Prod.mk.injEq]at hx
  obtain⟨rfl,-⟩:=hx
  exact⟨none,0,0,[],[],rfl,rfl,rfl,by simpa [Rows.uptoBulk] using hb,Nat.le_refl _,Nat.zero_le _,by simp,fun _=>⟨rfl,rfl⟩,fun i c k hi=>by simp at hi,Lies.nil _ _ _⟩
 ·simp only[Prod.mk.injEq]at hx
  obtain⟨rfl,rfl⟩:=hx
  have hrl:=(hsp rfl).1
  simp only[Rows.uptoBulk,jj2]at hb
  have key:∀i,i<len→∃c:List Value,W.cells? 0 (a.add (i*P.cellsOf e)) (P.cellsOf e)=some c∧DataW.trod enc P W 0 (fun _=>true) true n e c=elems[i]?:=by
   intro i hi
   have hk:=hel i hi
   rw[List.getElem?_eq_getElem (by omega)]at hk
   obtain⟨c,h1,h2⟩:=Option.bind_eq_some_iff.1 hk
   exact⟨c,h1,by rw[h2,List.getElem?_eq_getElem (by omega)]⟩
  obtain⟨F,hF⟩:=Deep.choose_lt key
  have hFl:∀i,i<len→(F i).length=sz∧∀j u,(F i)[j]?=some u→W.cell? (a.add (i*sz+j))=some u:=by
   intro i hi
   obtain⟨h1,-⟩:=hF i hi
   rw[hc]at h1
   obtain⟨-,h2,h3⟩:=World.cells?_some h1
   refine⟨h2,fun j u hu=>?_⟩
   have hj:j<sz:=by rw[←h2];exact(List.getElem?_eq_some_iff.1 hu).1
   rw[←Deep.add_add,h3 j hj,hu]
  refine⟨some a,len,cap,(List.range len).map F,elems.map (fun x=>Rows.uptoBulk x.1),rfl,by simp,by simp[hlen],?_,hl,hm,?_,(fun h=>nomatch h),?_,?_⟩
  ·rw[List.map_map,List.map_map]at hb;simp only[Function.comp_def]at hb;omega
  ·have:=hw ((elems.length+rest.length)*P.bytesOf e) (by simp[DataW.weights,ht])
   rw[hby,hlen,hrl,show len+(cap - len)=cap by omega]at this
   exact this
  ·intro i c k hi hk
   have hil:i<len:=by have:=(List.getElem?_eq_some_iff.1 hi).1;simpa using this
   have hFi:F i=c:=by simpa [hil] using hi
   subst hFi
   have hk':Rows.uptoBulk elems[i].1=k:=by simpa [hlen,hil] using hk
   refine⟨(hFl i hil).1,H,enc,n,elems[i].1,elems[i].2,?_,?_,?_,Nat.le_of_eq hk'⟩
   ·rw[(hF i hil).2,List.getElem?_eq_getElem (by omega)]
   ·intro x hx
    refine hw x ?_
    simp only[DataW.weights,ht,List.mem_cons,List.mem_append,jkS]
    exact .inr (.inl ⟨_,List.mem_map.2 ⟨elems[i],List.getElem_mem _,rfl⟩,hx⟩)
   ·intro x hx
    refine hp x ?_
    rw[List.mem_append,List.mem_flatMap]
    exact .inr ⟨elems[i],List.mem_append.2 (.inl (List.getElem_mem _)),hx⟩
  ·intro hne
   have h0:0<len:=by
    rcases Nat.eq_zero_or_pos len with h | h
    ·subst h;simp at hne
    ·exact h
   obtain⟨b,off,spot⟩:=a
   have hc0:=(hFl 0 h0).2 0 _ (List.getElem?_eq_getElem (by rw[(hFl 0 h0).1];exact hsz))
   have hspot:spot=none:=by simpa [Addr.add] using World.cell?_spot hc0
   subst hspot
   refine⟨b,off,rfl,World.block_lt_of_cell? W _ (by simpa [Addr.add] using hc0),World.block_lt_of_cell? W _ (by simpa [Addr.add] using hc0),fun j u hu=>?_⟩
   have hflat:∀(l:List (List Value)) (s:Nat),(∀i,i<l.length→(l.getD i []).length=sz∧∀j u,(l.getD i [])[j]?=some u→W.cell? ((⟨b,off,none⟩:Addr).add ((s+i)*sz+j))=some u)→
     ∀j u,l.flatten[j]?=some u→W.cell? ((⟨b,off,none⟩:Addr).add (s*sz+j))=some u:=by
    intro l
    induction l with
    | nil=>intro s _ j u hu;simp at hu
    | cons c l ih=>
     intro s hs j u hu
     have hc0:=hs 0 (by simp)
     simp only[List.getD_cons_zero,Nat.add_zero]at hc0
     rw[List.flatten_cons]at hu
     by_cases hj:j<c.length
     ·rw[List.getElem?_append_left hj]at hu
      exact hc0.2 j u hu
     ·rw[List.getElem?_append_right (by omega)]at hu
      have:=ih (s+1) (fun i hi=>by
       have:=hs (i+1) (by simpa using hi)
       simp only[List.getD_cons_succ]at this
       rw[show s+(i+1)=s+1+i by omega]at this
       exact this) (j - c.length) u hu
      rw[Nat.add_mul,Nat.one_mul]at this
      rw[show s*sz+j=s*sz+sz+(j - c.length)by have:=hc0.1;omega]
      exact this
   have:=hflat ((List.range len).map F) 0 (fun i hi=>by
    have hi':i<len:=by simpa using hi
    have e:((List.range len).map F).getD i []=F i:=by simp[List.getD,hi']
    rw[e,Nat.zero_add]
    exact hFl i hi') j u hu
   rw[Nat.zero_mul,Nat.zero_add,Addr.add_lit]at this
   exact this
def Arg(P:Program)(W:World)(m:Nat)(t:TypeId)(v:Value):Prop:=(∃base,Value.okWide P W .any base t v)∧Red P W m t v.cells.toList
open Go.WideShapes in
theorem Arg.slice{v:Value}(ht:P.underlying t=some (.slice e))(h:Arg P W m t v):∃a n cap,v=.slice a n cap∧Red P W m t [.slice a n cap]:=by
 obtain⟨⟨b,h1⟩,h2⟩:=h
 obtain⟨a,n,cap,rfl⟩:=okWide_slice ht h1
 exact⟨a,n,cap,rfl,by simpa [Value.cells] using h2⟩
end
theorem Red.pos{P:Program}{W:World}{m:Nat}{t:TypeId}{cs:List Value}(h:Red P W m t cs):1≤m:=by
 obtain⟨H,enc,fuel,d,ps,-,-,-,hb⟩:=h
 have:=jnN d
 omega
theorem jj4{P:Program}{W:World}{m:Nat}{t e:TypeId}{a:Option Addr}{n cap:Nat}(ht:P.underlying t=some (.slice e))(he:P.underlying e=some (.int .u8))(hc:P.cellsOf e=1)(hby:P.bytesOf e=1)
  (h:Red P W m t [.slice a n cap]):∃l:List UInt8,l.length=n∧Lies W (· < W.heap.size) a (l.map bv)∧cap≤140737488351232∧n≤cap∧n≤m:=by
 obtain⟨a',n',cap',css,ms,h1,h2,h3,h4,h5,-,h6,-,h7,h8⟩:=h.slice ht hc hby (by decide)
 simp only[List.cons.injEq,Value.slice.injEq,and_true]at h1
 obtain⟨rfl,rfl,rfl⟩:=h1
 have hone:∀c∈css,∃x:UInt8,c=[bv x]:=by
  intro c hc
  obtain⟨i,hi,rfl⟩:=List.mem_iff_getElem.1 hc
  obtain⟨-,h9⟩:=h7 i _ (ms[i]'(by omega)) (List.getElem?_eq_getElem hi) (List.getElem?_eq_getElem _)
  obtain⟨x,h10,h11⟩:=h9.int he
  have hb:=bounds_u8 h11
  refine⟨UInt8.ofNat x.toNat,?_⟩
  rw[h10];simp only[bv];congr 2;simp;omega
 have hl:∃l:List UInt8,css=l.map fun x=>[bv x]:=by
  clear h8 h7 h2
  induction css with
  | nil=>exact⟨[],rfl⟩
  | cons c css ih=>
   obtain⟨x,rfl⟩:=hone c (by simp)
   obtain⟨l,rfl⟩:=ih (fun c hc=>hone c (by simp[hc]))
   exact⟨x :: l,rfl⟩
 obtain⟨l,rfl⟩:=hl
 have hf:(l.map fun x=>[bv x]).flatten=l.map bv:=by
  clear h8 h7 h2 hone
  induction l with
  | nil=>rfl
  | cons x l ih=>simp[ih]
 rw[hf]at h8
 refine⟨l,by simpa using h2,h8,by simpa [reachBytes] using h6,h5,?_⟩
 have:ms.length≤ms.sum:=by
  have h9:∀k∈ms,1≤k:=by
   intro k hk
   obtain⟨i,hi,rfl⟩:=List.mem_iff_getElem.1 hk
   exact(h7 i _ _ (List.getElem?_eq_getElem (by omega)) (List.getElem?_eq_getElem hi)).2.pos
  clear h7 h4 h3
  induction ms with
  | nil=>simp
  | cons k ms ih=>have:=ih (fun k hk=>h9 k (by simp[hk]));have:=h9 k (by simp);simp only[List.length_cons,List.sum_cons];omega
 omega
/-! ### a number's bounds, kept from the walk -/
def jae(i:Int):Prop:=-9223372036854775808≤i∧i≤9223372036854775807
def jaw(i:Int):Prop:=0≤i∧i≤18446744073709551615
theorem jaO{i:Int}(h:(Lit.int .i64 i).wf=true):jae i:=bounds_i64 h
theorem jeS{i:Int}(h:(Lit.int .u64 i).wf=true):jaw i:=bounds_u64 h
end Go.Proofs.YtibaehlfpgipfaaGreat
