/- ROOT: what Save tells, Load takes: plain. Printed by mac.py. -/
import Derived.Test.YtibaehlfpgipfaaGreatQZG49
import Derived.Test.YtibaehlfpgipfaaGreatQZG50
import Derived.Test.YtibaehlfpgipfaaGreatQZG23
import Derived.Deep.Draws
import Derived.Deep.DeepCutAuto
import Derived.Deep.CutBlock
namespace Go.Proofs.YtibaehlfpgipfaaGreat
open Go.RowKit
structure Keeps(R:RootS)(m:Nat):Prop where
 rp:∀c∈R.cats,RightP c
 pr:ProgP R.routes m
 dk:DecOk R
 pos:∀t∈R.order,0<t
theorem Keeps.change{R:RootS}{m:Nat}(h:Keeps R m)(id:Int)(y:GCatalog×Int)(hy:RightP y.1):Keeps (jbs R id y).2 (m+1):=by
 unfold jbs
 split
 ·refine⟨fun c hc=>?_,h.pr.more (Nat.le_succ m),h.dk.same rfl rfl,h.pos⟩
  have hc':c∈R.cats ++ [y.1]:=hc
  rcases List.mem_append.1 hc' with hc | hc
  ·exact h.rp c hc
  ·have:c=y.1:=by simpa using hc
   rw[this];exact hy
 ·exact⟨h.rp,h.pr.more (Nat.le_succ m),h.dk,h.pos⟩
theorem Keeps.decide{R:RootS}{m:Nat}(h:Keeps R m)(t:Int)(b:Bool)(ht:0≤t):Keeps (jaB R t b).2.2 (m+1):=by
 have hd:=h.dk.decide t b
 unfold jaB at hd ⊢
 split
 ·exact⟨h.rp,h.pr.more (Nat.le_succ m),h.dk,h.pos⟩
 ·rename_i h0
  rw[if_neg h0]at hd
  split
  ·split
   ·exact⟨h.rp,h.pr.more (Nat.le_succ m),h.dk,h.pos⟩
   ·exact⟨h.rp,h.pr.more (Nat.le_succ m),h.dk,h.pos⟩
  ·rename_i hn
   rw[hn]at hd
   split
   ·rename_i hb
    simp only[hb,if_true]at hd
    refine⟨h.rp,h.pr.more (Nat.le_succ m),hd,fun t' ht'=>?_⟩
    have ht'':t'∈R.order ++ [t]:=ht'
    rcases List.mem_append.1 ht'' with h1 | h1
    ·exact h.pos t' h1
    ·have:t'=t:=by simpa using h1
     omega
   ·rename_i hb
    have hb:b=false:=by simpa using hb
    subst hb
    exact⟨h.rp,h.pr.more (Nat.le_succ m),hd,h.pos⟩
theorem Keeps.move{R:RootS}{m:Nat}(h:Keeps R m)(hm:m≤1000000)(k x:Int)(f:Bool)(l:List UInt8):Keeps (jbD R k x f l).2 (m+1):=by
 unfold jbD jh5
 split
 ·refine⟨h.rp,?_,h.dk.same rfl rfl,h.pos⟩
  show ProgP (jcG R k x f l).2.1 (m+1)
  unfold jcG
  repeat' split
  all_goals first | exact h.pr.more (Nat.le_succ m) | exact h.pr.cut hm _ _ | exact h.pr.still hm | exact h.pr.moved hm _
 ·exact⟨h.rp,h.pr.more (Nat.le_succ m),h.dk,h.pos⟩
theorem Keeps.run{R:RootS}{m:Nat}(h:Keeps R m)(hm:m≤1000000)(he:R.cats≠[])(c:GCommand)(hc:0≤c.fTxn):Keeps (runF R c).2 (m+1):=by
 have hl:=h.rp _ (ji6 he)
 have h1:Keeps R (m+1):=⟨h.rp,h.pr.more (Nat.le_succ m),h.dk,h.pos⟩
 unfold runF
 split
 ·exact⟨h1.rp,h1.pr,h1.dk.same rfl rfl,h1.pos⟩
 split
 ·exact h.decide _ _ hc
 split
 ·exact h.decide _ _ hc
 split
 ·exact h.change _ _ (jhX hl _)
 split
 ·exact h.change _ _ (jhW hl _ _)
 split
 ·exact h.change _ _ (jl5 hl _)
 split
 ·exact h.change _ _ (jmb hl _ _ _ _)
 split
 ·exact h.move hm _ _ _ _
 split
 ·exact h1
 ·exact h1
theorem jix:∀(L:List GCatalog) (i:Nat) (s:RdS) (t:List UInt8),s.e=0→(∀c∈L,jd7 c∧(jaq c).length≤100000∧RightP c)→(∀(j:Nat) (c:GCatalog),L[j]?=some c→c.fVersion=((i+j:Nat):Int))→s.B.drop s.pos=jcw L ++ t→
  ∃q,jbn L.length i s=some (L,{s with pos:=q})∧s.B.drop q=t
 | [],i,s,t,_,_,_,h=>⟨s.pos,rfl,by simpa [jcw] using h⟩
 | c :: L,i,s,t,he,hc,hv,h=>by
  obtain⟨o1,o2,o3⟩:=hc c (by simp)
  have h0:s.B.drop s.pos=jas (jaq c) ++ (jcw L ++ t):=by rw[h];simp[jcw]
  have e1:=jhR (m:=M30) he (by unfold M30;omega) (by omega) h0
  have d1:s.B.drop (s.pos+(jas (jaq c)).length)=jcw L ++ t:=by rw[←List.drop_drop,h0,List.drop_left]
  have hct:catT s=(c,0):=by unfold catT;rw[e1];exact good_GCatalog.take_back _ c o1
  obtain⟨q,i1,i2⟩:=jix L (i+1) {s with pos:=s.pos+(jas (jaq c)).length} t he (fun d hd=>hc d (by simp[hd])) (fun j d hd=>by rw[hv (j+1) d (by simpa using hd)];congr 1;omega) d1
  refine⟨q,?_,i2⟩
  rw[List.length_cons,jkW he,hct,e1,i1]
  ·rfl
  ·unfold jdC
   rw[hct]
   rintro(h | h | h)
   ·exact h rfl
   ·rw[rightB_iff.2 o3]at h;cases h
   ·exact h (by have:=hv 0 c rfl;simpa using this)
def plOf(dec:Int→Option Int)(ys:List Int):List (Int×Int):=(ys.filter (fun k=>decide (0<decO (dec k)))).map (fun k=>(decO (dec k),k))
theorem jmS(dec:Int→Option Int)(y:Int)(ys:List Int):plOf dec (y :: ys)=(if 0<decO (dec y) then[(decO (dec y),y)] else[]) ++ plOf dec ys:=by
 unfold plOf
 by_cases h:0<decO (dec y)
 ·simp[h]
 ·simp[h]
theorem jl6{PL:List (Int×Int)}{p:Int}(h:∀x∈PL,x.1≠p):jbp PL p=none:=by
 unfold jbp
 have:PL.find? (fun x=>decide (x.1=p))=none:=List.find?_eq_none.2 (fun x hx=>by simpa using h x hx)
 rw[this];rfl
theorem jiy(bg:Int)(dec:Int→Option Int)(hinj:∀j k,0<decO (dec j)→decO (dec j)=decO (dec k)→j=k)(h30:∀k,0≤decO (dec k)∧decO (dec k)≤1073741824):∀(ys:List Int) (s:RdS) (d0:Int→Option Int) (PL:List (Int×Int)) (t:List UInt8),
  s.e=0→ys.Pairwise (· < ·)→(∀y∈ys,jaw y∧y≠0∧y≤bg)→(∀x∈PL,∃k,k∉ys∧0<decO (dec k)∧x.1=decO (dec k))→s.B.drop s.pos=decB dec ys ++ t→
  ∃q d1,jbM bg ys.length s d0 PL=some (d1,PL ++ plOf dec ys,{s with pos:=q})∧s.B.drop q=t∧∀k,d1 k=if k∈ys then some (decO (dec k)) else d0 k
 | [],s,d0,PL,t,_,_,_,_,h=>⟨s.pos,d0,by simp[jbM,plOf],by simpa [decB] using h,fun k=>by simp⟩
 | y :: ys,s,d0,PL,t,he,hp,hy,hP,h=>by
  obtain⟨u1,u2,u3⟩:=hy y (by simp)
  obtain⟨hp1,hp2⟩:=List.pairwise_cons.1 hp
  obtain⟨n0,n30⟩:=h30 y
  have h0:s.B.drop s.pos=numB y.toNat ++ (numB (decO (dec y)).toNat ++ (decB dec ys ++ t)):=by rw[h];simp[decB]
  have e1:=jb7 (m:=maxU) he (by unfold maxU;have:=u1.2;omega) (by have:=u1.2;omega) h0
  have d1:s.B.drop (s.pos+(numB y.toNat).length)=numB (decO (dec y)).toNat ++ (decB dec ys ++ t):=by rw[←List.drop_drop,h0,List.drop_left]
  have e2:=jb7 (m:=M30) (s:={s with pos:=s.pos+(numB y.toNat).length}) he (by unfold M30;omega) (by omega) d1
  have d2:s.B.drop (s.pos+(numB y.toNat).length+(numB (decO (dec y)).toNat).length)=decB dec ys ++ t:=by rw[←List.drop_drop,d1,List.drop_left]
  have hT:entT s=y:=by unfold entT;rw[e1];have:=u1.1;simp only;omega
  have hN:entN s=decO (dec y):=by unfold entN;rw[e1];simp only;rw[e2];simp only;omega
  have hS:entS s={s with pos:=s.pos+(numB y.toNat).length+(numB (decO (dec y)).toNat).length}:=by unfold entS;rw[e1];simp only;rw[e2]
  have hfree:0<decO (dec y)→jbp PL (decO (dec y))=none:=fun hpos=>jl6 (fun x hx e=>by
   obtain⟨k,k1,k2,k3⟩:=hP x hx
   rw[k3]at e
   exact k1 (by rw[hinj k y k2 e];simp))
  have hbad:¬jdh bg PL s:=by
   unfold jdh
   rw[hT,hN]
   rintro(h | h | ⟨h,h'⟩)
   ·exact u2 h
   ·omega
   ·rw[hfree h]at h';cases h'
  obtain⟨q,dx,i1,i2,i3⟩:=jiy bg dec hinj h30 ys (entS s) (updD d0 y (decO (dec y))) (putP PL s) t (by rw[hS];exact he) hp2 (fun z hz=>hy z (by simp[hz])) (fun x hx=>by
   unfold putP at hx
   rw[hN,hT]at hx
   split at hx
   ·rename_i hpos
    rcases List.mem_append.1 hx with hx | hx
    ·obtain⟨k,k1,k2,k3⟩:=hP x hx
     exact⟨k,fun hm=>k1 (by simp[hm]),k2,k3⟩
    ·have:x=(decO (dec y),y):=by simpa using hx
     exact⟨y,fun hm=>by have:=hp1 y hm;omega,hpos,by rw[this]⟩
   ·obtain⟨k,k1,k2,k3⟩:=hP x hx
    exact⟨k,fun hm=>k1 (by simp[hm]),k2,k3⟩) (by rw[hS];exact d2)
  refine⟨q,dx,?_,?_,fun k=>?_⟩
  ·rw[List.length_cons,jig he hbad,hT,hN,i1,jmS]
   have hput:putP PL s=PL ++ (if 0<decO (dec y) then[(decO (dec y),y)] else[]):=by
    unfold putP
    rw[hN,hT]
    split
    ·rfl
    ·rw[List.append_nil]
   rw[hput,List.append_assoc,hS]
  ·rw[hS]at i2;exact i2
  ·rw[i3 k]
   by_cases hk:k∈ys
   ·rw[if_pos hk,if_pos (by simp[hk])]
   ·rw[if_neg hk]
    unfold updD
    by_cases hky:k=y
    ·subst hky;simp
    ·rw[if_neg hky,if_neg (by simp[hky,hk])]
theorem jpk{R:RootS}(h:DecOk R):∀j k,0<decO (R.dec j)→decO (R.dec j)=decO (R.dec k)→j=k:=fun j k h0 e=>by
 have key:∀i,0<decO (R.dec i)→∃n:Nat,decO (R.dec i)=(n:Int)+1∧R.order[n]?=some i:=fun i hi=>by
  cases hd:R.dec i with
  | none=>rw[hd]at hi;exact absurd hi (by decide)
  | some p=>
   rw[hd]at hi
   have hi:0<p:=hi
   rcases h.dec i p hd with h1 | ⟨n,h1,h2⟩
   ·omega
   ·exact⟨n,h1,h2⟩
 obtain⟨n,a1,a2⟩:=key j h0
 obtain⟨n',b1,b2⟩:=key k (by rw[←e];exact h0)
 obtain rfl:n=n':=by omega
 rw[a2]at b2
 exact Option.some.inj b2
theorem jl7{PL:List (Int×Int)}{p:Int}(h:∃x∈PL,x.1=p):(jbp PL p).isSome=true:=by
 obtain⟨x,hx,e⟩:=h
 unfold jbp
 cases hf:PL.find? (fun x=>decide (x.1=p))with
 | none=>
  exact absurd (List.find?_eq_none.1 hf x hx) (by simp[e])
 | some y=>
  rfl
theorem je1{l a b:List UInt8}{n:Nat}(h:l.drop n=a ++ b):l.drop (n+a.length)=b:=by rw[←List.drop_drop,h,List.drop_left]
theorem jnj{R R':RootS}{ys:List Int}(h1:R'.spare.toNat=R.spare.toNat)(h2:R'.cats=R.cats)(h3:R'.routes=R.routes)(h4:R'.begun.toNat=R.begun.toNat)(h5:decB R'.dec ys=decB R.dec ys):jbb R' ys=jbb R ys:=by
 unfold jbb midB jcR;rw[h1,h2,h3,h4,h5]
theorem jky{d d':Int→Option Int}{ys:List Int}(h:∀k∈ys,d' k=some (decO (d k))):decB d' ys=decB d ys:=by
 unfold decB
 congr 1
 refine List.map_congr_left (fun k hk=>?_)
 rw[h k hk]
 exact congrArg (fun x:Int=>numB k.toNat ++ numB x.toNat) (show decO (some (decO (d k)))=decO (d k) from rfl)
theorem jmI{R:RootS}{m:Nat}(K:Keeps R m)(hs:1≤R.spare∧R.spare≤4)(ok:RootOk R)(okc:∀c∈R.cats,jd7 c)(okr:je3 R.routes)(F:FitR R)(dom:∀t p,R.dec t=some p→t≠0∧t≤R.begun)(hb:R.begun≤1073741824)(hC:R.cats.length≤5000){ys:List Int}(hy:Rise ys R.dec)(hyl:ys.length≤1000000) :
  (∃R',jjl (jbb R ys) R')∧∀R',jbr (jbb R ys)=some R'→R'.cats.length≤5000∧R'.order.length≤100000:=by
 obtain⟨l,hl⟩:∃l,l=jbb R ys:=⟨_,rfl⟩
 rw[←hl]
 have hlen:=jid F.rts K.pr.rt.len
 have hl0:l.drop 0=numB R.spare.toNat ++ (jas (ja5 (repR R.routes)) ++ (numB R.cats.length ++ (jcw R.cats ++ (numB R.begun.toNat ++ (numB ys.length ++ (decB R.dec ys ++ [])))))):=by
  rw[hl];simp[jbb,midB,jcR]
 have u64:=ok.u64
 have hbz:=u64.1
 have e1:=jb7 (m:=4) (s:=⟨l,0,0,[]⟩) rfl (by omega) (by omega) hl0
 have d1:=je1 hl0
 have e2:=jhR (m:=M30) (s:=⟨l,0+(numB R.spare.toNat).length,0,[]⟩) rfl (by unfold M30;omega) (by omega) d1
 have d2:=je1 d1
 have z64:jae 0:=⟨by decide,by decide⟩
 have hok:jjU (repR R.routes):=⟨⟨⟨⟨⟨⟨⟨z64,zU64⟩,z64⟩,trivial⟩,Nat.zero_le _,fun x hx=>by cases hx⟩,Nat.zero_le _,fun x hx=>by cases hx⟩,⟨⟨⟨z64,z64⟩,Nat.zero_le _,fun x hx=>by cases hx⟩,Nat.zero_le _,fun x hx=>by cases hx⟩⟩,okr⟩
 have e3:jcP jbE jc5 (ja5 (repR R.routes))=(repR R.routes,0):=good_GReply.take_back _ _ hok
 have e4:=jb7 (m:=M30) (s:=⟨l,0+(numB R.spare.toNat).length+(jas (ja5 (repR R.routes))).length,0,[]⟩) rfl (by unfold M30;omega) (by omega) d2
 have d4:=je1 d2
 obtain⟨q5,e5,d5⟩:=jix R.cats 0 ⟨l,0+(numB R.spare.toNat).length+(jas (ja5 (repR R.routes))).length+(numB R.cats.length).length,0,[]⟩ _ rfl (fun c hc=>⟨okc c hc,jlf (F.cats c hc),K.rp c hc⟩) (fun j c hc=>by rw[Nat.zero_add];exact ok.ver j c hc) d4
 have e6:=jb7 (m:=maxU) (s:=⟨l,q5,0,[]⟩) rfl (by unfold maxU;omega) (by omega) d5
 have d6:=je1 d5
 have e7:=jb7 (m:=M30) (s:=⟨l,q5+(numB R.begun.toNat).length,0,[]⟩) rfl (by unfold M30;omega) (by omega) d6
 have d7:=je1 d6
 have hinj:=jpk K.dk
 have hdO:∀k,0≤decO (R.dec k)∧decO (R.dec k)≤(R.order.length:Int):=fun k=>by
  cases hd:R.dec k with
  | none=>exact⟨by decide,by show(0:Int)≤_;omega⟩
  | some p=>exact ok.place k p hd
 have hol:=ok.len.2
 obtain⟨q8,dx,e8,d8,hdx⟩:=jiy (R.begun.toNat:Int) R.dec hinj (fun k=>by have:=hdO k;omega) ys ⟨l,q5+(numB R.begun.toNat).length+(numB ys.length).length,0,[]⟩ (fun _=>none) [] [] rfl hy.rise (fun y hym=>by
  obtain⟨h1,h2⟩:=(hy.mem y).1 hym
  obtain⟨p,hp⟩:=Option.isSome_iff_exists.1 h2
  have:=dom y p hp
  exact⟨h1,this.1,by omega⟩) (fun x hx=>by cases hx) d7
 rw[List.nil_append]at e8
 have hkeys:(plOf R.dec ys).length≤R.order.length:=by
  have hk:((plOf R.dec ys).map (·.1)).Nodup:=by
   unfold plOf
   rw[List.map_map,List.nodup_iff_pairwise_ne,List.pairwise_map]
   refine(hy.rise.filter _).imp_of_mem (fun {a b} ha hb hlt e=>?_)
   have ha':=(List.mem_filter.1 ha).2
   have:=hinj a b (of_decide_eq_true ha') e
   omega
  have:=jf9 R.order.length 0 _ hk (fun x hx=>by
   obtain⟨z,hz,rfl⟩:=List.mem_map.1 hx
   unfold plOf at hz
   obtain⟨k,hk,rfl⟩:=List.mem_map.1 hz
   have h1:=of_decide_eq_true (List.mem_filter.1 hk).2
   have h2:=hdO k
   exact⟨h1,by omega⟩)
  simpa using this
 have hall:allP (plOf R.dec ys):=fun i hi=>by
  have hi':i<R.order.length:=by omega
  have ht:=K.dk.ord i _ (List.getElem?_eq_getElem hi')
  have hpos:=K.pos _ (List.getElem_mem hi')
  have hd:=dom _ _ ht
  have hm:R.order[i]∈ys:=(hy.mem _).2 ⟨⟨by omega,by omega⟩,by rw[ht];rfl⟩
  refine jl7 ⟨((i:Int)+1,R.order[i]),?_,rfl⟩
  unfold plOf
  refine List.mem_map.2 ⟨R.order[i],List.mem_filter.2 ⟨hm,?_⟩,?_⟩
  ·rw[ht];exact decide_eq_true (by show 0<(i:Int)+1;omega)
  ·rw[ht];rfl
 have hend:endS ⟨l,q8,0,[]⟩=0:=by
  have h1:l.drop q8=[]:=d8
  have h2:=List.drop_eq_nil_iff.1 h1
  unfold endS
  simp only
  rw[if_neg (by simp),if_neg (by omega)]
 have hF:jbr l=some ⟨(R.spare.toNat:Int),R.cats,R.routes,(R.begun.toNat:Int),dx,ordL (plOf R.dec ys) (plOf R.dec ys).length⟩:=by
  unfold jbr
  rw[e1];simp only
  rw[e2];simp only
  unfold stB
  rw[e3,if_neg (by
   rintro(h | h | h)
   ·exact h rfl
   ·have h':jcA R.routes=false:=h
    rw[K.pr.prog]at h';cases h'
   ·omega)]
  unfold stC
  rw[e4];simp only
  rw[e5];simp only
  rw[if_neg ok.ex]
  unfold stD
  rw[e6];simp only
  rw[e7];simp only
  rw[e8];simp only
  unfold stE
  rw[if_pos ⟨hall,hend,by omega⟩]
  rfl
 refine⟨⟨_,hF,ys,⟨hy.rise,fun k=>?_⟩,?_⟩,fun R' h=>?_⟩
 ·show k∈ys↔jaw k∧(dx k).isSome=true
  rw[hdx k]
  constructor
  ·intro hk
   rw[if_pos hk]
   exact⟨((hy.mem k).1 hk).1,rfl⟩
  ·rintro⟨-,h2⟩
   by_cases hk:k∈ys
   ·exact hk
   ·rw[if_neg hk]at h2;cases h2
 ·rw[hl]
  refine jnj rfl rfl rfl rfl (jky (fun k hk=>?_))
  exact(hdx k).trans (if_pos hk)
 ·rw[hF]at h
  cases h
  exact⟨hC,by show(ordL (plOf R.dec ys) (plOf R.dec ys).length).length≤_;rw[show(ordL (plOf R.dec ys) (plOf R.dec ys).length).length=(plOf R.dec ys).length by simp[ordL]];omega⟩
theorem jnv:(jcP jbk jc3 []).2≠0:=by decide
theorem jnw{m:Nat}{s:RdS}(h:(ja4 m s).2.e≠0):(ja4 m s).1=[]:=by
 unfold ja4 at *
 split
 ·rfl
 ·rename_i h1
  rw[if_neg h1]at h
  split
  ·rfl
  ·rename_i h2
   rw[if_neg h2]at h
   split
   ·rfl
   ·rename_i h3
    rw[if_neg h3]at h
    exact absurd (by simpa using h1) h
theorem jj6:∀(m i:Nat) (s:RdS) (y:List GCatalog×RdS),s.pos≤s.B.length→jbn m i s=some y→y.1.length+s.pos≤s.B.length∧y.2.pos≤s.B.length
 | 0,_,s,y,hp,h=>by simp only[jbn,Option.some.injEq]at h;rw[←h];simpa using hp
 | m+1,i,s,y,hp,h=>by
  rw[jbn]at h
  split at h
  ·simp only[Option.some.injEq]at h;rw[←h];simpa using hp
  ·rename_i he
   have he:s.e=0:=by simpa using he
   split at h
   ·cases h
   ·rename_i hb
    obtain⟨z,h1,h2⟩:=Option.map_eq_some_iff.1 h
    have h3:(ja4 M30 s).2.e=0:=Classical.byContradiction fun h3=>hb (.inl (by unfold catT;rw[jnw h3];exact jnv))
    obtain⟨f1,f2,f3,f4⟩:=jhS he h3 hp
    have h5:=congrArg List.length f2
    simp only[List.length_drop,List.length_append,jas]at h5
    have h6:=(jaP (ja4 M30 s).1.length).2
    have h7:=jj6 m (i+1) _ z (by rw[jf6];exact f4) h1
    rw[jf6]at h7
    rw[←h2]
    simp only[List.length_cons]
    exact⟨by omega,h7.2⟩
theorem jjJ(bg:Int):∀(m:Nat) (s:RdS) (dec:Int→Option Int) (PL:List (Int×Int)) (x:EntS),s.pos≤s.B.length→jbM bg m s dec PL=some x→x.2.1.length+s.pos≤PL.length+s.B.length+1
 | 0,s,dec,PL,x,hp,h=>by simp only[jbM,Option.some.injEq]at h;rw[←h];simp only;omega
 | m+1,s,dec,PL,x,hp,h=>by
  rw[jbM]at h
  split at h
  ·simp only[Option.some.injEq]at h;rw[←h];simp only;omega
  ·split at h
   ·cases h
   ·obtain⟨a1,a2,a3⟩:=jlh hp
    have hput:(putP PL s).length≤PL.length+1:=by
     unfold putP;split
     ·simp
     ·omega
    by_cases he:(entS s).e=0
    ·have:=a3 he
     have h7:=jjJ bg m (entS s) _ _ x (by rw[jjI];exact a2) h
     rw[jjI]at h7
     omega
    ·rw[jiz he]at h
     simp only[Option.some.injEq]at h
     rw[←h]
     simp only
     omega
theorem jkN{m:Nat}{s:RdS}(hp:s.pos≤s.B.length):(ja4 m s).2.pos≤s.B.length:=by
 by_cases h:(ja4 m s).2.e=0
 ·by_cases he:s.e=0
  ·exact(jhS he h hp).2.2.2
  ·rw[jgR he];exact hp
 ·unfold ja4 at *
  split
  ·exact hp
  ·split
   ·exact(jdP hp).2.1
   ·split
    ·exact hp
    ·rename_i h1 h2 h3
     rw[if_neg h1,if_neg h2,if_neg h3]at h
     exact absurd (by simpa using h1) h
theorem joi{l:List UInt8}{R:RootS}(hl:l.length≤3000)(h:jbr l=some R):R.cats.length≤5000∧R.order.length≤100000:=by
 unfold jbr stB at h
 have hB1:(numS 4 ⟨l,0,0,[]⟩).2.B=l:=jcT 4 _
 have hp1:(numS 4 ⟨l,0,0,[]⟩).2.pos≤l.length:=(jdP (s:=⟨l,0,0,[]⟩) (Nat.zero_le _)).2.1
 generalize numS 4 ⟨l,0,0,[]⟩=y0 at *
 have hB2:(ja4 M30 y0.2).2.B=l:=(jf6 _ _).trans hB1
 have hp2:(ja4 M30 y0.2).2.pos≤l.length:=by have:=jkN (m:=M30) (s:=y0.2) (by rw[hB1];exact hp1);rw[hB1]at this;exact this
 generalize ja4 M30 y0.2=y1 at *
 generalize jcP jbE jc5 y1.1=y2 at *
 split at h
 ·cases h
 unfold stC at h
 have hB3:(numS M30 y1.2).2.B=l:=(jcT _ _).trans hB2
 have hp3:(numS M30 y1.2).2.pos≤l.length:=by have:=(jdP (m:=M30) (s:=y1.2) (by rw[hB2];exact hp2)).2.1;rw[hB2]at this;exact this
 generalize numS M30 y1.2=y3 at *
 split at h
 ·cases h
 rename_i y hy
 split at h
 ·cases h
 have hB4:y.2.B=l:=(jj5 _ _ _ _ hy).trans hB3
 have hcl:=jj6 _ _ _ _ (by rw[hB3];exact hp3) hy
 rw[hB3]at hcl
 unfold stD at h
 have hB5:(numS maxU y.2).2.B=l:=(jcT _ _).trans hB4
 have hp5:(numS maxU y.2).2.pos≤l.length:=by have:=(jdP (m:=maxU) (s:=y.2) (by rw[hB4];exact hcl.2)).2.1;rw[hB4]at this;exact this
 generalize numS maxU y.2=y4 at *
 have hB6:(numS M30 y4.2).2.B=l:=(jcT _ _).trans hB5
 have hp6:(numS M30 y4.2).2.pos≤l.length:=by have:=(jdP (m:=M30) (s:=y4.2) (by rw[hB5];exact hp5)).2.1;rw[hB5]at this;exact this
 generalize numS M30 y4.2=y5 at *
 split at h
 ·cases h
 rename_i x hx
 unfold stE at h
 split at h
 ·simp only[Option.some.injEq]at h
  subst h
  have hel:=jjJ _ _ _ _ _ _ (by rw[hB6];exact hp6) hx
  rw[hB6]at hel
  simp only[List.length_nil]at hel
  refine⟨by show y.1.length≤_;omega,?_⟩
  show(ordL x.2.1 x.2.1.length).length≤_
  rw[show(ordL x.2.1 x.2.1.length).length=x.2.1.length by simp[ordL]]
  omega
 ·cases h
theorem jeg{α:Type}{R:RD α}{w:World}{p:Nat→Prop}{c:List Value}{l:List α}(h:jap R w p c l):∀x∈l,∃d,R w p d x:=by
 obtain⟨a,cap,css,-,hn,-,-,-,hr⟩:=h
 intro x hx
 obtain⟨i,hi,rfl⟩:=List.getElem_of_mem hx
 exact⟨css[i]'(by omega),hr i _ _ (List.getElem?_eq_getElem _) (List.getElem?_eq_getElem _)⟩
theorem jdi{w:World}{p:Nat→Prop}{c:List Value}{x:Int}(h:rInt .i64 w p c x):jae x:=jaO h.2
theorem jlk{w:World}{p:Nat→Prop}{c:List Value}{l:List Int}(h:jap (rInt .i64) w p c l):∀x∈l,jae x:=fun x hx=>by
 obtain⟨d,hd⟩:=jeg h x hx
 exact jdi hd
theorem joI{w:World}{p:Nat→Prop}{c:List Value}{t:GTable}(h:jaG w p c t)(f:FitT t):jhd t:=by
 obtain⟨c0,c1,c2,c3,-,h0,h1,h2,h3⟩:=h
 obtain⟨f1,f2,f3,f4⟩:=f
 refine⟨⟨⟨jdi h0,by unfold okT;omega⟩,by omega,fun d hd=>?_⟩,by omega,jlk h3⟩
 obtain⟨e,he⟩:=jeg h2 d hd
 obtain⟨d0,d1,d2,-,g0,g1,g2⟩:=he
 exact⟨⟨by have:=f3 d hd;unfold okT;omega,jdi g1⟩,trivial⟩
theorem jof{w:World}{p:Nat→Prop}{c:List Value}{x:GIndex}(h:jaZ w p c x)(f:FitX x):jhc x:=by
 obtain⟨c0,c1,c2,c3,c4,c5,c6,-,h0,h1,h2,h3,h4,h5,h6⟩:=h
 obtain⟨f1,f2⟩:=f
 exact⟨⟨⟨⟨⟨⟨jdi h0,jdi h1⟩,by unfold okT;omega⟩,by omega,jlk h3⟩,trivial⟩,jdi h5⟩,trivial⟩
theorem jl1{w:World}{p:Nat→Prop}{c:List Value}{x:GCatalog}(h:jat w p c x)(f:FitC x):jd7 x:=by
 obtain⟨c0,c1,c2,c3,-,h0,h1,h2,h3⟩:=h
 obtain⟨f1,f2,f3,f4⟩:=f
 refine⟨⟨⟨jdi h0,jdi h1⟩,by omega,fun t ht=>?_⟩,by omega,fun y hy=>?_⟩
 ·obtain⟨e,he⟩:=jeg h2 t ht
  exact joI he (f3 t ht)
 ·obtain⟨e,he⟩:=jeg h3 y hy
  exact jof he (f4 y hy)
theorem jng{w:World}{p:Nat→Prop}{c:List Value}{r:GRoutes}(h:jaz w p c r)(f:FitG r)(hl:r.fSpans.length≤30):je3 r:=by
 obtain⟨c0,c1,c2,c3,c4,-,h0,h1,h2,h3,h4⟩:=h
 refine⟨⟨⟨⟨jdi h0,jdi h1⟩,by omega,fun o ho=>?_⟩,jdi h3⟩,by have:=f.2;unfold okT;omega⟩
 obtain⟨e,he⟩:=jeg h2 o ho
 obtain⟨d0,d1,-,g0,g1⟩:=he
 exact⟨jdi g0,by have:=f.1 o ho;unfold okT;omega⟩
theorem jo1{w:World}{O:Nat→Prop}{g n:Nat}{R:RootS}(h:IsRoot w O g n R)(F:FitR R):(∀c∈R.cats,jd7 c)∧je3 R.routes:=by
 obtain⟨-,-,ok,bM,aC,cC,aO,cO,aS,cS,aU,cU,cssC,D,B⟩:=h
 refine⟨fun c hc=>?_,jng B.rts F.rts ok.spans⟩
 obtain⟨i,hi,rfl⟩:=List.getElem_of_mem hc
 have hl:=B.els.1
 exact jl1 (B.els.2 i (cssC[i]'(by omega)) _ (List.getElem?_eq_getElem _) (List.getElem?_eq_getElem hi)) (F.cats _ (List.getElem_mem hi))
theorem jm0{c:GCatalog}(h:FitC c):(jaq c).length≤30000:=by
 have h1:=jdY c
 have h2:c.size≤3000:=by
  have ht:jbF GTable.size c.fTables≤c.fTables.length*300+1:=jdl _ 300 _ (fun t ht=>by
   obtain⟨q1,q2,q3,q4⟩:=h.2.2.1 t ht
   have hc:jbF GColumn.size t.fColumns≤t.fColumns.length*40+1:=jdl _ 40 _ (fun d hd=>by
    have:=q3 d hd
    simp only[GColumn.size]
    omega)
   have hk:=jdl (fun _:Int=>1) 1 t.fKey (fun _ _=>Nat.le_refl _)
   simp only[GTable.size]
   omega)
  have hx:jbF GIndex.size c.fIndexes≤c.fIndexes.length*60+1:=jdl _ 60 _ (fun x hx=>by
   obtain⟨q1,q2⟩:=h.2.2.2 x hx
   have hk:=jdl (fun _:Int=>1) 1 x.fColumns (fun _ _=>Nat.le_refl _)
   simp only[GIndex.size]
   omega)
  have h3:=h.1
  have h4:=h.2.1
  simp only[GCatalog.size]
  omega
 omega
theorem jhp:∀(l:List GCatalog),(∀c∈l,FitC c)→(jcw l).length≤l.length*30010
 | [],_=>Nat.le_refl _
 | c :: l,h=>by
  have h1:=jhp l (fun d hd=>h d (by simp[hd]))
  have h2:=jfc (jaq c)
  have h3:=jm0 (h c (by simp))
  simp only[jcw,List.map_cons,List.flatten_cons,List.length_append]at h1 ⊢
  rw[List.length_cons,Nat.succ_mul]
  omega
theorem jni{R:RootS}{ys:List Int}(F:FitR R)(h4:R.routes.fSpans.length≤4)(hC:R.cats.length≤22)(hy:ys.length≤100):(jbb R ys).length≤900000:=by
 have h1:=(jaP R.spare.toNat).1
 have h2:=jfc (ja5 (repR R.routes))
 have h3:=jid F.rts h4
 have h5:=(jaP R.cats.length).1
 have h6:=jhp R.cats F.cats
 have h7:=(jaP R.begun.toNat).1
 have h8:=(jaP ys.length).1
 have h9:=jgZ R.dec ys
 simp only[jbb,midB,jcR,List.length_append]
 omega
theorem cmd_at{w:World}{p:Nat→Prop}{cs:List Value}{x:GCommand}(h:jdb w p cs x):cs[0]?=some (.int .i64 x.fKind)∧cs[2]?=some (.int .u64 x.fTxn)∧cs[3]?=some (.int .i64 x.fN)∧cs[6]?=some (.bool x.fFlag)∧jaw x.fTxn:=by
  obtain⟨_,_,_,_,_,_,_,_,_,_,_,_,_,_,_,_,_,_,rfl,-,-,u,-⟩:=jen h
  exact⟨rfl,rfl,rfl,rfl,u⟩
theorem op_cmd{w:World}{p:Nat→Prop}{cs:List Value}{x:GOp}(h:rGOp w p cs x):∃c0:List Value,jdb w p c0 x.fC∧∀(j:Nat) (u:Value),c0[j]?=some u→cs[j]?=some u:=by
  obtain⟨c0,c1,c2,rfl,h0,-,-⟩:=h
  refine⟨c0,h0,fun j u hu=>?_⟩
  have hj:=(List.getElem?_eq_some_iff.1 hu).1
  simp only[List.flatten_cons,List.flatten_nil,List.append_nil]
  rw[List.getElem?_append_left hj]
  exact hu
theorem jnn{c:GCommand}(h:jeq c=true):c.fIndex.fColumns.length≤1000:=by
  unfold jeq at h
  simp only[Bool.and_eq_true,decide_eq_true_eq]at h
  omega
theorem jkL(s:Int)(r:GRoutes)(h:RtOk r):Small 0 (jbT s r):=⟨Nat.le_refl _,Nat.le_refl _,Int.le_refl _,h,fun t p hp=>by cases hp⟩
theorem jkl(b:Int)(hb:1≤b∧b≤4):RtOk ⟨0,b,[⟨b+1,[120]⟩],0,[]⟩:=
  ⟨hb, by simp, fun o ho => by have : o = ⟨b + 1, [120]⟩ := by simpa using ho
                               subst this;exact⟨by show b<b+1;omega,by show b+1≤b+4;omega⟩,fun h=>absurd rfl h⟩
section
theorem jk2(R:RootS)(c:GCommand):(runF R c).2.spare=R.spare:=by
 have hd:∀(t:Int) (b:Bool),(jaB R t b).2.2.spare=R.spare:=fun t b=>by
  unfold jaB
  repeat' split
  all_goals rfl
 unfold runF
 repeat' split
 all_goals first | rfl | exact hd _ _ | (unfold jbs;split <;> rfl) | (unfold jbD jh5;split <;> rfl)
structure LSta(W w:World)(O:Nat→Prop)(g m:Nat)(R:RootS)(k:Nat):Prop where
 a:IsAt W w O g m R
 s:Small m R
 f:FitR R
 sp:R.spare=2
 kp:Keeps R m
 mk1:m≤k
theorem LSta.nix{W w w':World}{O:Nat→Prop}{g m:Nat}{R:RootS}{k:Nat}(h:LSta W w O g m R k)(kq:Keep Nix w w'):LSta W w' O g m R k:=⟨h.a.nix kq,h.s,h.f,h.sp,h.kp,h.mk1⟩
theorem LSta.more{W w:World}{O:Nat→Prop}{g m:Nat}{R:RootS}{k k':Nat}(h:LSta W w O g m R k)(hk:k≤k'):LSta W w O g m R k':=⟨h.a,h.s,h.f,h.sp,h.kp,Nat.le_trans h.mk1 hk⟩
theorem LSta.save{W w:World}{O:Nat→Prop}{g m:Nat}{R:RootS}{k:Nat}(h:LSta W w O g m R k)(hk:k≤21):SaveOk R m:=⟨h.f,⟨by rw[h.sp];decide,by rw[h.sp];decide⟩,h.s.rt.len,by have:=h.s.cats;have:=h.mk1;omega,by have:=h.mk1;omega⟩
def je5:RootS:=jbT 2 ⟨0,2,[⟨2+1,[120]⟩],0,[]⟩
theorem jma:FitR je5:=by
 refine⟨fun c hc=>?_,fun o ho=>?_,Nat.zero_le _⟩
 ·have:c=cat1:=by simpa [je5,jbT] using hc
  subst this
  exact⟨Nat.zero_le _,Nat.zero_le _,(fun t ht=>by cases ht),(fun t ht=>by cases ht)⟩
 ·have:o=⟨2+1,[120]⟩:=by simpa [je5,jbT] using ho
  subst this
  exact(by decide:[(120:UInt8)].length≤600)
theorem jkk:Keeps je5 0:=by
 refine⟨fun c hc=>?_,⟨⟨Int.le_refl _,Int.le_refl _⟩,jkl 2 ⟨by decide,by decide⟩,rfl,List.pairwise_singleton _ _,fun o ho=>?_,rfl⟩,jnr _ _,fun t h=>by cases h⟩
 ·have:c=cat1:=by simpa [je5,jbT] using hc
  subst this
  exact rightB_iff.1 (by decide)
 ·have:o=⟨2+1,[120]⟩:=by simpa [je5,jbT] using ho
  subst this
  exact⟨by decide,by decide⟩
section
attribute [local go_sem ↓] jgG
set_option maxRecDepth 100000 in
set_option maxHeartbeats 16000000 in
theorem jlF(W:World)(a0:Option Addr)(cap:Nat)(ls:List GOp)(HX:jap rGOp W (· < W.heap.size) [.slice a0 ls.length cap] ls)(ab:Option Addr)(cb:Nat)(lb:List UInt8)(hA:Lies W (· < W.heap.size) ab (lb.map bv))(hlb:lb.length≤140737488355328) :
  Calls Tryz.prog 4 #[.slice a0 ls.length cap,.slice ab lb.length cb] W fun e w'=>e=.returned (.bool true)∧Keep Nix W w':=by
 have HN:=Lib.hid (jiJ 2 2 W ⟨by decide,by decide⟩ ⟨by decide,by decide⟩)
 have hcap2:ls.length≤140737488351232:=(ja0 HX).2.2
 replace HX:=Lib.hid HX
 have HA:=Lib.hid hA
 clear hA
 go_enter Tryz.func4,Tryz.ntmps4
 go_wp2_with fail
 go_fit HN.out
 rintro e w1 ⟨g,O,rfl,H1,hO1,k1⟩
 clear HN
 have N1:LSta W w1 O g 0 je5 0:=⟨⟨H1,hO1,k1⟩,jkL _ _ (jkl 2 ⟨by decide,by decide⟩),jma,rfl,jkk,Nat.le_refl _⟩
 clear H1 hO1 k1
 have N1:=Lib.hid N1
 generalize je5=R0 at *
 go_wp2_with fail
 go_fit (jiI w1)
 rintro e w2 ⟨rfl,k2⟩
 have N2:=Lib.hid (N1.out.nix k2)
 clear N1 k2
 by_cases hb3:lb.length≤3000
 ·have tb1:¬(3000:Int)<(lb.length:Int):=by omega
  have tb2:decide ((lb.length:Int)>3000)=false:=decide_eq_false (by omega)
  go_wp2_with fail
  go_loopw [7] (fun i wr=>∃(k m:Nat) (O:Nat→Prop) (R:RootS),i=.int .i64 (k:Int)∧k≤ls.length∧k≤20∧LSta W wr O g m R k) (fun i _=>ls.length - (intOf i).toNat)
  case atStart=>exact⟨0,0,O,R0,rfl,Nat.zero_le _,Nat.zero_le _,N2.out⟩
  case round=>
   clear N2
   obtain⟨k,m,O,R,rfl,hk,hk60,NS⟩:=hrel
   have N:=Lib.hid NS
   clear NS
   by_cases hlt:k<ls.length
   focus
    by_cases h60:k<20
    ·have hi0:(0:Int)≤(k:Int):=by omega
     have hi1:(k:Int)<(ls.length:Int):=by omega
     have hi2:(k:Int)<20:=by omega
     have hwk:IntKind.i64.wrap ((k:Int)+1)=(k:Int)+1:=by rw[IntKind.wrap_i64];omega
     obtain⟨b,o,cc,cs,e1,hbW,hb',rOp,hcl⟩:=jaY jk8 (by decide) HX.out k hlt
     simp only[List.cons.injEq,Value.slice.injEq,and_true]at e1
     obtain⟨rfl,-,-⟩:=e1
     obtain⟨x,hxk⟩:∃x,Hid (ls[k].fC=x):=⟨ls[k].fC,rfl⟩
     obtain⟨c0,rC,hcs⟩:=op_cmd rOp
     rw[hxk.out]at rC
     have hl0:=rGCommand_lawful.len rC
     obtain⟨-,-,-,-,du⟩:=cmd_at rC
     have HWC:Hid (∀w',Keep Nix W w'→(ja1 43 (.pointer (some ⟨b,o+k*27,none⟩))).run Tryz.prog w'=.ok (.value (.agg c0.toArray)) w'):=fun w' k'=>Whole.at jfZ hl0 (fun i u hu=>(k'.cell (p:=⟨b,_,none⟩) hb' id).trans (hcl i u (hcs i u hu)))
     have RC:=Lib.hid rC
     have HC:=Lib.hid (jlZ x c0 wr (rGCommand_lawful.nix rC N.out.a.kept))
     have hWc:=HWC.out wr N.out.a.kept
     obtain⟨sx,HSX⟩:∃y,Hid (jeq x=y):=⟨_,rfl⟩
     rw[HSX.out]at HC
     clear rC hcl hcs rOp hl0
     go_wp2_with fail
     clear hWc
     go_fit HC.out
     rintro e w3 ⟨rfl,k3⟩
     have N3:=Lib.hid (N.out.nix k3)
     clear HC k3 N
     cases sx with
     | false=>
      go_wp2_with fail
      go_roundw
      case rel=>exact⟨k+1,m,O,R,by go_num,by omega,by omega,N3.out.more (Nat.le_succ _)⟩
      case measure=>simp[intOf];omega
     | true=>
      have hWc:=HWC.out w3 N3.out.a.kept
      have HC:=jp8 O g m R x c0 w3 N3.out.a.is N3.out.s (by have:=N3.out.mk1;omega) (by have:=N3.out.mk1;omega) (rGCommand_lawful.nix RC.out N3.out.a.kept) (fun b hb=>Nat.lt_of_lt_of_le hb N3.out.a.kept.size) (jnn HSX.out)
      have HFT:=Lib.hid (N3.out.f.run N3.out.a.is.ok.ex x)
      have HSP:=Lib.hid ((jk2 R x).trans N3.out.sp)
      have HSM:=Lib.hid (N3.out.s.run x)
      have HKP:=Lib.hid (N3.out.kp.run (by have:=N3.out.mk1;omega) N3.out.a.is.ok.ex x du.1)
      obtain⟨Y,hY⟩:∃Y,Hid (runF R x=Y):=⟨_,rfl⟩
      rw[hY.out]at HC HFT HSP HSM HKP
      replace HC:=Lib.hid HC
      clear hY
      go_wp2_with fail
      clear hWc
      go_fit HC.out
      rintro e w5 hpost
      obtain⟨cs5,O5,rfl,hr5,A5,k5,ho5⟩:=N3.out.a.run hpost
      have hmk:=N3.out.mk1
      have N5:Hid (LSta W w5 O5 g (m+1) Y.2 (k+1)):=⟨A5,HSM.out,HFT.out,HSP.out,HKP.out,by omega⟩
      clear hpost hr5 k5 ho5 A5 N3 HC HFT HSP HSM HKP
      go_wp2_with fail
      go_roundw
      case rel=>exact⟨k+1,m+1,O5,Y.2,by go_num,by omega,by omega,N5.out⟩
      case measure=>simp[intOf];omega
    have hi1:(k:Int)<(ls.length:Int):=by omega
    have hi2:¬(k:Int)<20:=by omega
    refine ?h1a
   rotate_left
   focus
    have hi1:¬(k:Int)<(ls.length:Int):=by omega
    refine ?h1b
   rotate_left
   case h1a | h1b=>
    have N:=Lib.hid (N.out)
    have hok:=jo1 N.out.a.is N.out.f
    have hmk:=N.out.mk1
    have HC:=Lib.hid (jf2 O g m R wr N.out.a.is (N.out.save (by omega)))
    have HLS:Hid (∀ys:List Int,Rise ys R.dec→ys.length≤m→((∃R',jjl (jbb R ys) R')∧∀R',jbr (jbb R ys)=some R'→R'.cats.length≤5000∧R'.order.length≤100000)∧(jbb R ys).length≤900000):=fun ys hy hyl=>⟨jmI N.out.kp (N.out.save (by omega)).sp N.out.a.is.ok hok.1 hok.2 N.out.f N.out.s.dom (by have:=N.out.s.beg;omega) (by have:=N.out.s.cats;omega) hy (by omega),jni N.out.f N.out.s.rt.len (by have:=N.out.s.cats;omega) (by omega)⟩
    clear hok
    go_wp2_with fail
    go_fit HC.out
    rintro e w8 ⟨ys,a8,c8,hR8,hyl8,rfl,own8,k8⟩
    obtain⟨hT8,hlen8⟩:=HLS.out ys hR8 hyl8
    have N8:=Lib.hid (N.out.nix k8)
    have OW8:=Lib.hid own8
    have HR8:=Lib.hid hR8
    have HO8:Hid (∀b,OwnB (.slice a8 (jbb R ys).length c8) b→b<w8.heap.size):=fun b hb=>(own8.lt b hb).2
    have HT8:=Lib.hid hT8
    have hs8:=k8.size
    have HOW:Hid (∀i,O i→i<wr.heap.size):=N.out.a.is.lt
    have HB:=Lib.hid (HA.out.keep N8.out.a.kept (fun _ _ h=>h))
    have HL:=Lib.hid (jmH O g m R ab lb.length cb lb w8 N8.out.a.is rfl HB.out (by omega) (fun R' h=>joi hb3 h))
    clear own8 hR8 k8 HC N HLS hT8
    go_wp2_with fail
    go_fit HL.out
    rintro e w9 hpost
    clear HL
    rcases hpost with⟨rfl,-,k9⟩ | ⟨R1,O1,n1,rfl,hT1,hI1,hS1,ho1,k9⟩
    ·have N9:=Lib.hid (N8.out.nix k9)
     have OW9:=Lib.hid (jad OW8.out k9 (fun _ _ h=>h))
     have HC:=Lib.hid (jf2 O g m R w9 N9.out.a.is (N9.out.save (by omega)))
     clear N8 OW8 k9 HB
     go_wp2_with fail
     go_fit HC.out
     rintro e w10 ⟨ys2,a10,c10,hR10,-,rfl,own10,k10⟩
     obtain rfl:=hR10.uniq HR8.out
     have HQ:=jhY a10 a8 (jbb R ys2).length c10 (jbb R ys2).length c8 (jbb R ys2) (jbb R ys2) w10 rfl rfl (Lies.of_owned own10) ((Lies.of_owned OW9.out).keep k10 (fun _ _ h=>h))
     rw[show decide (jbb R ys2=jbb R ys2)=true from decide_eq_true rfl]at HQ
     have HQ:=Lib.hid HQ
     have K10:=Lib.hid (N9.out.a.kept.trans k10)
     clear N9 OW9 HC hR10 own10 k10
     go_wp2_with fail
     go_fit HQ.out
     rintro e w11 ⟨rfl,rfl⟩
     go_wp2_with fail
     go_ret
     exact⟨rfl,K10.out⟩
    ·obtain⟨-,ys1,hR1,hE1⟩:=hT1
     have hz9:=k9.size
     have K9:=Lib.hid (N8.out.a.kept.then k9 (fun i hi h=>by have:=N8.out.a.new i h;omega))
     have I9:=Lib.hid hI1
     have S9:=Lib.hid hS1
     have R9:=Lib.hid hR1
     have E9:=Lib.hid hE1
     have OW9:=Lib.hid (jad OW8.out k9 (fun b hb h=>by have:=(OW8.out.lt b hb).1;have:=HOW.out b h;omega))
     have HC:=Lib.hid (jf2 O1 g n1 R1 w9 hI1 hS1)
     have HO1:Hid (∀b,O1 b→(O b∨w8.heap.size≤b)∧b<w9.heap.size):=fun b hb=>⟨ho1 b hb,hI1.lt b hb⟩
     have HNW:Hid (∀b,O b→W.heap.size≤b):=N8.out.a.new
     have hW8:=N8.out.a.kept.size
     clear hR1 hE1 k9 hI1 hS1 ho1 OW8 N8
     go_wp2_with fail
     go_fit HC.out
     rintro e w10 ⟨ys3,a10,c10,hR10,-,rfl,own10,k10⟩
     obtain rfl:=hR10.uniq R9.out
     have HQ:=jhY a10 ab (jbb R1 ys3).length c10 lb.length cb (jbb R1 ys3) lb w10 rfl rfl (Lies.of_owned own10) (HA.out.keep (K9.out.trans k10) (fun _ _ h=>h))
     rw[show decide (jbb R1 ys3=lb)=true from decide_eq_true E9.out]at HQ
     have HQ:=Lib.hid HQ
     have K10:=Lib.hid (K9.out.trans k10)
     have I10:=Lib.hid (I9.out.nix k10)
     have OW10:=Lib.hid (jad OW9.out k10 (fun _ _ h=>h))
     have hz10:=k10.size
     have HL:=Lib.hid (jmH O1 g n1 R1 a8 (jbb R ys).length c8 (jbb R ys) w10 I10.out rfl (Lies.of_owned OW10.out) hlen8 HT8.out.2)
     clear HC hR10 own10 k10 K9 I9 OW9 R9 E9 S9
     go_wp2_with fail
     go_fit HQ.out
     rintro e w11 ⟨rfl,rfl⟩
     clear HQ
     go_wp2_with fail
     go_fit HL.out
     rintro e w12 hpost
     clear HL
     rcases hpost with⟨rfl,hno,-⟩ | ⟨R2,O2,n2,rfl,hT2,hI2,hS2,ho2,k12⟩
     ·obtain⟨R',hR'⟩:=HT8.out.1
      exact absurd hR' (hno R')
     ·obtain⟨-,ys2,hR2,hE2⟩:=hT2
      have K12:=Lib.hid (K10.out.then k12 (fun i hi h=>by
       rcases(HO1.out i h).1 with h | h
       ·have:=HNW.out i h;omega
       ·omega))
      have OW12:=Lib.hid (jad OW10.out k12 (fun b hb h=>by
       have h1:=OW10.out.lt b hb
       have h2:=HO8.out b hb
       rcases(HO1.out b h).1 with h | h
       ·have:=HOW.out b h;omega
       ·omega))
      have HC:=Lib.hid (jf2 O2 g n2 R2 w12 hI2 hS2)
      clear k12 hS2 ho2 OW10 K10 I10 HT8
      go_wp2_with fail
      go_fit HC.out
      rintro e w13 ⟨ys4,a13,c13,hR13,-,rfl,own13,k13⟩
      obtain rfl:=hR13.uniq hR2
      have HQ:=jhY a13 a8 (jbb R2 ys4).length c13 (jbb R ys).length c8 (jbb R2 ys4) (jbb R ys) w13 rfl rfl (Lies.of_owned own13) ((Lies.of_owned OW12.out).keep k13 (fun _ _ h=>h))
      rw[show decide (jbb R2 ys4=jbb R ys)=true from decide_eq_true hE2]at HQ
      have HQ:=Lib.hid HQ
      have K13:=Lib.hid (K12.out.trans k13)
      clear HC hR13 own13 k13 K12 OW12 hI2 hR2 hE2
      go_wp2_with fail
      go_fit HQ.out
      rintro e w14 ⟨rfl,rfl⟩
      go_wp2_with fail
      go_ret
      exact⟨rfl,K13.out⟩
 ·have tb1:(3000:Int)<(lb.length:Int):=by omega
  have tb2:decide ((lb.length:Int)>3000)=true:=decide_eq_true (by omega)
  go_wp2_with fail
  go_fit (jiI w2)
  rintro e w3 ⟨rfl,k3⟩
  go_wp2_with fail
  go_ret
  exact⟨rfl,N2.out.a.kept.trans k3⟩
end
end
end Go.Proofs.YtibaehlfpgipfaaGreat
