/- ROOT: what Load takes, in plain words. Printed by mac.py. -/
import Derived.Test.YtibaehlfpgipfaaGreatQZG46
import Derived.Test.YtibaehlfpgipfaaGreatQZRtL
import Derived.Test.YtibaehlfpgipfaaGreatQZG9
import Derived.Test.YtibaehlfpgipfaaGreatQZG5
namespace Go.Proofs.YtibaehlfpgipfaaGreat
open Go.RowKit
def M30:Nat:=1073741824
def catT(s:RdS):GCatalog×Int:=jcP jbk jc3 (ja4 M30 s).1
def jdC(i:Nat)(s:RdS):Prop:=(catT s).2≠0∨jc7 (catT s).1=false∨(catT s).1.fVersion≠(i:Int)
open Classical in
noncomputable def jbn:Nat→Nat→RdS→Option (List GCatalog×RdS)
 | 0,_,s=>some ([],s)
 | m+1,i,s=>if s.e≠0 then some ([],s) else if jdC i s then none else(jbn m (i+1) (ja4 M30 s).2).map (fun y=>((catT s).1 :: y.1,y.2))
def jbp(l:List (Int×Int))(p:Int):Option Int:=(l.find? (fun x=>x.1=p)).map (·.2)
def entT(s:RdS):Int:=((numS maxU s).1:Int)
def entN(s:RdS):Int:=((numS M30 (numS maxU s).2).1:Int)
def entS(s:RdS):RdS:=(numS M30 (numS maxU s).2).2
def jdh(bg:Int)(PL:List (Int×Int))(s:RdS):Prop:=entT s=0∨bg<entT s∨(0<entN s∧(jbp PL (entN s)).isSome=true)
def putP(PL:List (Int×Int))(s:RdS):List (Int×Int):=if 0<entN s then PL ++ [(entN s,entT s)] else PL
abbrev EntS:=(Int→Option Int)×List (Int×Int)×RdS
open Classical in
noncomputable def jbM(bg:Int):Nat→RdS→(Int→Option Int)→List (Int×Int)→Option EntS
 | 0,s,dec,PL=>some (dec,PL,s)
 | m+1,s,dec,PL=>if s.e≠0 then some (dec,PL,s) else if jdh bg PL s then none else jbM bg m (entS s) (updD dec (entT s) (entN s)) (putP PL s)
def ordL(PL:List (Int×Int))(k:Nat):List Int:=(List.range k).map (fun i:Nat=>(jbp PL ((i:Int)+1)).getD 0)
def allP(PL:List (Int×Int)):Prop:=∀i,i<PL.length→(jbp PL ((i:Int)+1)).isSome=true
open Classical in
noncomputable def stE(v:Int)(rt:GRoutes)(L:List GCatalog)(bg:Int)(x:EntS):Option RootS:=
 if allP x.2.1∧endS x.2.2=0∧bg≤1073741824 then some ⟨v,L,rt,bg,x.1,ordL x.2.1 x.2.1.length⟩ else none
noncomputable def stD(v:Int)(rt:GRoutes)(L:List GCatalog)(s:RdS):Option RootS:=
 match jbM (numS maxU s).1 (numS M30 (numS maxU s).2).1 (numS M30 (numS maxU s).2).2 (fun _=>none) []with
 | none=>none
 | some x=>stE v rt L (numS maxU s).1 x
noncomputable def stC(v:Int)(rt:GRoutes)(s:RdS):Option RootS:=
 match jbn (numS M30 s).1 0 (numS M30 s).2 with
 | none=>none
 | some y=>if y.1=[] then none else stD v rt y.1 y.2
noncomputable def stB(v:Int)(t:List UInt8)(s:RdS):Option RootS:=
 if(jcP jbE jc5 t).2≠0∨jcA (jcP jbE jc5 t).1.fRoutes=false∨v<1 then none else stC v (jcP jbE jc5 t).1.fRoutes s
noncomputable def jbr(l:List UInt8):Option RootS:=stB (numS 4 ⟨l,0,0,[]⟩).1 (ja4 M30 (numS 4 ⟨l,0,0,[]⟩).2).1 (ja4 M30 (numS 4 ⟨l,0,0,[]⟩).2).2
def jjl(l:List UInt8)(R:RootS):Prop:=jbr l=some R∧∃ys,Rise ys R.dec∧jbb R ys=l
theorem jmt{m i:Nat}{s:RdS}(h:s.e≠0):jbn m i s=some ([],s):=by
 cases m with
 | zero=>
  rfl
 | succ m=>
  unfold jbn;rw[if_pos h]
theorem jhZ{m i:Nat}{s:RdS}(h:s.e=0)(hb:jdC i s):jbn (m+1) i s=none:=by
 unfold jbn;rw[if_neg (by simp[h]),if_pos hb]
theorem jkW{m i:Nat}{s:RdS}(h:s.e=0)(hb:¬jdC i s):jbn (m+1) i s=(jbn m (i+1) (ja4 M30 s).2).map (fun y=>((catT s).1 :: y.1,y.2)):=by
 rw[jbn,if_neg (by simp[h]),if_neg hb]
theorem jiz{bg:Int}{m:Nat}{s:RdS}{dec:Int→Option Int}{PL:List (Int×Int)}(h:s.e≠0):jbM bg m s dec PL=some (dec,PL,s):=by
 cases m with
 | zero=>
  rfl
 | succ m=>
  unfold jbM;rw[if_pos h]
theorem jif{bg:Int}{m:Nat}{s:RdS}{dec:Int→Option Int}{PL:List (Int×Int)}(h:s.e=0)(hb:jdh bg PL s):jbM bg (m+1) s dec PL=none:=by
 unfold jbM;rw[if_neg (by simp[h]),if_pos hb]
theorem jig{bg:Int}{m:Nat}{s:RdS}{dec:Int→Option Int}{PL:List (Int×Int)}(h:s.e=0)(hb:¬jdh bg PL s):jbM bg (m+1) s dec PL=jbM bg m (entS s) (updD dec (entT s) (entN s)) (putP PL s):=by
 rw[jbM,if_neg (by simp[h]),if_neg hb]
end Go.Proofs.YtibaehlfpgipfaaGreat
