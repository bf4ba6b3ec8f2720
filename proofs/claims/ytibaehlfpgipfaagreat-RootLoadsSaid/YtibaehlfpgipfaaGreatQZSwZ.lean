/- SORT at uint64, of any length: the parts (Sw*, turned by gensort64.py) put together; over a row of one's own. Printed by mac.py. -/
import Derived.Test.YtibaehlfpgipfaaGreatQZG26
import Derived.Test.YtibaehlfpgipfaaGreatQZSw13
import Derived.Test.YtibaehlfpgipfaaGreatQZSw11
import Derived.Test.YtibaehlfpgipfaaGreatQZSwC4
import Derived.Test.YtibaehlfpgipfaaGreatQZSw7
import Derived.Test.YtibaehlfpgipfaaGreatQZSwB3
import Derived.Sort.AssemblyPlain
namespace Go.Proofs.YtibaehlfpgipfaaGreat
open Go.RowKit Go.Sort
theorem jkn:Callees13 where
 ins:=jfP
 brk:=jfO
 piv:=jgq
 par:=je4
 peq:=jer
 prt:=jfg
theorem jmc:Plain13 where
 swo:=swo_ltInt
 ins:=insertionSort_holds
 par:=partialInsertionSort_holds
 prt:=partition_holds _
 peq:=partitionEqual_holds _
 pdq:=pdq_sorts _
theorem sw_pdq:jgJ:=fun blk off cap a b limit d w hH hb hab hbd hsz hl hB=>
 jiq jkn jmc (b - a+1) blk off cap a b limit d w (by omega) hH hb hab hbd hsz hl hB
theorem jpF(blk off cap:Nat)(zs:List Int)(w:World)(hH:Holds (Value.int .u64) w blk off zs.toArray)(hblk:blk<w.heap.size)(hsz:zs.length<4611686018427387904) :
  Calls Tryz.prog 74 #[.slice (some ⟨blk,off,none⟩) zs.length cap] w fun e w'=>
   e=.returned (.tuple #[])∧∃n os,w'=grow (putRow (Value.int .u64) (Sort.ahead w n) blk off (zs.mergeSort fun x y=>decide (x≤y)).toArray) os:=by
 have h:=jkK sw_pdq blk off cap zs.toArray w hH hblk (by simpa using hsz)
 rw[show Sort.sort ltInt zs.toArray=(zs.mergeSort fun x y=>decide (x≤y)).toArray from by rw[←sortInt zs]]at h
 simpa using h
theorem joH{w:World}{g:Nat}{e:TypeId}{ss:List Int}{rest:List Value}(row:RowIs w g e (ss.map iv ++ rest)):Holds (Value.int .u64) w g 0 ss.toArray:=fun j hj=>by
 have hj':j<ss.length:=by simpa using hj
 refine⟨?_,row.frozen _⟩
 rw[Nat.zero_add,row.cell,List.getElem?_append_left (by simpa using hj')]
 simp[iv,hj']
theorem sw_row{w:World}{g n:Nat}{e:TypeId}{os:Array Obj}{ss ts:List Int}{rest:List Value}(row:RowIs w g e (ss.map iv ++ rest))(hl:ts.length=ss.length) :
  RowIs (grow (putRow (Value.int .u64) (Sort.ahead w n) g 0 ts.toArray) os) g e (ts.map iv ++ rest):=by
 have hg:g<w.heap.size:=row.lt
 unfold RowIs
 rw[heap_grow_old _ _ (by simpa using hg)]
 have hb:w.heap[g]?=some (.cells (ss.map iv ++ rest).toArray e (0,0)):=row
 have h1:(putRow (Value.int .u64) (Sort.ahead w n) g 0 ts.toArray).heap[g]?=some (.cells (putCells (Value.int .u64) 0 ts.toArray (ss.map iv ++ rest).toArray) e (0,0)):=by
  simp[putRow,mapBlock,Sort.ahead,Array.getElem?_modify,hb,onCells]
 rw[h1]
 congr 2
 apply Array.ext_getElem?
 intro j
 by_cases hj:j<ts.length
 ·have:j<(ss.map iv ++ rest).length:=by simp;omega
  simp[putCells,hj,iv,List.getElem?_append,show j<ss.length by omega]
 ·by_cases hj2:j<(ss.map iv ++ rest).length
  ·simp only[putCells,List.getElem?_toArray,List.mapIdx_toArray,List.getElem?_mapIdx]
   rw[List.getElem?_append_right (by simp;omega),List.getElem?_append_right (by simp;omega)]
   simp[hl,show ¬j<ss.length by omega]
  ·simp only[putCells,List.getElem?_toArray,List.mapIdx_toArray,List.getElem?_mapIdx]
   rw[List.getElem?_eq_none (by simp at hj2 ⊢;omega),List.getElem?_eq_none (by simp at hj2 ⊢;omega)]
   rfl
theorem jpE{w:World}{g n:Nat}{os:Array Obj}(d:Array Int):Keep (·=g) w (grow (putRow (Value.int .u64) (Sort.ahead w n) g 0 d) os):=
 ⟨rfl,rfl,rfl,by simp,fun k hk hne=>by
  rw[heap_grow_old _ _ (by simpa using hk)]
  simp[putRow,mapBlock,Sort.ahead,Array.getElem?_modify,show ¬g=k from fun e=>hne e.symm]⟩
theorem jpG{ys:List Int}(h:ys.Pairwise (·≤·)):UpTo ys.length ys:=fun p q hpq hq=>by
 rw[jhv (by omega),jhv hq]
 exact(List.pairwise_iff_getElem.1 h) p q (by omega) hq hpq
theorem jno{base:Nat}(a:Option Addr)(n cap:Nat)(xs:List Int)(w:World)(own:w.ownsRow base 28 1 (.slice a n cap) n (xs.map iv))(hn:n≤1000000) :
  Calls Tryz.prog 74 #[.slice a n cap] w fun e w'=>e=.returned (.tuple #[])∧∃ys,w'.ownsRow base 28 1 (.slice a n cap) n (ys.map iv)∧ys.Perm xs∧UpTo n ys∧Keep (OwnB (.slice a n cap)) w w':=by
 by_cases h12:n≤12
 ·exact sort_c a n cap xs w own h12
 ·have hl:xs.length=n:=by have:=own.1;simpa using this
  obtain⟨b,rest,rfl,hb,row,hlr,hlx,hc,hm⟩:=jg7 own (by omega)
  have hbig:xs.length<4611686018427387904:=by rw[hl];omega
  have HS:=jpF b 0 cap xs w (joH row) row.lt hbig
  rw[hl]at HS
  refine HS.mono ?_
  rintro e w' ⟨rfl,m,os,rfl⟩
  obtain⟨ys,hy⟩:∃ys,ys=xs.mergeSort fun x y=>decide (x≤y):=⟨_,rfl⟩
  rw[←hy]
  have hp:ys.Perm xs:=by rw[hy];exact List.mergeSort_perm _ _
  have hs:ys.Pairwise (·≤·):=by
   have:=List.pairwise_mergeSort (le:=fun x y:Int=>decide (x≤y)) (fun a b c h1 h2=>by simp at h1 h2 ⊢;omega) (fun a b=>by simp;omega) xs
   rw[hy]
   exact this.imp (fun h=>by simpa using h)
  have hly:ys.length=xs.length:=hp.length_eq
  have hu:=jpG hs
  rw[hly,hl]at hu
  exact⟨rfl,ys,jd9 (sw_row row hly) hb (by rw[←hlr];simp[hly]) (by simp[hly,hl]) hc hm,hp,hu,(jpE _).mono (fun i hi=>by rw[hi];rfl)⟩
end Go.Proofs.YtibaehlfpgipfaaGreat
