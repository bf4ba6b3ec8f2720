/- SORTED KEYS: slices.AppendSeq, Collect, Sorted over maps.Keys; Txns. Printed by mac.py. -/
import Derived.Test.YtibaehlfpgipfaaGreatQZG13
import Derived.Test.YtibaehlfpgipfaaGreatQZRkI
import Derived.Test.YtibaehlfpgipfaaGreatQZSwZ
import Derived.Test.YtibaehlfpgipfaaGreatQZFen
import Derived.Deep.DeepCutAuto
import Derived.Deep.CutBlock
namespace Go.Proofs.YtibaehlfpgipfaaGreat
open Go.RowKit Go.Shelf
set_option maxRecDepth 100000
set_option maxHeartbeats 2000000
theorem jkv{P:Program}{f:FuncId}{fn:Func}{c:Code}{args:Array Value}{w:World}{R:Ending→World→Prop}(hf:P.funcs[f]?=some fn)(hb:fn.body=some c)
  (h:c.wp P (bodyPostM Fence.wide 4 P fn R) {tmps:=args ++ Array.replicate (fn.ntmps - args.size) undef,defers:=[]} w):Calls P f args w R:=
 (callsIn_wide (n:=4)).1 (callsIn_of_wp_marks hf hb trivial (wpIn_wide.2 h) rfl)
theorem T_lU:SliceT Tryz.prog 46 28 1 8:=SliceT.mk' Tryz.underlying46 (z:=.int .u64 0) (by kernel_rfl) rfl (by decide)
theorem jnH(c bM n:Nat)(S:List Int→Prop)(w:World)(ht:jfz 75 #[.pointer (some ⟨c,0,none⟩)] S n bM w)(hbM:bM<w.heap.size)(hn:n≤1000000) :
  Calls Tryz.prog 120 #[.slice none 0 0,.func (.func 75) #[] #[.pointer (some ⟨c,0,none⟩)]] w fun e w'=>∃(ss:List Int) (a:Option Addr) (cp:Nat),e=.returned (.slice a ss.length cp)∧S ss∧ss.length≤n∧w'.ownsRow w.heap.size 28 1 (.slice a ss.length cp) ss.length (ss.map iv)∧Keep Nix w w':=by
 refine jkv Tryz.func120 rfl ?_
 simp only[Tryz.ntmps120,List.size_toArray,List.length_cons,List.length_nil,Nat.reduceAdd,Nat.reduceSub,Array.replicate_succ,Array.replicate_zero,List.push_toArray,List.append_toArray,List.nil_append,List.cons_append]
 have kA:Keep Nix w (w.alloc (.cells #[.slice none 0 0] 46)):=(Keep.refl Nix w).alloc _
 have rowX:RowIs (w.alloc (.cells #[.slice none 0 0] 46)) w.heap.size 46 [.slice none 0 0]:=RowIs.alloc w _ _
 have hsz:Hid (((w.alloc (.cells #[.slice none 0 0] 46))).heap.size=w.heap.size+1):=by show _=_;simp
 have HTW:jfz 75 #[.pointer (some ⟨c,0,none⟩)] S n bM (w.alloc (.cells #[.slice none 0 0] 46)):=fun l J W hW=>ht l J W (kA.trans hW)
 have hbA:bM<((w.alloc (.cells #[.slice none 0 0] 46))).heap.size:=Nat.lt_of_lt_of_le hbM kA.size
 go_wp2_with fail
 generalize (w.alloc (.cells #[.slice none 0 0] 46))=w1 at *
 have hcx:w.heap.size<w1.heap.size:=rowX.lt
 refine jkb (S:=S) (N:=n) (bM:=bM) rfl (enters_of Tryz.func75 (by kernel_rfl) rfl) HTW hbA
  (fun ss W=>ss.length≤n∧∃(a:Option Addr) (cp:Nat),RowIs W w.heap.size 46 [.slice a ss.length cp]∧W.ownsRow (w1.heap.size+3) 28 1 (.slice a ss.length cp) ss.length (ss.map iv)∧Keep (·=w.heap.size) w1 W) ?hI ⟨Nat.zero_le _,none,0,rowX,World.ownsRow_nil _ _ _ _,Keep.refl _ _⟩ ?round ?done
 case hI=>
  rintro ss A B ⟨hln,a,cp,row,own,kx⟩ k
  have hbk:∀b,jlx w1.heap.size b→w1.heap.size≤b∧b<w1.heap.size+3:=fun b hb=>by rcases hb with h | h | h <;> omega
  exact⟨hln,a,cp,row.keep k (fun h=>by have:=hbk _ h;omega),jad own k (fun b hb h=>by have:=hbk b h;have:=(own.lt b hb).1;omega),kx.then k (fun i hi h=>by have:=hbk i h;omega)⟩
 case done=>
  rintro ss W hS ⟨hln,a,cp,row,own,kx⟩ hD
  have x0:=row.cell 0
  (try simp only[List.getElem?_cons_zero]at x0)
  go_wp2_with fail
  have kD:=Keep.put W w1.heap.size (.deferred none)
  refine⟨by simp,.inl ⟨_,_,rfl,run_takeDeferred hD,?_⟩⟩
  refine⟨_,results_tmp rfl _ _ _,?_⟩
  have hw:=hsz.out
  exact⟨ss,a,cp,rfl,hS,hln,jot (jad own kD (fun b hb e=>by have:=(own.lt b hb).1;omega)) (by omega),(kA.then kx (fun i hi e=>by omega)).then kD (fun i hi e=>by omega)⟩
 case round=>
  rintro ss k W ⟨-,a,cp,row,own,kx⟩ hk hlen hszW
  refine jiG (by kernel_rfl) (by exact fun _ _ h=>h) ?_
  go_wp2_with fail
  refine⟨Keep.refl _ _,fun W2 k2 hs2=>?_⟩
  have row2:=row.keep k2 (by omega)
  have own2:=jad own k2 (fun b hb e=>by have:=(own.lt b hb).1;omega)
  have kx2:=kx.then k2 (fun i hi e=>by omega)
  have y0:=row2.cell 0
  (try simp only[List.getElem?_cons_zero]at y0)
  have HR2:=Lib.hid row2
  have HKX:=Lib.hid kx2
  have hsz2:w1.heap.size+3≤W2.heap.size:=by omega
  clear row own kx k2 row2 kx2 hs2 hszW
  refine wpIn_block (jiG (by kernel_rfl) (by exact fun _ _ h=>h) ?_)
  go_wp2_with (at_builtin;refine jbi (c:=1) T_lU ?hgd (.tmp 8) (.tmp 10) ?ho (w1.heap.size+3) ?hs own2 ?hx ?c0 ?c1 ?c2 ?c3 ?c4 ?_)
  case hgd=>rfl
  case ho=>rfl
  case hs=>rfl
  case hx=>rfl
  case c0=>rfl
  case c1=>simp[Value.oneCell']
  case c2=>unfold maxLen;omega
  case c3=>omega
  case c4=>omega
  intro a' cap' w6 own6 k6 jax
  have hge:∀b,OwnB (.slice a ss.length cp) b→w1.heap.size+3≤b:=fun b hb=>(own2.lt b hb).1
  have row6:=HR2.out.keep k6 (fun h=>by have:=hge _ h;omega)
  have s0:=row6.cell 0
  have sf:=row6.frozen 0
  (try simp only[List.getElem?_cons_zero]at s0)
  have hF6:Keep (jly w1.heap.size bM) W2 w6:=k6.mono (fun b hb=>by have:=hge b hb;exact⟨by omega,by omega,by omega,by omega⟩)
  have kx6:=HKX.out.then k6 (fun i hi h=>by have:=hge i h;omega)
  have HR6:=Lib.hid row6
  have HO6:=Lib.hid own6
  clear y0 own2 own6 row6 k6
  go_wp2_with fail
  have kS:Keep (·=w.heap.size) w6 (w6.setCell ⟨w.heap.size,0,none⟩ (.slice a' (ss.length+1) cap')):=(Keep.refl (·=w.heap.size) w6).setCell (p:=⟨w.heap.size,0,none⟩) (fun _=>rfl) _
  refine⟨hF6.trans (kS.mono (fun b hb=>⟨by omega,by omega,by omega,by omega⟩)),by(first | omega | (simp;omega)),a',cap',?_,?_,kx6.trans kS⟩
  ·exact HR6.out.set 0 (.slice a' (ss.length+1) cap')
  ·exact jad HO6.out kS (fun b hb e=>by
    rcases jax b hb with h | h
    ·have:=hge b h;omega
    ·omega)
theorem jmv(c bM n:Nat)(S:List Int→Prop)(w:World)(ht:jfz 75 #[.pointer (some ⟨c,0,none⟩)] S n bM w)(hbM:bM<w.heap.size)(hn:n≤1000000) :
  Calls Tryz.prog 73 #[.func (.func 75) #[] #[.pointer (some ⟨c,0,none⟩)]] w fun e w'=>∃(ss:List Int) (a:Option Addr) (cp:Nat),e=.returned (.slice a ss.length cp)∧S ss∧ss.length≤n∧w'.ownsRow w.heap.size 28 1 (.slice a ss.length cp) ss.length (ss.map iv)∧Keep Nix w w':=by
 have HA:=jnH c bM n S w ht hbM hn
 go_enter Tryz.func73,Tryz.ntmps73
 go_wp2_with fail
 go_fit HA
 rintro e w1 ⟨ss,a,cp,rfl,hS,hln,own,k1⟩
 go_wp2_with fail
 go_ret
 exact⟨ss,a,cp,rfl,hS,hln,own,k1⟩
theorem jo9(c bM n:Nat)(S:List Int→Prop)(w:World)(ht:jfz 75 #[.pointer (some ⟨c,0,none⟩)] S n bM w)(hbM:bM<w.heap.size)(hn:n≤1000000) :
  Calls Tryz.prog 32 #[.func (.func 75) #[] #[.pointer (some ⟨c,0,none⟩)]] w fun e w'=>∃(ys ss:List Int) (a:Option Addr) (cp:Nat),e=.returned (.slice a ys.length cp)∧S ss∧ss.length≤n∧ys.Perm ss∧UpTo ys.length ys∧w'.ownsRow w.heap.size 28 1 (.slice a ys.length cp) ys.length (ys.map iv)∧Keep Nix w w':=by
 have HC:=jmv c bM n S w ht hbM hn
 go_enter Tryz.func32,Tryz.ntmps32
 go_wp2_with fail
 go_fit HC
 rintro e w1 ⟨ss,a,cp,rfl,hS,hln,own,k1⟩
 have HS:=jno a ss.length cp ss w1 own (by omega)
 have hge:∀b,OwnB (.slice a ss.length cp) b→w.heap.size≤b:=fun b hb=>(own.lt b hb).1
 go_wp2_with fail
 go_fit HS
 rintro e w2 ⟨rfl,ys,own2,hp,hu,k2⟩
 have hl:ss.length=ys.length:=hp.length_eq.symm
 have HL:=Lib.hid hl
 clear hl HS own
 go_wp2_with fail
 go_ret
 refine⟨ys,ss,a,cp,by rw[←HL.out];rfl,hS,hln,hp,by rw[←HL.out];exact hu,by rw[←HL.out];exact own2,k1.then k2 (fun i hi h=>by have:=hge i h;omega)⟩
theorem keys_c(bM:Nat)(w:World):Calls Tryz.prog 33 #[.map (some bM)] w fun e w'=>e=.returned (.func (.func 75) #[] #[.pointer (some ⟨w.heap.size,0,none⟩)])∧w'=w.alloc (.cells #[.map (some bM)] 77):=by
 go_enter Tryz.func33,Tryz.ntmps33
 go_wp2_with fail
 go_ret
 exact⟨rfl,rfl⟩
theorem jiH:∀ {a b:List Int},a.Pairwise (· < ·)→b.Pairwise (· < ·)→(∀k,k∈a↔k∈b)→a=b
 | [],[],_,_,_=>rfl
 | [],y :: b,_,_,h=>by have:=(h y).2 (by simp);cases this
 | x :: a,[],_,_,h=>by have:=(h x).1 (by simp);cases this
 | x :: a,y :: b,ha,hb,h=>by
  obtain⟨a1,a2⟩:=List.pairwise_cons.1 ha
  obtain⟨b1,b2⟩:=List.pairwise_cons.1 hb
  have hxy:x=y:=by
   rcases List.mem_cons.1 ((h x).1 (by simp))with e | e
   ·exact e
   ·rcases List.mem_cons.1 ((h y).2 (by simp))with e2 | e2
    ·exact e2.symm
    ·have:=b1 x e;have:=a1 y e2;omega
  subst hxy
  rw[jiH a2 b2 (fun k=>?_)]
  constructor
  ·intro hk
   rcases List.mem_cons.1 ((h k).1 (by simp[hk]))with e | e
   ·have:=a1 k hk;omega
   ·exact e
  ·intro hk
   rcases List.mem_cons.1 ((h k).2 (by simp[hk]))with e | e
   ·have:=b1 k hk;omega
   ·exact e
theorem jkO{ys:List Int}(h:UpTo ys.length ys)(hn:ys.Nodup):ys.Pairwise (· < ·):=by
 rw[List.pairwise_iff_getElem]
 intro i j hi hj hij
 have h1:=h i j hij hj
 rw[jhv hi,jhv hj]at h1
 have h2:ys[i]≠ys[j]:=(List.pairwise_iff_getElem.1 hn) i j hi hj hij
 omega
end Go.Proofs.YtibaehlfpgipfaaGreat
