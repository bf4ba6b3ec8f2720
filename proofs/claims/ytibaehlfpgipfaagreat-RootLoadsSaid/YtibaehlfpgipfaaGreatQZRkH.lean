/- SORTED KEYS: a range over a function that tells numbers, in whatever order. Of our own making, over the base law. -/
import Derived.Test.YtibaehlfpgipfaaGreatQZG14
import Derived.RangeFuncNested
import Derived.RangeFuncBound
import Derived.RangeFuncCalls
import Derived.RangeFuncLeaves
import Derived.Shelf.Abstract
import Derived.OwnWalkIn
import Derived.TacticsInMore
import Derived.LoopNIn
import Derived.LoopIn
namespace Go.Proofs.YtibaehlfpgipfaaGreat
open Go.RowKit Go.Shelf
theorem Keep.put(w:World)(l:Nat)(o:Obj):Keep (·=l) w (w.putObj l o):=(Keep.refl _ w).grown (grownBy_putObj' w l o) (fun _ hk _=>(Option.some.inj hk).symm)
def jly(D bM:Nat)(b:Nat):Prop:=b≠D∧b≠D+1∧b≠D+2∧b≠bM
def jlx(D:Nat)(b:Nat):Prop:=b=D∨b=D+1∨b=D+2
def roundU(D bM:Nat)(In:World→Prop)(W:World):Exit→Act→World→Prop
 | .normal,_,W'=>Keep (jly D bM) W W'∧In W'
 | _,_,_=>False
def jfz(f:FuncId)(lb:Array Value)(S:List Int→Prop)(N bM:Nat)(w:World):Prop:=
 ∀(l:Nat) (J:List Int→World→Prop) (W:World),Keep Nix w W→(∀ss A B,J ss A→Keep (·=W.heap.size) A B→J ss B)→
  (∀ss k W0,J ss W0→jaw k→ss.length<N→W.heap.size<W0.heap.size→YieldAt Fence.wide 2 Tryz.prog l #[.int .u64 k] W0 (fun e W'=>e=.returned (.bool true)∧J (ss ++ [k]) W'∧Keep (fun b=>b≠bM∧b≠W.heap.size) W0 W'))→
  J [] W→CallsIn Fence.wide 3 Tryz.prog f (#[.func (.yield l) #[] #[]] ++ lb) W fun e W'=>(∃v,e=.returned v)∧∃ss,S ss∧J ss W'
theorem jkb{f:FuncId}{lb:Array Value}{S:List Int→Prop}{N bM:Nat}{gop:Operand}{p:Tmp}{assign body:Code}{Q:Exit→Act→World→Prop}{a:Act}{w:World}
  (hg:a.eval gop=.func (.func f) #[] lb) (eg:∀args w,(callFunc f args).run Tryz.prog w=.ok (.enter f args) w) (ht:jfz f lb S N bM w) (hbM:bM<w.heap.size)
  (I:List Int→World→Prop) (hI:∀ss A B,I ss A→Keep (jlx w.heap.size) A B→I ss B) (h0:I [] w)
  (round:∀ss k W,I ss W→jaw k→ss.length<N→w.heap.size+3≤W.heap.size→
   assign.wpIn (Fence.wide.inRound (w.heap.size+1)) 2 Tryz.prog (Exit.then (fun a1 W1=>Keep (jly w.heap.size bM) W W1∧∀W2,Keep (·=w.heap.size+1) W1 W2→W2.heap.size=W1.heap.size→body.wpIn (Fence.wide.inRound (w.heap.size+1)) 2 Tryz.prog (roundU w.heap.size bM (I (ss ++ [k])) W2) a1 W2) (fun _ _ _=>False))
    {tmps:=a.tmps.setIfInBounds p (.int .u64 k),defers:=[]} W)
  (done:∀ss W,S ss→I ss W→W.heap[w.heap.size]?=some (.deferred (some []))→Q .normal {a with defers:={target:=.collected w.heap.size,args:=#[]} :: a.defers} W) :
  (Code.rangeFunc gop #[p] assign body).wp Tryz.prog Q a w:=by
 refine(wpIn_wide (n:=4)).1 (wpIn_rangeFunc ?_)
 intro fn hfn
 generalize hD:w.heap.size=D at *
 obtain⟨rc,hrc⟩:∃rc:LoopState→Option Code→Loop,rc=fun st pe=>{state:=st,pending:=pe,fn,tmps:=a.tmps,params:=#[p],assign,body,defers:=D}:=⟨_,rfl⟩
 obtain⟨w1,hw1⟩:∃w1,(w.alloc (.deferred (some []))).alloc (.loop (rc .ready none))=w1:=⟨_,rfl⟩
 have hL1:w1.heap[D+1]?=some (.loop (rc .ready none)):=by
  rw[←hw1,←hD]
  have h:=World.alloc_heap_new (w.alloc (.deferred (some []))) (.loop (rc .ready none))
  rwa [World.size_alloc]at h
 have kA:Keep Nix (w.alloc (.deferred (some []))) w1:=by rw[←hw1];exact(Keep.refl Nix _).alloc _
 have kw:Keep Nix w w1:=by rw[←hw1];exact((Keep.refl Nix _).alloc _).alloc _
 have hs1:w1.heap.size=D+2:=by rw[←hw1,World.size_alloc,World.size_alloc,hD]
 have hD1:w1.heap[D]?=some (.deferred (some [])):=by
  rw[kA.block D (by rw[World.size_alloc];omega) id,←hD];exact World.alloc_heap_new w _
 refine⟨D+1,[{target:=.collected D,args:=#[]}],w1,{target:=.fn (.func f) lb,args:=#[.func (.yield (D+1)) #[] #[]]},w1,f,#[.func (.yield (D+1)) #[] #[]] ++ lb,w1,?_,?_,fun _ _=>trivial,?_,fun h=>by simp[Fence.wide]at h,?_⟩
 ·have h:=run_enterLoop_outer (P:=Tryz.prog) (w:=w) fn a.tmps #[p] assign body
  rw[hD]at h
  rw[←hw1,hrc]
  exact h
 ·simp only[resolve,hg]
  simp[go_sem]
 ·simp[invoke,go_sem,eg]
 have keepL:∀ {A B:World} {S:Nat→Prop} {b:Nat} {o:Obj},A.heap[b]?=some o→Keep S A B→¬S b→B.heap[b]?=some o:=fun h k hs=>(k.block _ (Array.getElem?_eq_some_iff.1 h).1 hs).trans h
 have hput:∀(A:World) (o:Obj),Keep (jlx D) A (A.putObj (D+1) o):=fun A o=>(Keep.put A (D+1) o).mono (fun b hb=>.inr (.inl hb))
 refine(ht (D+1) (fun ss W=>I ss W∧W.heap[D+1]?=some (.loop (rc .ready none))∧W.heap[D]?=some (.deferred (some []))) w1 kw
  (fun k A B h kk=>⟨hI k A B h.1 (kk.mono (fun b hb=>.inr (.inr (by rw[hb,hs1])))),keepL h.2.1 kk (by omega),keepL h.2.2 kk (by omega)⟩) ?_ ⟨hI [] _ _ h0 kw.nix,hL1,hD1⟩).mono ?_
 ·rintro ss k W ⟨hi,hl,hd⟩ hk hlen hsz
  rw[hs1]at hsz ⊢
  have hy:=run_yield (P:=Tryz.prog) (args:=#[.int .u64 k]) hl (by rw[hrc];rfl)
  rw[hrc]at hy
  refine⟨fn,a.tmps.setIfInBounds p (.int .u64 k),assign,body,by simpa using hy,roundIn_of_wpIn trivial (wpIn_mono (round ss k W hi hk hlen hsz) ?_)⟩
  rintro e a1 W1 h1
  cases e with
  | normal=>
   obtain⟨k1,hb⟩:=h1
   have hl1:=keepL hl k1 (fun h=>h.2.1 rfl)
   have hd1:=keepL hd k1 (fun h=>h.1 rfl)
   refine⟨_,run_beginRound hl1 (by rw[hrc]),?_⟩
   have k2:=Keep.put W1 (D+1) (.loop {rc .ready none with state:=.busy})
   have hl2:(W1.putObj (D+1) (.loop {rc .ready none with state:=.busy})).heap[D+1]?=some (.loop {rc .ready none with state:=.busy}):=World.putObj_heap_same (Array.getElem?_eq_some_iff.1 hl1).1
   have hd2:=keepL hd1 k2 (by omega)
   refine wpIn_mono (hb _ k2 World.putObj_size) ?_
   rintro e a3 W3 hp
   cases e with
   | normal=>
    have k3:=hp.1
    have hl3:=keepL hl2 k3 (fun h=>h.2.1 rfl)
    have hr:=run_endRound (P:=Tryz.prog) none hl3
    rw[hrc]at hr
    refine⟨_,_,hr,rfl,⟨hI _ _ _ hp.2 (hput _ _),?_,?_⟩,?_⟩
    ·rw[hrc];exact World.putObj_heap_same (Array.getElem?_eq_some_iff.1 hl3).1
    ·exact keepL (keepL hd2 k3 (fun h=>h.1 rfl)) (Keep.put W3 (D+1) _) (by omega)
    ·exact(((k1.mono (fun b h=>⟨h.2.2.2,h.2.2.1⟩)).trans (k2.mono (fun b (h:b=D+1)=>⟨by omega,by omega⟩))).trans (hp.1.mono (fun b h=>⟨h.2.2.2,h.2.2.1⟩))).trans ((Keep.put W3 (D+1) _).mono (fun b (h:b=D+1)=>⟨by omega,by omega⟩))
   | ret=>
    exact hp.elim
   | exit id=>
    exact hp.elim
   | goto t=>
    exact hp.elim
   | panic ch=>
    exact hp.elim
   | outgrown=>
    exact hp.elim
  | ret=>
   exact h1.elim
  | exit id=>
   exact h1.elim
  | goto t=>
   exact h1.elim
  | panic ch=>
   exact h1.elim
  | outgrown=>
   exact h1.elim
 ·rintro e W2 ⟨⟨v,rfl⟩,ss,hS,hi,hl,hd⟩
  have hr:=run_endLoop (P:=Tryz.prog) hl (by rw[hrc];simp)
  rw[hrc]at hr
  exact⟨none,_,hr,done ss _ hS (hI _ _ _ hi (hput _ _)) (keepL hd (Keep.put W2 (D+1) _) (by omega))⟩
end Go.Proofs.YtibaehlfpgipfaaGreat
