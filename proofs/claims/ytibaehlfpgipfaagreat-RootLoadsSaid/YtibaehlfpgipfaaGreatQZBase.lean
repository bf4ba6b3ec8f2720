/- THE BASE: memory kept, rows owned, cells that lie; bytes and numbers as data. No program in sight but for the types' rows. -/
import Derived.Test.YtibaehlfpgipfaaGreatRows
import Derived.WalkKit
import Derived.ProofKit
import Derived.OpenShut
import Derived.Outline
import Derived.Lib.Hide
import Derived.Laws.BytesArg
import Derived.Deep.AppendSrc
import Derived.Deep.DeepFit
import Derived.Deep.QuietTactic
import Derived.BigQuiet
import Derived.StillTailTactics
import Derived.Deep.RegionWith
import Derived.RegionTactic
import Derived.Deep.RegionHeld3
namespace Go.Proofs.YtibaehlfpgipfaaGreat
open Go.RowKit
theorem zz1.{u} {α:Type u} {xs:List α} {i:Nat} (h:i<xs.toArray.size):xs.toArray[i]=xs[i]'(by simpa using h):=rfl
theorem zz2.{u} {α:Type u} (a:α) (l:List α) (i:Nat) (h:i+1<(a :: l).length):(a :: l)[i+1]=l[i]'(by simpa using h):=rfl
theorem zz3.{u} {α:Type u} (a:α) (l:List α) (h:0<(a :: l).length):(a :: l)[0]=a:=rfl
theorem zz4.{u} {α:Type u} (l:List α) (i:Nat) (a:α):l.toArray.setIfInBounds i a=(l.set i a).toArray:=List.setIfInBounds_toArray l i a
theorem zz5.{u} {α:Type u} {x:α} {xs:List α} {i:Nat} {a:α}:(x :: xs).set (i+1) a=x :: xs.set i a:=rfl
theorem zz6.{u} {α:Type u} {x:α} {xs:List α} {a:α}:(x :: xs).set 0 a=a :: xs:=rfl
theorem tk0{P:Program}{ops:Array Oper}{Q:Exit→Act→World→Prop}{md:Region.Mode}{S:World→Prop}(i:Nat){oi:Oper}{v:Value}{fuel:Nat}{listed:Array Bool}{a:Act}{w:World}(hi:ops[i]?=some oi)
 (hy:∀w',S w'→(execOp a.eval oi).run P w'=.ok (.value v) w')
 (hS:S w) (h:wpAnyH P md ops Q S fuel (listed.setIfInBounds i true) (a.put oi.dst v) w)
 (hs:Region.noSelect ops=true:=by kernel_rfl) (hf:Region.free md ops listed i=true:=by kernel_rfl) (hr:(Region.ready md ops listed).contains i=true:=by kernel_rfl)
 (hQ:∀c a w,Q (.panic c) (a.put oi.dst v) w→Q (.panic c) a w:=by exact fun _ _ _ h=>h) (hw:Region.wanted oi (yielded ops a.tmps)=true:=by kernel_rfl):wpAnyH P md ops Q S (fuel+1) listed a w:=
 wpAnyH_take hi hs hf hr hQ (Or.inl ⟨hw,hy⟩) hS h
theorem tk{P:Program}{ops:Array Oper}{Q:Exit→Act→World→Prop}{md:Region.Mode}{S:World→Prop}(i:Nat){oi:Oper}{v:Value}{fuel:Nat}{listed:Array Bool}{a a':Act}{w:World}(hi:ops[i]?=some oi)
 (hS:S w) (h:wpAnyH P md ops Q S fuel (listed.setIfInBounds i true) a' w)
 (hy:∀w',S w'→(execOp a.eval oi).run P w'=.ok (.value v) w':=by intro w' hSw;(try dsimp only at hSw);(try simp only[zz1,zz2,zz3]);go_simp;try with_reducible rfl)
 (ha:a.put oi.dst v=a':=by(try simp only[Act.put,zz1,zz2,zz3,zz4,zz5,zz6]);try rfl)
 (hs:Region.noSelect ops=true:=by kernel_rfl) (hf:Region.free md ops listed i=true:=by kernel_rfl) (hr:(Region.ready md ops listed).contains i=true:=by kernel_rfl)
 (hQ:∀c a w,Q (.panic c) (a.put oi.dst v) w→Q (.panic c) a w:=by exact fun _ _ _ h=>h) (hw:Region.wanted oi (yielded ops a.tmps)=true:=by kernel_rfl):wpAnyH P md ops Q S (fuel+1) listed a w:=
 by subst ha;exact tk0 i hi hy hS h hs hf hr hQ hw
def bv(c:UInt8):Value:=.int .u8 c.toNat
theorem jdW(l:List UInt8):∀u∈l.map bv,u.oneCell'=true:=by
  intro u hu
  obtain⟨_,_,rfl⟩:=List.mem_map.1 hu
  rfl
structure Keep(S:Nat→Prop)(w w':World):Prop where
  os:w'.os=w.os
  tape:w'.tape=w.tape
  output:w'.output=w.output
  size:w.heap.size≤w'.heap.size
  block:∀k,k<w.heap.size→¬S k→w'.heap[k]?=w.heap[k]?
def Nix:Nat→Prop:=fun _=>False
theorem Keep.refl(S:Nat→Prop)(w:World):Keep S w w:=⟨rfl,rfl,rfl,Nat.le_refl _,fun _ _ _=>rfl⟩
theorem Keep.trans{S:Nat→Prop}{a b c:World}(h:Keep S a b)(k:Keep S b c):Keep S a c:=
  ⟨k.os.trans h.os,k.tape.trans h.tape,k.output.trans h.output,Nat.le_trans h.size k.size,
    fun i hi hs=>(k.block i (Nat.lt_of_lt_of_le hi h.size) hs).trans (h.block i hi hs)⟩
theorem Keep.then{S T:Nat→Prop}{a b c:World}(h:Keep S a b)(k:Keep T b c)(hT:∀i,i<a.heap.size→T i→S i):Keep S a c:=
  ⟨k.os.trans h.os,k.tape.trans h.tape,k.output.trans h.output,Nat.le_trans h.size k.size,
    fun i hi hs=>(k.block i (Nat.lt_of_lt_of_le hi h.size) (fun ht=>hs (hT i hi ht))).trans (h.block i hi hs)⟩
theorem Keep.mono{S T:Nat→Prop}{a b:World}(h:Keep S a b)(hT:∀i,S i→T i):Keep T a b:=
  ⟨h.os,h.tape,h.output,h.size,fun i hi hs=>h.block i hi (fun x=>hs (hT i x))⟩
theorem Keep.nix{S:Nat→Prop}{a b:World}(h:Keep Nix a b):Keep S a b:=h.mono fun _ x=>x.elim
theorem Keep.drew{S:Nat→Prop}{a b:World}(h:Keep S a b):Keep S a b.drew:=⟨h.os,h.tape,h.output,h.size,h.block⟩
theorem Keep.drewN{S:Nat→Prop}{a b:World}(h:Keep S a b)(n:Nat):Keep S a (b.drewN n):=⟨h.os,h.tape,h.output,h.size,h.block⟩
theorem Keep.same{S:Nat→Prop}{a b c:World}(h:Keep S a b)(h1:c.os=b.os:=by rfl)(h2:c.tape=b.tape:=by rfl)(h3:c.output=b.output:=by rfl)(h4:c.heap=b.heap:=by rfl):Keep S a c:=
  ⟨h1.trans h.os,h2.trans h.tape,h3.trans h.output,by rw[h4];exact h.size,fun k hk hs=>by rw[h4];exact h.block k hk hs⟩
theorem Keep.alloc{S:Nat→Prop}{a b:World}(h:Keep S a b)(o:Obj):Keep S a (b.alloc o):=
  h.trans ⟨rfl,rfl,rfl,by simp,fun k hk _=>Below.heap_alloc _ _ _ hk⟩
theorem Keep.setCell{S:Nat→Prop}{a b:World}(h:Keep S a b){p:Addr}(hp:p.block<a.heap.size→S p.block)(u:Value):Keep S a (b.setCell p u):=
  ⟨h.os,h.tape,h.output,by simpa [World.setCell] using h.size,fun k hk hs=>by
    rw[Below.heap_setCell _ _ _ _ (by rintro rfl;exact hs (hp hk))];exact h.block k hk hs⟩
theorem Keep.grown{S:Nat→Prop}{a b c:World}(h:Keep S a b){row:Option Nat}(hg:b.grownBy c row)(hr:∀k,row=some k→k<a.heap.size→S k):Keep S a c:=
  ⟨hg.os.trans h.os,hg.tape.trans h.tape,hg.output.trans h.output,Nat.le_trans h.size hg.size,
    fun k hk hs=>(hg.block k (Nat.lt_of_lt_of_le hk h.size) (fun e=>hs (hr k e.symm hk))).trans (h.block k hk hs)⟩
theorem Keep.below{w w':World}(h:Keep Nix w w'):Below w.heap.size w w':=⟨h.os,h.tape,h.output,h.size,fun k hk=>h.block k hk id⟩
theorem Keep.cell{S:Nat→Prop}{w w':World}(h:Keep S w w'){p:Addr}(hp:p.block<w.heap.size)(hs:¬S p.block):w'.cell? p=w.cell? p:=World.cell?_of_block (w:=w) (h.block p.block hp hs)
theorem Keep.frozen{S:Nat→Prop}{w w':World}(h:Keep S w w'){p:Addr}(hp:p.block<w.heap.size)(hs:¬S p.block):w'.frozen? p=w.frozen? p:=World.frozen?_of_block (w:=w) (h.block p.block hp hs)
theorem jad{S:Nat→Prop}{w w':World}{base:Nat}{e sz:Nat}{v:Value}{n:Nat}{xs:List Value}(h:w.ownsRow base e sz v n xs)(k:Keep S w w')(hs:∀b,v.ownBlock=some b→¬S b):w'.ownsRow base e sz v n xs:=by
  refine⟨h.1,?_⟩
  rcases h.2 with hn | ⟨g,cap,cur,rfl,hb,hgg,rest⟩
  · exact .inl hn
  · exact .inr ⟨g,cap,cur,rfl,hb,(k.block g (Array.getElem?_eq_some_iff.1 hgg).1 (hs g rfl)).trans hgg,rest⟩
theorem jbY{w:World}{base base':Nat}{e sz:Nat}{v:Value}{n:Nat}{xs:List Value}(h:w.ownsRow base e sz v n xs)(hb:base'≤base):w.ownsRow base' e sz v n xs:=by
  refine⟨h.1,?_⟩
  rcases h.2 with hn | ⟨g,cap,cur,rfl,hb',rest⟩
  · exact .inl hn
  · exact .inr ⟨g,cap,cur,rfl,Nat.le_trans hb hb',rest⟩
theorem jdn{w:World}{base:Nat}{e sz:Nat}{v:Value}{n:Nat}{xs:List Value}(h:w.ownsRow base e sz v n xs):∃a cap,v=.slice a n cap:=by
  rcases h.2 with⟨rfl,rfl⟩ | ⟨g,cap,cur,rfl,_⟩
  · exact⟨_,_,rfl⟩
  · exact⟨_,_,rfl⟩
theorem jbu{w:World}{base:Nat}{e sz:Nat}{a:Option Addr}{n m cap:Nat}{xs:List Value}(h:w.ownsRow base e sz (.slice a n cap) m xs):n=m∧n≤cap∧cap≤maxLen:=by
  rcases h.2 with⟨h1,rfl⟩ | ⟨g,cap',cur,h1,_,_,h2,h3,_⟩
  · cases h1;exact⟨rfl,Nat.le_refl _,Nat.zero_le _⟩
  · cases h1;exact⟨rfl,h2,h3⟩
def Lies(w:World)(p:Nat→Prop)(a:Option Addr)(xs:List Value):Prop:=
  xs≠[]→∃b off,a=some ⟨b,off,none⟩∧p b∧b<w.heap.size∧∀j u,xs[j]?=some u→w.cell? ⟨b,off+j,none⟩=some u
theorem Lies.keep{S p:Nat→Prop}{w w':World}{a:Option Addr}{xs:List Value}(h:Lies w p a xs)(k:Keep S w w')(hs:∀b,p b→¬S b):Lies w' p a xs:=by
  intro hx
  obtain⟨b,off,ha,hp,hb,hc⟩:=h hx
  exact⟨b,off,ha,hp,Nat.lt_of_lt_of_le hb k.size,fun j u hu=>(k.cell (p:=⟨b,off+j,none⟩) hb (hs b hp)).trans (hc j u hu)⟩
theorem Lies.mono{p q:Nat→Prop}{w:World}{a:Option Addr}{xs:List Value}(h:Lies w p a xs)(hq:∀b,p b→q b):Lies w q a xs:=by
  intro hx
  obtain⟨b,off,ha,hp,r⟩:=h hx
  exact⟨b,off,ha,hq b hp,r⟩
theorem Lies.nil(w:World)(p:Nat→Prop)(a:Option Addr):Lies w p a []:=fun h=>absurd rfl h
theorem Lies.of_owned{w:World}{base:Nat}{e sz:Nat}{a:Option Addr}{n m cap:Nat}{xs:List Value}(h:w.ownsRow base e sz (.slice a n cap) m xs):Lies w (fun b=>base≤b∧(Value.slice a n cap).ownBlock=some b) a xs:=by
  intro hx
  rcases h.2 with⟨h1,rfl⟩ | ⟨g,cap',cur,h1,hb,hg,_⟩
  · exact absurd (List.eq_nil_of_length_eq_zero (by simpa using h.1)) hx
  · cases h1
    refine⟨g,0,rfl,⟨hb,rfl⟩,(Array.getElem?_eq_some_iff.1 hg).1,fun j u hu=>?_⟩
    have:=h.cells (g:=g) rfl j u hu
    rw[Addr.add_lit]at this
    exact this
structure SliceT(P:Program)(t e sz bytes:Nat):Prop where
  under:P.underlying t=some (.slice e)
  info:∃i z,P.info? e=some i∧i.zero=some z∧i.size=sz∧i.bytes=bytes∧z.cells.size=sz
  pos:0<sz
theorem SliceT.mk'{P:Program}{t e:Nat}{z:Value}{sz bytes:Nat}(h1:P.underlying t=some (.slice e))(h2:(P.info? e).map (fun i=>(i.zero,i.size,i.bytes))=some (some z,sz,bytes))(h3:z.cells.size=sz)(h4:0<sz):SliceT P t e sz bytes:=by
  obtain⟨i,hi,h5,h6,h7⟩:=info_parts h2
  exact⟨h1,⟨i,z,hi,h5,h6,h7,h3⟩,h4⟩
theorem jcy{P:Program}{t e sz bytes:Nat}(T:SliceT P t e sz bytes){w:World}{ops:Array Oper}{rest:List Oper}{o:Oper}{a:Act}{Q:Exit→Act→World→Prop}(hgd:o.guard=none)(s x:Operand)
    (ho:o.op=.call {callee:=.builtin .append,args:=#[s,x],argTypes:=#[t,t]})
    (base:Nat) {v:Value} {n:Nat} {xs:List Value} (hs:a.eval s=v) (hown:w.ownsRow base e sz v n xs)
    {p:Nat→Prop} {ad:Option Addr} {m c:Nat} (news:List Value) (hx:a.eval x=.slice ad m c) (hl:news.length=m*sz) (hlies:Lies w p ad news) (h1:∀u∈news,u.oneCell'=true)
    (h63:n+m≤maxLen) (hbytes:(n+m)*bytes≤140737488355328) (hbase:base≤w.heap.size)
    (h:∀a' cap' w',w'.ownsRow base e sz (.slice a' (n+m) cap') (n+m) (xs ++ news)→w.grownBy w' v.ownBlock→wpList P ops Q rest (a.put o.dst (.slice a' (n+m) cap')) w') :
    wpList P ops Q (o :: rest) a w:=by
  obtain⟨i,z,hi,hz,hsz,hby,hzs⟩:=T.info
  by_cases hm:m=0
  · subst hm
    have hn:news=[]:=List.eq_nil_of_length_eq_zero (by simpa using hl)
    subst hn
    refine wpList_plain hgd fun K hK=>?_
    have hrun:(Builtin.append_ #[t,t] o.type #[v,.slice ad 0 c]).run P w=.ok v w:=by
      rcases hown.2 with⟨rfl,rfl⟩ | ⟨g,cap,cur,rfl,_,_,hnc,_⟩
      · cases ad <;> simp[Builtin.append_,run_underlying T.under,sizeOf,typeInfo,hi,Builtin.lenOf,Builtin.firstCells,loadCells,loadCellsFrom]
      · cases ad <;> simp[Builtin.append_,run_underlying T.under,sizeOf,typeInfo,hi,Builtin.lenOf,Builtin.firstCells,loadCells,loadCellsFrom,hnc,storeCells]
    obtain⟨a',cap',rfl⟩:=jdn hown
    unfold Oper.wp
    simp only[execOp,ho,resolve,invoke,builtin,List.map_toArray,List.map_cons,List.map_nil,hs,hx,hrun,Sem.run_bind,Sem.run_pure,Result.andThen_ok]
    exact hK _ _ (h a' cap' w (by simpa using hown) ⟨rfl,rfl,rfl,Nat.le_refl _,fun _ _ _=>rfl⟩)
  · have hne:news≠[]:=fun e=>by subst e;have:=Nat.mul_pos (Nat.pos_of_ne_zero hm) T.pos;simp at hl;omega
    obtain⟨b,off,rfl,hp,hb,hc⟩:=hlies hne
    refine wpList_append_own w hgd s x t ho base e i z sz bytes T.under hi hz hsz hby hzs T.pos v n xs hs hown ⟨b,off,none⟩ m c news hx hl (fun j u hu=>by rw[Addr.add_lit];exact hc j u hu) h1 h63 hbytes hbase ?_
    intro v' w' hown' hg _
    obtain⟨a',cap',rfl⟩:=jdn hown'
    exact h a' cap' w' hown' hg
theorem Lies.same{w w':World}{p:Nat→Prop}{a:Option Addr}{xs:List Value}(h:Lies w p a xs)(hh:w'.heap=w.heap:=by rfl):Lies w' p a xs:=by
  intro hx
  obtain⟨b,off,ha,hp,hb,hc⟩:=h hx
  exact⟨b,off,ha,hp,by rw[hh];exact hb,fun j u hu=>(World.cell?_of_block (w:=w) (by rw[hh])).trans (hc j u hu)⟩
theorem jfI{w w':World}{base:Nat}{e sz:Nat}{v:Value}{n:Nat}{xs:List Value}(h:w.ownsRow base e sz v n xs)(hh:w'.heap=w.heap:=by rfl):w'.ownsRow base e sz v n xs:=by
  unfold World.ownsRow at *;rw[hh];exact h
theorem Lies.block(w:World)(cs:Array Value)(t:TypeId)(p:Nat→Prop)(hp:p w.heap.size):Lies (w.alloc (.cells cs t)) p (some ⟨w.heap.size,0,none⟩) cs.toList:=by
  intro _
  refine⟨w.heap.size,0,rfl,hp,by simp,fun j u hu=>?_⟩
  rw[World.cell?_alloc_at _ _ _ _ rfl,Nat.zero_add]
  simpa using hu
def OwnB(v:Value):Nat→Prop:=fun k=>v.ownBlock=some k
theorem jgT{P:Program}{t e sz bytes:Nat}(T:SliceT P t e sz bytes){w:World}{cs:Array Value}{t':TypeId}{ops:Array Oper}{rest:List Oper}{o:Oper}{a:Act}{Q:Exit→Act→World→Prop}(hgd:o.guard=none)(s x:Operand)
    (ho:o.op=.call {callee:=.builtin .append,args:=#[s,x],argTypes:=#[t,t]})
    (base:Nat) {v:Value} {n:Nat} {xs:List Value} (hs:a.eval s=v) (hown:w.ownsRow base e sz v n xs)
    {c:Nat} (hx:a.eval x=.slice (some ⟨w.heap.size,0,none⟩) 1 c) (hl:cs.size=sz) (h1:∀u∈cs.toList,u.oneCell'=true)
    (h63:n+1≤maxLen) (hbytes:(n+1)*bytes≤140737488355328) (hbase:base≤w.heap.size)
    (h:∀a' cap' w',w'.ownsRow base e sz (.slice a' (n+1) cap') (n+1) (xs ++ cs.toList)→Keep (OwnB v) w w'→wpList P ops Q rest (a.put o.dst (.slice a' (n+1) cap')) w') :
    wpList P ops Q (o :: rest) a (w.alloc (.cells cs t')):=
  jcy T hgd s x ho base hs (hown.alloc _) cs.toList hx (by simp[hl]) (Lies.block w cs t' (fun _=>True) trivial) h1 h63 hbytes (by simp;omega)
    fun a' cap' w' ho' hg=>h a' cap' w' ho' (((Keep.refl _ _).alloc _).grown hg fun _ hk _=>hk)
def strB(l:List UInt8):ByteArray:=⟨l.toArray⟩
theorem jfu(l:List UInt8):(strB l).data.toList=l:=by simp[strB]
theorem jgQ(l:List UInt8):(strB l).toList=l:=by rw[ByteArray.toList_eq,jfu]
theorem jes(a b:List UInt8):((strB a).toList == (strB b).toList)=decide (a=b):=by rw[jgQ,jgQ,Bool.eq_iff_iff];simp
theorem jiM(l:List UInt8):(strB l).size=l.length:=by simp[strB,ByteArray.size]
theorem jdX{P:Program}{src dst e:TypeId}(hs:P.underlying src=some (.slice e))(he:P.underlying e=some (.int .u8))(hd:P.underlying dst=some .string)
    {w:World} {p:Nat→Prop} {a:Option Addr} {n cap:Nat} {l:List UInt8} (hn:l.length=n) (h:Lies w p a (l.map bv)):(convert src dst (.slice a n cap)).run P w=.ok (.string (strB l)) w:=by
  subst hn
  by_cases hl:l=[]
  · subst hl
    rw[run_convert_bytes_string w src dst e _ _ cap hs he hd]
    cases a <;> (simp[Conv.bytesToString,loadCells,loadCellsFrom,strB];rfl)
  · obtain⟨b,off,rfl,-,-,hc⟩:=h (by simpa using hl)
    rw[run_convert_bytes_arg w src e hs he b off l.length cap (l.map fun c=>(c.toNat:Int)) (by simp) (fun i hi=>by
      rw[hc i (.int .u8 (l[i].toNat:Int)) (by simp[bv,hi])];simp[List.getD,hi]) dst hd]
    congr 2
    simp[strOfNums,strB,Function.comp_def]
def RowIs(w:World)(b:Nat)(e:TypeId)(cs:List Value):Prop:=w.heap[b]?=some (.cells cs.toArray e (0,0))
section
variable {w w' : World} {b : Nat} {e : TypeId} {cs : List Value}
theorem RowIs.lt(h:RowIs w b e cs):b<w.heap.size:=(Array.getElem?_eq_some_iff.1 h).1
theorem RowIs.cell(h:RowIs w b e cs)(j:Nat):w.cell? ⟨b,j,none⟩=cs[j]?:=by
  rw[cell_of_row w b j cs.toArray e (0,0) h];simp
theorem RowIs.frozen(h:RowIs w b e cs)(j:Nat):w.frozen? ⟨b,j,none⟩=false:=frozen_of_row w b j cs.toArray e h
theorem RowIs.set(h:RowIs w b e cs)(j:Nat)(v:Value):RowIs (w.setCell ⟨b,j,none⟩ v) b e (cs.set j v):=by
  have:=heap_setCell_same w b j cs.toArray e v h
  unfold RowIs
  rw[this];simp
theorem RowIs.keep{S:Nat→Prop}(h:RowIs w b e cs)(k:Keep S w w')(hs:¬S b):RowIs w' b e cs:=(k.block b h.lt hs).trans h
theorem RowIs.same(h:RowIs w b e cs)(hh:w'.heap=w.heap:=by rfl):RowIs w' b e cs:=by unfold RowIs;rw[hh];exact h
theorem RowIs.alloc(w:World)(cs:Array Value)(e:TypeId):RowIs (w.alloc (.cells cs e)) w.heap.size e cs.toList:=by
  unfold RowIs;rw[heap_alloc_new]
theorem RowIs.lies(h:RowIs w b e cs)(p:Nat→Prop)(hp:p b){xs:List Value}{off:Nat}(hx:∀j u,xs[j]?=some u→cs[off+j]?=some u):Lies w p (some ⟨b,off,none⟩) xs:=
  fun _=>⟨b,off,rfl,hp,h.lt,fun j u hu=>(h.cell _).trans (hx j u hu)⟩
theorem RowIs.of_owned{base sz n cap:Nat}{a:Addr}{xs:List Value}(h:w.ownsRow base e sz (.slice (some a) n cap) n xs) :
    ∃b rest,a=⟨b,0,none⟩∧base≤b∧RowIs w b e (xs ++ rest)∧(xs ++ rest).length=cap*sz:=by
  rcases h.2 with⟨h1,-⟩ | ⟨g,cap',cur,h1,hb,hg,hnc,hcm,hcs,ht⟩
  · cases h1
  · cases h1
    refine⟨g,cur.toList.drop (n*sz),rfl,hb,?_,?_⟩
    · unfold RowIs;rw[hg,←ht,List.take_append_drop]
    · rw[←ht,List.take_append_drop];simpa using hcs
end
theorem jbH(a b:Int):((a == b)=true∧Hid (a=b))∨((a == b)=false∧a≠b):=by
  by_cases h:a=b
  · exact .inl ⟨by simp[h],h⟩
  · exact .inr ⟨by simp[h],h⟩
theorem jam{b c:Bool}(h:b=c):Ending.returned (.bool b)=Ending.returned (.bool c):=by rw[h]
theorem jb9{k:IntKind}{a b:Int}(h:a=b):Ending.returned (.int k a)=Ending.returned (.int k b):=by rw[h]
end Go.Proofs.YtibaehlfpgipfaaGreat
