/- SCHEMA, THE SMALLEST PARTS: names, places, what a state does. -/
import Derived.Test.YtibaehlfpgipfaaGreatQZG3
import Derived.Deep.RegionHeld3
import Derived.WalkSpells
namespace Go.Proofs.YtibaehlfpgipfaaGreat
open Go.RowKit
set_option maxHeartbeats 8000000
set_option maxRecDepth 100000
def chB(c:UInt8):Bool:=decide (97≤c.toNat∧c.toNat≤122∨48≤c.toNat∧c.toNat≤57∨c.toNat=95)
def jcO(l:List UInt8):Bool:=l.all chB && decide (1≤l.length∧l.length≤20)
theorem jmN{l:List UInt8}(k:Nat)(h:k<l.length)(hc:chB l[k]=false):jcO l=false:=by
  unfold jcO
  rw[Bool.and_eq_false_iff];left
  rw[List.all_eq_false]
  exact⟨l[k],List.getElem_mem h,by simp[hc]⟩
theorem jlJ{l:List UInt8}(h:l.all chB=true):jcO l=decide (1≤l.length∧l.length≤20):=by unfold jcO;rw[h];rfl
theorem jnF(l:List UInt8)(k:Nat)(h:k<l.length):(l.take (k+1)).all chB=((l.take k).all chB && chB l[k]):=by
  rw[List.take_succ_eq_append_getElem h,List.all_append];simp
theorem jkM(s:ByteArray)(k:Nat)(h:k<s.size):(s.data.toList.take (k+1)).all chB=((s.data.toList.take k).all chB && chB s[k]):=jnF _ k (by simpa using h)
theorem jp0(s:ByteArray)(w:World)(hs:s.size≤maxLen):Calls Tryz.prog 162 #[.string s] w fun e w'=>e=.returned (.bool (jcO s.data.toList))∧w=w':=by
  unfold maxLen at hs
  have hl:s.data.toList.length=s.size:=by rw[Array.length_toList];rfl
  have HL:=Lib.hid hl
  clear hl
  go_enter Tryz.func162,Tryz.ntmps162
  go_wp2
  go_loop [7] (fun i=>∃k:Nat,k≤s.size∧i=.int .i64 k∧Hid ((s.data.toList.take k).all chB=true)) (fun i=>s.size - (intOf i).toNat)
  case atStart=>exact⟨0,Nat.zero_le _,rfl,rfl⟩
  case round=>
    obtain⟨k,hk,rfl,hp⟩:=hrel
    by_cases hlt:k<s.size
    · have HS:=Lib.hid (jkM s k hlt)
      have hB:chB s[k]=false→jcO s.data.toList=false:=fun h=>jmN (l:=s.data.toList) k (by rw[HL.out];exact hlt) h
      have HB:=Lib.hid hB
      clear hB
      go_wp2
      all_goals first
        | (go_ret;exact⟨jam (HB.out (by unfold chB;rw[decide_eq_false_iff_not];simp only[bne_iff_ne,ne_eq]at *;omega)).symm,rfl⟩)
        | (go_round
           case rel=>exact⟨k+1,by omega,by go_num,by show _=_;rw[HS.out,hp.out,Bool.true_and];unfold chB;rw[decide_eq_true_iff];(try simp only[bne_eq_false_iff_eq]at *);omega⟩
           case measure=>simp[intOf];omega)
    · have e:k=s.size:=by omega
      have ha:s.data.toList.all chB=true:=by
        have:=hp.out
        rwa [List.take_of_length_le (by rw[HL.out];omega)]at this
      have HG:=Lib.hid (jlJ ha)
      clear ha hp e
      have hz:(s.toList=[])↔s.size=0:=by rw[ByteArray.toList_eq,←HL.out];exact List.length_eq_zero_iff.symm
      have HZ:=Lib.hid hz
      clear hz
      by_cases h0:s.size=0
      · have t1:=HZ.out.2 h0
        go_wp2
        go_ret
        exact⟨jam (by rw[HG.out,HL.out];exact(decide_eq_false (by omega)).symm),rfl⟩
      · have t1:¬s.toList=[]:=fun h=>h0 (HZ.out.1 h)
        have t2:(!s.toList.isEmpty)=true:=by simp[t1]
        go_wp2
        go_ret
        exact⟨jam (by rw[HG.out,HL.out];exact decide_eq_decide.2 (by omega)),rfl⟩
theorem jg5(l:List UInt8)(w:World)(hs:l.length≤far):Calls Tryz.prog 162 #[.string (strB l)] w fun e w'=>e=.returned (.bool (jcO l))∧w=w':=by
  have:=jp0 (strB l) w (by rw[jiM];exact Nat.le_trans hs far_len.2)
  rwa [jfu]at this
/-! ### states -/
def jcv(s:Int):Int:=if s=1∨s=2∨s=3∨s=5∨s=6 then s+1 else if s=4 then 4 else 0
theorem jpB{p:Nat→Prop}(x:GIndex)(cs:List Value)(w:World)(hx:jaZ w p cs x):Calls Tryz.prog 111 #[.agg cs.toArray] w fun e w'=>e=.returned (.int .i64 (jcv x.fState))∧Keep Nix w w':=by
  obtain⟨a,c,rfl,-,-,-,-,h5,-⟩:=jbA hx
  generalize x.fState=s at h5
  have kk:Keep Nix w (w.alloc (.cells #[.int .i64 x.fID,.int .i64 x.fTable,.string (strB x.fName),.slice a x.fColumns.length c,.bool x.fUnique,.int .i64 s,.bool x.fBad] 41)):=(Keep.refl Nix w).alloc _
  clear hx
  have hs:s=1∨s=2∨s=3∨s=4∨s=5∨s=6∨((s == 1)=false∧(s == 2)=false∧(s == 3)=false∧(s == 4)=false∧(s == 5)=false∧(s == 6)=false∧jcv s=0):=by
    simp only[beq_eq_false_iff_ne,ne_eq,jcv];split
    · omega
    · split <;> omega
  clear h5
  rcases hs with rfl | rfl | rfl | rfl | rfl | rfl | ⟨t1,t2,t3,t4,t5,t6,hn⟩
  rotate_right
  · have HN:=Lib.hid hn
    clear hn
    go_enter Tryz.func111,Tryz.ntmps111
    go_wp2
    go_ret
    exact⟨jb9 HN.out.symm,kk⟩
  all_goals
    go_enter Tryz.func111,Tryz.ntmps111
    go_wp2
    go_ret
    exact⟨rfl,kk⟩
/-! ### plainly -/
def jcN(m:Int)(l:List Int):Prop:=(∀k∈l,0≤k∧k<m)∧l.Nodup
instance (m:Int) (l:List Int):Decidable (jcN m l):=by unfold jcN;infer_instance
theorem jm9(m:Int):jcN m []:=⟨by simp,List.nodup_nil⟩
theorem jm7{m:Int}(t:List Int)(x:Int):jcN m (t ++ [x])↔jcN m t∧0≤x∧x<m∧x∉t:=by
 unfold jcN
 rw[List.nodup_append]
 constructor
 ·rintro⟨h1,h2,h3,h4⟩
  exact⟨⟨fun y hy=>h1 y (by simp[hy]),h2⟩,(h1 x (by simp)).1,(h1 x (by simp)).2,fun hm=>h4 _ hm _ (by simp) rfl⟩
 ·rintro⟨⟨h1,h2⟩,h3,h4,h5⟩
  refine⟨fun y hy=>?_,h2,by simp,fun a ha b hb e=>?_⟩
  ·rcases List.mem_append.1 hy with hy | hy
   ·exact h1 y hy
   ·simp at hy;subst hy;exact⟨h3,h4⟩
  ·simp at hb;subst hb;subst e;exact h5 ha
theorem jhw{m:Int}{l:List Int}(k:Nat)(h:k<l.length):jcN m (l.take (k+1))↔jcN m (l.take k)∧0≤l[k]∧l[k]<m∧l[k]∉l.take k:=by
 rw[List.take_succ_eq_append_getElem h]
 exact jm7 _ _
theorem jl8{m:Int}{l:List Int}(k:Nat)(h:jcN m l):jcN m (l.take k):=
 ⟨fun x hx=>h.1 x (List.mem_of_mem_take hx),h.2.sublist (List.take_sublist k l)⟩
theorem jm8{m:Int}{l:List Int}(k:Nat)(h:k<l.length)(hb:¬(0≤l[k]∧l[k]<m∧l[k]∉l.take k)):¬jcN m l:=
 fun hg=>hb ((jhw k h).1 (jl8 (k+1) hg)).2
theorem je2:∀(m:Nat) (l:List Int),jcN (m:Int) l→l.length≤m
 | 0,l,h=>by
  cases l with
  | nil=>simp
  | cons x l=>have:=h.1 x (by simp);omega
 | m+1,l,h=>by
  by_cases hm:(m:Int)∈l
  ·have h1:=je2 m (l.erase (m:Int)) ⟨fun k hk=>by
    have h2:=h.1 k (List.mem_of_mem_erase hk)
    have h3:k≠(m:Int):=fun e=>by subst e;exact(h.2.not_mem_erase) hk
    omega,h.2.erase _⟩
   rw[List.length_erase_of_mem hm]at h1
   omega
  ·have h1:=je2 m l ⟨fun k hk=>by
    have h2:=h.1 k hk
    have h3:k≠(m:Int):=fun e=>by subst e;exact hm hk
    omega,h.2⟩
   omega
def jcD(m:Int)(l:List Int):Bool:=decide (jcN (min m 6) l∧1≤l.length)
/-! ### the program's -/
def jeI(l:List Int):List Value:=[.bool (decide ((0:Int)∈l)),.bool (decide ((1:Int)∈l)),.bool (decide ((2:Int)∈l)),.bool (decide ((3:Int)∈l)),.bool (decide ((4:Int)∈l)),.bool (decide ((5:Int)∈l))]
theorem jlT(l:List Int)(j:Nat)(h:j<6):(jeI l)[j]?=some (.bool (decide ((j:Int)∈l))):=by
 match j,h with
 | 0,_=>rfl
 | 1,_=>rfl
 | 2,_=>rfl
 | 3,_=>rfl
 | 4,_=>rfl
 | 5,_=>rfl
theorem jkH(l:List Int)(j:Nat)(h:j<6):(jeI l).set j (.bool true)=jeI (l ++ [(j:Int)]):=by
 have key:∀i:Int,decide (i∈l ++ [(j:Int)])=(decide (i∈l) || decide (i=(j:Int))):=fun i=>by simp
 unfold jeI
 rw[key,key,key,key,key,key]
 match j,h with
 | 0,_=>simp
 | 1,_=>simp
 | 2,_=>simp
 | 3,_=>simp
 | 4,_=>simp
 | 5,_=>simp
theorem jls{w:World}{p:Nat→Prop}{a:Option Addr}{n cap:Nat}{l:List Int}(h:jap (rInt .i64) w p [.slice a n cap] l)(k:Nat)(hk:k<l.length) :
  ∃b off,a=some ⟨b,off,none⟩∧b<w.heap.size∧w.cell? ⟨b,off+k,none⟩=some (.int .i64 l[k])∧jae l[k]:=by
 obtain⟨b,o,c,ca,e,-,hb,r,hc⟩:=jaY (jab _) (by decide) h k hk
 simp only[List.cons.injEq,Value.slice.injEq,and_true]at e
 obtain⟨rfl,-,-⟩:=e
 obtain⟨rfl,hw⟩:=r
 have x:=hc 0 _ rfl
 rw[Nat.mul_one,Nat.add_zero]at x
 exact⟨b,o,rfl,hb,x,jaO hw⟩
theorem jiL{p:Nat→Prop}(a:Option Addr)(n cap:Nat)(l:List Int)(m:Int)(w:World)(hl:jap (rInt .i64) w p [.slice a n cap] l) :
  Calls Tryz.prog 163 #[.slice a n cap,.int .i64 m] w fun e w'=>e=.returned (.bool (jcD m l))∧Keep Nix w w':=by
 obtain⟨rfl,-,hf⟩:=ja0 hl
 have hfar:l.length≤9223372036854775807:=by have:=far_len;unfold maxLen at this;omega
 clear hf
 have row0:RowIs (w.alloc (.cells #[.bool false,.bool false,.bool false,.bool false,.bool false,.bool false] 259)) w.heap.size 259 (jeI []):=RowIs.alloc w _ _
 have kk0:Keep Nix w (w.alloc (.cells #[.bool false,.bool false,.bool false,.bool false,.bool false,.bool false] 259)):=(Keep.refl Nix w).alloc _
 go_enter Tryz.func163,Tryz.ntmps163
 go_wp2_with fail
 go_loopw [11] (fun i wr=>∃k:Nat,k≤l.length∧i=.int .i64 k∧Hid (jcN (min m 6) (l.take k))∧RowIs wr w.heap.size 259 (jeI (l.take k))∧Keep Nix w wr) (fun i _=>l.length - (intOf i).toNat)
 case atStart=>exact⟨0,by omega,rfl,jm9 _,row0,kk0⟩
 case round=>
  clear row0 kk0
  obtain⟨k,hk,rfl,hg,row,kk⟩:=hrel
  by_cases hlt:k<l.length
  ·have hi0:(0:Int)≤(k:Int):=by omega
   have hi1:(k:Int)<(l.length:Int):=by omega
   obtain⟨b,off,rfl,hb,x,-⟩:=jls ((jac (jab _)).nix hl kk) k hlt
   have HB:=Lib.hid (jm8 (m:=min m 6) k hlt)
   have HS:=Lib.hid (jhw (m:=min m 6) k hlt)
   clear hl
   generalize hv:l[k]=v at x HB HS
   replace hv:=Lib.hid hv
   have fin:¬jcN (min m 6) l→jcD m l=false:=fun h=>by unfold jcD;rw[decide_eq_false_iff_not];exact fun h2=>h h2.1
   have FIN:=Lib.hid fin
   clear fin
   rcases Int.lt_or_le v 0 with h1 | h1
   ·go_wp2_with fail
    go_ret
    exact⟨jam (FIN.out (HB.out (by omega))).symm,kk⟩
   rcases Int.lt_or_le v m with h2 | h2
   rotate_left
   ·go_wp2_with fail
    go_ret
    exact⟨jam (FIN.out (HB.out (by omega))).symm,kk⟩
   rcases Int.lt_or_le v 6 with h3 | h3
   rotate_left
   ·go_wp2_with fail
    go_ret
    exact⟨jam (FIN.out (HB.out (by omega))).symm,kk⟩
   obtain⟨j,rfl⟩:∃j:Nat,v=(j:Int):=⟨v.toNat,by omega⟩
   have hj:j<6:=by omega
   have y:wr.cell? ⟨w.heap.size,j,none⟩=some (.bool (decide ((j:Int)∈l.take k))):=by rw[row.cell,jlT _ _ hj]
   have yf:=row.frozen j
   by_cases hm:(j:Int)∈l.take k
   ·have hd:decide ((j:Int)∈l.take k)=true:=decide_eq_true hm
    rw[hd]at y
    have HM:=Lib.hid hm
    clear hd hm
    go_wp2_with fail
    go_ret
    exact⟨jam (FIN.out (HB.out (fun h=>h.2.2 HM.out))).symm,kk⟩
   ·have hd:decide ((j:Int)∈l.take k)=false:=decide_eq_false hm
    rw[hd]at y
    have HM:=Lib.hid hm
    have row2:=row.set j (.bool true)
    rw[jkH _ _ hj]at row2
    have kk2:=kk.setCell (p:=⟨w.heap.size,j,none⟩) (fun h=>absurd h (Nat.lt_irrefl _)) (.bool true)
    have HT:Hid (l.take (k+1)=l.take k ++ [(j:Int)]):=by show _=_;rw[List.take_succ_eq_append_getElem hlt,hv.out]
    clear hd hm row kk hv
    go_wp2_with fail
    go_roundw
    case rel=>exact⟨k+1,by omega,by go_num,by show jcN _ _;rw[HS.out];exact⟨hg.out,by omega,by omega,HM.out⟩,by rw[HT.out];exact row2,kk2⟩
    case measure=>simp[intOf];omega
  ·obtain rfl:k=l.length:=by omega
   have hG:jcD m l=decide (1≤l.length):=by
    have:=hg.out
    rw[List.take_length]at this
    unfold jcD;exact decide_eq_decide.2 ⟨fun h=>h.2,fun h=>⟨this,h⟩⟩
   have HG:=Lib.hid hG
   clear hG
   go_wp2_with fail
   go_ret
   exact⟨jam (by rw[HG.out];exact decide_eq_decide.2 (by omega)),kk⟩
/-! ### the reference's -/
section
def jbo{α:Type}(P:α→Bool)(l:List α):Int:=match l.findIdx? P with
 | some i=>(i:Int)
 | none=>-1
theorem jeR{α:Type}{P:α→Bool}{l:List α}(k:Nat)(h:k<l.length)(hn:∀j,j<k→∀x,l[j]?=some x→P x=false)(hp:P l[k]=true):jbo P l=(k:Int):=by
 have:l.findIdx? P=some k:=by
  rw[List.findIdx?_eq_some_iff_getElem]
  exact⟨h,hp,fun j hj=>by simp[hn j hj _ (List.getElem?_eq_getElem (by omega))]⟩
 unfold jbo;rw[this]
theorem jeA{α:Type}{P:α→Bool}{l:List α}(hn:∀j,j<l.length→∀x,l[j]?=some x→P x=false):jbo P l=-1:=by
 have:l.findIdx? P=none:=by
  rw[List.findIdx?_eq_none_iff]
  intro x hx
  obtain⟨j,hj,rfl⟩:=List.mem_iff_getElem.1 hx
  exact hn j hj _ (List.getElem?_eq_getElem hj)
 unfold jbo;rw[this]
theorem jb6{α:Type}(P:α→Bool)(l:List α):(jbo P l=-1∧∀x∈l,P x=false)∨∃(k:Nat) (h:k<l.length),jbo P l=(k:Int)∧P l[k]=true∧∀j (hj:j<k),P (l[j]'(by omega))=false:=by
 cases hf:l.findIdx? P with
 | none=>
  exact .inl ⟨by unfold jbo;rw[hf],fun x hx=>by
   have:=List.findIdx?_eq_none_iff.1 hf x hx;simpa using this⟩
 | some k=>
  obtain⟨h,h1,h2⟩:=List.findIdx?_eq_some_iff_getElem.1 hf
  exact .inr ⟨k,h,by unfold jbo;rw[hf],h1,fun j hj=>by have:=h2 j hj;simpa using this⟩
def NoneYet{α:Type}(P:α→Bool)(l:List α)(k:Nat):Prop:=∀j,j<k→∀x,l[j]?=some x→P x=false
theorem NoneYet.succ{α:Type}{P:α→Bool}{l:List α}{k:Nat}(h:NoneYet P l k)(hk:k<l.length)(hp:P l[k]=false):NoneYet P l (k+1):=fun j hj x hx=>by
 by_cases e:j=k
 ·subst e;rw[List.getElem?_eq_getElem hk]at hx;cases hx;exact hp
 ·exact h j (by omega) x hx
section
attribute [local go_sem ↓] jfC
theorem jlA{p:Nat→Prop}(a:Option Addr)(n cap:Nat)(l:List GColumn)(fv:FuncId)(u:Value)(P:GColumn→Bool)(w:World)(hl:jap jbl w p [.slice a n cap] l)
  (hE:∀args w,(callFunc fv args).run Tryz.prog w=.ok (.enter fv args) w) (hF:(∀(w':World) (x:GColumn) (cs:List Value),Keep Nix w w'→x∈l→jbl w' p cs x→Calls Tryz.prog fv #[.agg cs.toArray,u] w' fun e w''=>e=.returned (.bool (P x))∧Keep Nix w' w'')) :
  Calls Tryz.prog 165 #[.slice a n cap,.func (.func fv) #[] #[u]] w fun e w'=>e=.returned (.int .i64 (jbo P l))∧Keep Nix w w':=by
 obtain⟨rfl,-,hf⟩:=ja0 hl
 have hfar:l.length≤9223372036854775807:=by have:=far_len;unfold maxLen at this;omega
 have HF:=Lib.hid hF
 clear hf hF
 go_enter Tryz.func165,Tryz.ntmps165
 go_wp2_with fail
 go_loopw [8] (fun i wr=>∃k:Nat,k≤l.length∧i=.int .i64 k∧Hid (NoneYet P l k)∧Keep Nix w wr) (fun i _=>l.length - (intOf i).toNat)
 case atStart=>exact⟨0,by omega,rfl,fun j hj=>by omega,Keep.refl _ _⟩
 case round=>
  obtain⟨k,hk,rfl,hg,kk⟩:=hrel
  by_cases hlt:k<l.length
  ·have hi0:(0:Int)≤(k:Int):=by omega
   have hi1:(k:Int)<(l.length:Int):=by omega
   have HM:Hid (l[k]∈l):=List.getElem_mem hlt
   have HA:=Lib.hid (jeR (P:=P) k hlt hg.out)
   have HS:=Lib.hid (hg.out.succ (P:=P) hlt)
   obtain⟨b,o,c,cs,e1,-,hb,r,hc⟩:=jaY rGColumn_lawful (by decide) ((jac rGColumn_lawful).nix hl kk) k hlt
   simp only[List.cons.injEq,Value.slice.injEq,and_true]at e1
   obtain⟨rfl,-,-⟩:=e1
   have ld:=Whole.at (P:=Tryz.prog) S_Column (rGColumn_lawful.len r) hc
   unfold Whole at ld
   clear hl hc
   generalize l[k]=x at HM HA HS r
   have hcall:=HF.out wr x cs kk HM.out r
   clear r
   rcases hP:P x with _ | _
   ·rw[hP]at hcall
    have HP:=Lib.hid hP
    have HC:=Lib.hid hcall
    clear hP hcall
    go_wp2_with fail
    go_fit HC.out
    clear HC
    rintro e w2 ⟨rfl,k2⟩
    replace kk:=kk.trans k2
    clear k2
    go_wp2_with fail
    go_roundw
    case rel=>exact⟨k+1,by omega,by go_num,HS.out HP.out,kk⟩
    case measure=>simp[intOf];omega
   ·rw[hP]at hcall
    have HP:=Lib.hid hP
    have HC:=Lib.hid hcall
    clear hP hcall
    go_wp2_with fail
    go_fit HC.out
    clear HC
    rintro e w2 ⟨rfl,k2⟩
    replace kk:=kk.trans k2
    clear k2
    go_wp2_with fail
    go_ret
    exact⟨jb9 (HA.out HP.out).symm,kk⟩
  ·obtain rfl:k=l.length:=by omega
   have HN:=Lib.hid (jeA (P:=P) hg.out)
   go_wp2_with fail
   go_ret
   exact⟨jb9 HN.out.symm,kk⟩
end
section
attribute [local go_sem ↓] jcd
theorem jgd{p:Nat→Prop}(a:Option Addr)(n cap:Nat)(l:List GTable)(fv:FuncId)(u:Value)(P:GTable→Bool)(w:World)(hl:jap jaG w p [.slice a n cap] l)
  (hE:∀args w,(callFunc fv args).run Tryz.prog w=.ok (.enter fv args) w) (hF:(∀(w':World) (x:GTable) (cs:List Value),Keep Nix w w'→x∈l→jaG w' p cs x→Calls Tryz.prog fv #[.agg cs.toArray,u] w' fun e w''=>e=.returned (.bool (P x))∧Keep Nix w' w'')) :
  Calls Tryz.prog 142 #[.slice a n cap,.func (.func fv) #[] #[u]] w fun e w'=>e=.returned (.int .i64 (jbo P l))∧Keep Nix w w':=by
 obtain⟨rfl,-,hf⟩:=ja0 hl
 have hfar:l.length≤9223372036854775807:=by have:=far_len;unfold maxLen at this;omega
 have HF:=Lib.hid hF
 clear hf hF
 go_enter Tryz.func142,Tryz.ntmps142
 go_wp2_with fail
 go_loopw [8] (fun i wr=>∃k:Nat,k≤l.length∧i=.int .i64 k∧Hid (NoneYet P l k)∧Keep Nix w wr) (fun i _=>l.length - (intOf i).toNat)
 case atStart=>exact⟨0,by omega,rfl,fun j hj=>by omega,Keep.refl _ _⟩
 case round=>
  obtain⟨k,hk,rfl,hg,kk⟩:=hrel
  by_cases hlt:k<l.length
  ·have hi0:(0:Int)≤(k:Int):=by omega
   have hi1:(k:Int)<(l.length:Int):=by omega
   have HM:Hid (l[k]∈l):=List.getElem_mem hlt
   have HA:=Lib.hid (jeR (P:=P) k hlt hg.out)
   have HS:=Lib.hid (hg.out.succ (P:=P) hlt)
   obtain⟨b,o,c,cs,e1,-,hb,r,hc⟩:=jaY rGTable_lawful (by decide) ((jac rGTable_lawful).nix hl kk) k hlt
   simp only[List.cons.injEq,Value.slice.injEq,and_true]at e1
   obtain⟨rfl,-,-⟩:=e1
   have ld:=Whole.at (P:=Tryz.prog) S_Table (rGTable_lawful.len r) hc
   unfold Whole at ld
   clear hl hc
   generalize l[k]=x at HM HA HS r
   have hcall:=HF.out wr x cs kk HM.out r
   clear r
   rcases hP:P x with _ | _
   ·rw[hP]at hcall
    have HP:=Lib.hid hP
    have HC:=Lib.hid hcall
    clear hP hcall
    go_wp2_with fail
    go_fit HC.out
    clear HC
    rintro e w2 ⟨rfl,k2⟩
    replace kk:=kk.trans k2
    clear k2
    go_wp2_with fail
    go_roundw
    case rel=>exact⟨k+1,by omega,by go_num,HS.out HP.out,kk⟩
    case measure=>simp[intOf];omega
   ·rw[hP]at hcall
    have HP:=Lib.hid hP
    have HC:=Lib.hid hcall
    clear hP hcall
    go_wp2_with fail
    go_fit HC.out
    clear HC
    rintro e w2 ⟨rfl,k2⟩
    replace kk:=kk.trans k2
    clear k2
    go_wp2_with fail
    go_ret
    exact⟨jb9 (HA.out HP.out).symm,kk⟩
  ·obtain rfl:k=l.length:=by omega
   have HN:=Lib.hid (jeA (P:=P) hg.out)
   go_wp2_with fail
   go_ret
   exact⟨jb9 HN.out.symm,kk⟩
end
section
attribute [local go_sem ↓] jc0
theorem jgc{p:Nat→Prop}(a:Option Addr)(n cap:Nat)(l:List GIndex)(fv:FuncId)(u:Value)(P:GIndex→Bool)(w:World)(hl:jap jaZ w p [.slice a n cap] l)
  (hE:∀args w,(callFunc fv args).run Tryz.prog w=.ok (.enter fv args) w) (hF:(∀(w':World) (x:GIndex) (cs:List Value),Keep Nix w w'→x∈l→jaZ w' p cs x→Calls Tryz.prog fv #[.agg cs.toArray,u] w' fun e w''=>e=.returned (.bool (P x))∧Keep Nix w' w'')) :
  Calls Tryz.prog 109 #[.slice a n cap,.func (.func fv) #[] #[u]] w fun e w'=>e=.returned (.int .i64 (jbo P l))∧Keep Nix w w':=by
 obtain⟨rfl,-,hf⟩:=ja0 hl
 have hfar:l.length≤9223372036854775807:=by have:=far_len;unfold maxLen at this;omega
 have HF:=Lib.hid hF
 clear hf hF
 go_enter Tryz.func109,Tryz.ntmps109
 go_wp2_with fail
 go_loopw [8] (fun i wr=>∃k:Nat,k≤l.length∧i=.int .i64 k∧Hid (NoneYet P l k)∧Keep Nix w wr) (fun i _=>l.length - (intOf i).toNat)
 case atStart=>exact⟨0,by omega,rfl,fun j hj=>by omega,Keep.refl _ _⟩
 case round=>
  obtain⟨k,hk,rfl,hg,kk⟩:=hrel
  by_cases hlt:k<l.length
  ·have hi0:(0:Int)≤(k:Int):=by omega
   have hi1:(k:Int)<(l.length:Int):=by omega
   have HM:Hid (l[k]∈l):=List.getElem_mem hlt
   have HA:=Lib.hid (jeR (P:=P) k hlt hg.out)
   have HS:=Lib.hid (hg.out.succ (P:=P) hlt)
   obtain⟨b,o,c,cs,e1,-,hb,r,hc⟩:=jaY rGIndex_lawful (by decide) ((jac rGIndex_lawful).nix hl kk) k hlt
   simp only[List.cons.injEq,Value.slice.injEq,and_true]at e1
   obtain⟨rfl,-,-⟩:=e1
   have ld:=Whole.at (P:=Tryz.prog) S_Index (rGIndex_lawful.len r) hc
   unfold Whole at ld
   clear hl hc
   generalize l[k]=x at HM HA HS r
   have hcall:=HF.out wr x cs kk HM.out r
   clear r
   rcases hP:P x with _ | _
   ·rw[hP]at hcall
    have HP:=Lib.hid hP
    have HC:=Lib.hid hcall
    clear hP hcall
    go_wp2_with fail
    go_fit HC.out
    clear HC
    rintro e w2 ⟨rfl,k2⟩
    replace kk:=kk.trans k2
    clear k2
    go_wp2_with fail
    go_roundw
    case rel=>exact⟨k+1,by omega,by go_num,HS.out HP.out,kk⟩
    case measure=>simp[intOf];omega
   ·rw[hP]at hcall
    have HP:=Lib.hid hP
    have HC:=Lib.hid hcall
    clear hP hcall
    go_wp2_with fail
    go_fit HC.out
    clear HC
    rintro e w2 ⟨rfl,k2⟩
    replace kk:=kk.trans k2
    clear k2
    go_wp2_with fail
    go_ret
    exact⟨jb9 (HA.out HP.out).symm,kk⟩
  ·obtain rfl:k=l.length:=by omega
   have HN:=Lib.hid (jeA (P:=P) hg.out)
   go_wp2_with fail
   go_ret
   exact⟨jb9 HN.out.symm,kk⟩
end
section
theorem jpt{p:Nat→Prop}(a:Option Addr)(n cap:Nat)(l:List Int)(fv:FuncId)(u:Value)(P:Int→Bool)(w:World)(hl:jap (rInt .i64) w p [.slice a n cap] l)
  (hE:∀args w,(callFunc fv args).run Tryz.prog w=.ok (.enter fv args) w) (hF:(∀(w':World) (x:Int),Keep Nix w w'→x∈l→Calls Tryz.prog fv #[.int .i64 x,u] w' fun e w''=>e=.returned (.bool (P x))∧Keep Nix w' w'')) :
  Calls Tryz.prog 198 #[.slice a n cap,.func (.func fv) #[] #[u]] w fun e w'=>e=.returned (.int .i64 (jbo P l))∧Keep Nix w w':=by
 obtain⟨rfl,-,hf⟩:=ja0 hl
 have hfar:l.length≤9223372036854775807:=by have:=far_len;unfold maxLen at this;omega
 have HF:=Lib.hid hF
 clear hf hF
 go_enter Tryz.func198,Tryz.ntmps198
 go_wp2_with fail
 go_loopw [8] (fun i wr=>∃k:Nat,k≤l.length∧i=.int .i64 k∧Hid (NoneYet P l k)∧Keep Nix w wr) (fun i _=>l.length - (intOf i).toNat)
 case atStart=>exact⟨0,by omega,rfl,fun j hj=>by omega,Keep.refl _ _⟩
 case round=>
  obtain⟨k,hk,rfl,hg,kk⟩:=hrel
  by_cases hlt:k<l.length
  ·have hi0:(0:Int)≤(k:Int):=by omega
   have hi1:(k:Int)<(l.length:Int):=by omega
   have HM:Hid (l[k]∈l):=List.getElem_mem hlt
   have HA:=Lib.hid (jeR (P:=P) k hlt hg.out)
   have HS:=Lib.hid (hg.out.succ (P:=P) hlt)
   obtain⟨b,o,rfl,hb,y,-⟩:=jls ((jac (jab _)).nix hl kk) k hlt
   clear hl
   generalize l[k]=x at HM HA HS y
   have hcall:=HF.out wr x kk HM.out
   rcases hP:P x with _ | _
   ·rw[hP]at hcall
    have HP:=Lib.hid hP
    have HC:=Lib.hid hcall
    clear hP hcall
    go_wp2_with fail
    go_fit HC.out
    clear HC
    rintro e w2 ⟨rfl,k2⟩
    replace kk:=kk.trans k2
    clear k2
    go_wp2_with fail
    go_roundw
    case rel=>exact⟨k+1,by omega,by go_num,HS.out HP.out,kk⟩
    case measure=>simp[intOf];omega
   ·rw[hP]at hcall
    have HP:=Lib.hid hP
    have HC:=Lib.hid hcall
    clear hP hcall
    go_wp2_with fail
    go_fit HC.out
    clear HC
    rintro e w2 ⟨rfl,k2⟩
    replace kk:=kk.trans k2
    clear k2
    go_wp2_with fail
    go_ret
    exact⟨jb9 (HA.out HP.out).symm,kk⟩
  ·obtain rfl:k=l.length:=by omega
   have HN:=Lib.hid (jeA (P:=P) hg.out)
   go_wp2_with fail
   go_ret
   exact⟨jb9 HN.out.symm,kk⟩
end
theorem jpi{p:Nat→Prop}(a:Option Addr)(n cap:Nat)(l:List Int)(fv:FuncId)(u:Value)(P:Int→Bool)(w:World)(hl:jap (rInt .i64) w p [.slice a n cap] l)
  (hE:∀args w,(callFunc fv args).run Tryz.prog w=.ok (.enter fv args) w) (hF:∀(w':World) (x:Int),Keep Nix w w'→x∈l→Calls Tryz.prog fv #[.int .i64 x,u] w' fun e w''=>e=.returned (.bool (P x))∧Keep Nix w' w'') :
  Calls Tryz.prog 166 #[.slice a n cap,.func (.func fv) #[] #[u]] w fun e w'=>e=.returned (.bool (l.any P))∧Keep Nix w w':=by
 have hany:decide (0≤jbo P l)=l.any P:=by
  rcases jb6 P l with⟨h1,h2⟩ | ⟨k,h,h1,h2,-⟩
  ·rw[h1]
   have:l.any P=false:=by rw[List.any_eq_false];exact fun x hx=>by simp[h2 x hx]
   rw[this];rfl
  ·rw[h1]
   have:l.any P=true:=by rw[List.any_eq_true];exact⟨_,List.getElem_mem h,h2⟩
   rw[this];exact decide_eq_true (by omega)
 have HANY:=Lib.hid hany
 clear hany
 go_enter Tryz.func166,Tryz.ntmps166
 go_wp2_with fail
 go_fit (jpt a n cap l fv u P w hl hE hF)
 rintro e w2 ⟨rfl,k2⟩
 go_wp2_with fail
 go_ret
 exact⟨jam HANY.out,k2⟩
end
theorem jh8(w:World)(e sz base:Nat)(hb:base≤w.heap.size):(w.alloc (.cells #[] e)).ownsRow base e sz (.slice (some ⟨w.heap.size,0,none⟩) 0 0) 0 []:=by
 refine⟨by simp,.inr ⟨w.heap.size,0,#[],rfl,hb,heap_alloc_new _ _,Nat.le_refl _,Nat.zero_le _,by simp,by simp⟩⟩
theorem ji7{P:Program}{t e n bytes:Nat}(S:SliceT P t e n bytes)(w:World):(Instr.buildSlice t 0 #[]).run P w=.ok (.slice (some ⟨w.heap.size,0,none⟩) 0 0) (w.alloc (.cells #[] e)):=by
 obtain⟨i,z,hi,hz,hsz,hby,hzs⟩:=S.info
 unfold Instr.buildSlice
 simp[run_underlying S.under,sizeOf,typeInfo,hi,newRow,newObj,Instr.fill]
 have e:∀f:Nat→Value,Array.map f (Array.range 0)=#[]:=fun f=>by apply Array.eq_empty_of_size_eq_zero;simp
 rw[e]
 rfl
theorem jiE{α:Type}{R:RD α}{w:World}{p:Nat→Prop}{a:Option Addr}{n cap:Nat}{l:List α}(h:jap R w p [.slice a n cap] l):∃css,Lies w p a css.flatten∧Els R w p css l:=by
 obtain⟨a',cap',css,e,h1,h2,h3,h4,h5⟩:=h
 simp only[List.cons.injEq,Value.slice.injEq,and_true]at e
 obtain⟨rfl,rfl,rfl⟩:=e
 exact⟨css,h2,h1,h5⟩
theorem Els.flat_len{α:Type}{R:RD α}{sz:Nat}{w:World}{p:Nat→Prop}(L:Lawful R sz){css:List (List Value)}{l:List α}(h:Els R w p css l):css.flatten.length=l.length*sz:=by
 have key:∀(css:List (List Value)),(∀c∈css,c.length=sz)→css.flatten.length=css.length*sz:=by
  intro css
  induction css with
  | nil=>intro _;simp
  | cons c css ih=>
   intro hc
   rw[List.flatten_cons,List.length_append,ih (fun d hd=>hc d (by simp[hd])),hc c (by simp),List.length_cons,Nat.add_mul];omega
 rw[key css (fun c hc=>by
  obtain⟨i,hi,rfl⟩:=List.mem_iff_getElem.1 hc
  exact L.len (h.2 i _ (l[i]'(by rw[←h.1];exact hi)) (List.getElem?_eq_getElem hi) (List.getElem?_eq_getElem _))),h.1]
theorem Els.ones{α:Type}{R:RD α}{w:World}{p:Nat→Prop}(L:∀ {cs:List Value} {x:α},R w p cs x→Go.Proofs.YtibaehlfpgipfaaGreat.ones cs=true){css:List (List Value)}{l:List α}(h:Els R w p css l):∀u∈css.flatten,u.oneCell'=true:=by
 intro u hu
 obtain⟨c,hc,hu⟩:=List.mem_flatten.1 hu
 obtain⟨i,hi,rfl⟩:=List.mem_iff_getElem.1 hc
 have:=L (h.2 i _ (l[i]'(by rw[←h.1];exact hi)) (List.getElem?_eq_getElem hi) (List.getElem?_eq_getElem _))
 exact List.all_eq_true.1 this u hu
theorem jl4{p:Nat→Prop}(a:Option Addr)(n cap:Nat)(l:List GColumn)(w:World)(hl:jap jbl w p [.slice a n cap] l)(hr:n*32≤140737488355328) :
  Calls Tryz.prog 123 #[.slice a n cap] w fun e w'=>∃a' cap' css,e=.returned (.slice a' n cap')∧w'.ownsRow w.heap.size 148 3 (.slice a' n cap') n css.flatten∧Els jbl w' p css l∧Keep Nix w w':=by
 obtain⟨rfl,hcap,hf⟩:=ja0 hl
 have hfar:l.length≤9223372036854775807:=by have:=far_len;unfold maxLen at this;omega
 obtain⟨css,lies,els⟩:=jiE hl
 have hm:l.length≤maxLen:=by have:=far_len;omega
 have H1:=els.ones jje
 have hfl:=els.flat_len rGColumn_lawful
 clear hl hf
 cases a with
 | none=>
  have h0:l.length=0:=by
   by_cases h:css.flatten=[]
   ·rw[h]at hfl;simp at hfl;omega
   ·obtain⟨b,off,hb,-⟩:=lies h;cases hb
  obtain rfl:l=[]:=List.eq_nil_of_length_eq_zero h0
  obtain rfl:css=[]:=List.eq_nil_of_length_eq_zero (by have:=els.1;simpa using this)
  have hnil:=fun(w':World) (n c:Nat)=>Lib.run_eql_slice_nil (P:=Tryz.prog) w' 36 148 none n c 0 0 Tryz.underlying36
  clear lies H1 hfl
  go_enter Tryz.func123,Tryz.ntmps123
  go_wp2_with fail
  go_ret
  exact⟨none,0,[],rfl,World.ownsRow_nil _ _ _ _,Els.nil _ _ _,Keep.refl _ _⟩
 | some ad=>
  have hnil:=fun(w':World)=>Lib.run_eql_slice_nil (P:=Tryz.prog) w' 36 148 (some ad) l.length cap 0 0 Tryz.underlying36
  have hl0:=fun w'=>ji7 T_lColumn w'
  have own0:=jh8 w 148 3 w.heap.size (Nat.le_refl _)
  have lies2:=lies.keep ((Keep.refl Nix w).alloc (.cells #[] 148)) (fun _ _ h=>h)
  have hsz:w.heap.size≤(w.alloc (.cells #[] 148)).heap.size:=by simp
  clear lies
  go_enter Tryz.func123,Tryz.ntmps123
  go_wp2_with (at_builtin;refine jcy T_lColumn rfl (.tmp 5) (.tmp 6) rfl w.heap.size rfl own0 css.flatten rfl hfl lies2 H1 ?c1 ?c2 hsz ?_)
  case c1=>rw[Nat.zero_add];exact hm
  case c2=>rw[Nat.zero_add];exact hr
  intro a' cap' w2 own2 hg
  have kk:Keep Nix w w2:=((Keep.refl Nix w).alloc (.cells #[] 148)).grown hg (fun k hk hlt=>by simp[Value.ownBlock]at hk;omega)
  (try rw[Nat.zero_add,List.nil_append]at own2)
  clear own0 hg lies2
  go_wp2
  go_ret
  exact⟨a',cap',css,by simp,own2,els.keep rGColumn_lawful kk (fun _ _ h=>h),kk⟩
theorem jlc{p:Nat→Prop}(a:Option Addr)(n cap:Nat)(l:List Int)(w:World)(hl:jap (rInt .i64) w p [.slice a n cap] l)(hr:n*8≤140737488355328) :
  Calls Tryz.prog 124 #[.slice a n cap] w fun e w'=>∃a' cap' css,e=.returned (.slice a' n cap')∧w'.ownsRow w.heap.size 3 1 (.slice a' n cap') n css.flatten∧Els (rInt .i64) w' p css l∧Keep Nix w w':=by
 obtain⟨rfl,hcap,hf⟩:=ja0 hl
 have hfar:l.length≤9223372036854775807:=by have:=far_len;unfold maxLen at this;omega
 obtain⟨css,lies,els⟩:=jiE hl
 have hm:l.length≤maxLen:=by have:=far_len;omega
 have H1:=els.ones jmY
 have hfl:=els.flat_len (jab _)
 clear hl hf
 cases a with
 | none=>
  have h0:l.length=0:=by
   by_cases h:css.flatten=[]
   ·rw[h]at hfl;simp at hfl;omega
   ·obtain⟨b,off,hb,-⟩:=lies h;cases hb
  obtain rfl:l=[]:=List.eq_nil_of_length_eq_zero h0
  obtain rfl:css=[]:=List.eq_nil_of_length_eq_zero (by have:=els.1;simpa using this)
  have hnil:=fun(w':World) (n c:Nat)=>Lib.run_eql_slice_nil (P:=Tryz.prog) w' 37 3 none n c 0 0 Tryz.underlying37
  clear lies H1 hfl
  go_enter Tryz.func124,Tryz.ntmps124
  go_wp2_with fail
  go_ret
  exact⟨none,0,[],rfl,World.ownsRow_nil _ _ _ _,Els.nil _ _ _,Keep.refl _ _⟩
 | some ad=>
  have hnil:=fun(w':World)=>Lib.run_eql_slice_nil (P:=Tryz.prog) w' 37 3 (some ad) l.length cap 0 0 Tryz.underlying37
  have hl0:=fun w'=>ji7 jjv w'
  have own0:=jh8 w 3 1 w.heap.size (Nat.le_refl _)
  have lies2:=lies.keep ((Keep.refl Nix w).alloc (.cells #[] 3)) (fun _ _ h=>h)
  have hsz:w.heap.size≤(w.alloc (.cells #[] 3)).heap.size:=by simp
  clear lies
  go_enter Tryz.func124,Tryz.ntmps124
  go_wp2_with (at_builtin;refine jcy jjv rfl (.tmp 5) (.tmp 6) rfl w.heap.size rfl own0 css.flatten rfl hfl lies2 H1 ?c1 ?c2 hsz ?_)
  case c1=>rw[Nat.zero_add];exact hm
  case c2=>rw[Nat.zero_add];exact hr
  intro a' cap' w2 own2 hg
  have kk:Keep Nix w w2:=((Keep.refl Nix w).alloc (.cells #[] 3)).grown hg (fun k hk hlt=>by simp[Value.ownBlock]at hk;omega)
  (try rw[Nat.zero_add,List.nil_append]at own2)
  clear own0 hg lies2
  go_wp2
  go_ret
  exact⟨a',cap',css,by simp,own2,els.keep (jab _) kk (fun _ _ h=>h),kk⟩
theorem jhz(x y:Int):(x == y)=decide (x=y):=by rw[Bool.eq_iff_iff];simp
theorem jiV{p:Nat→Prop}(x:GColumn)(cs:List Value)(b:Nat)(y:List UInt8)(w:World)(hx:jbl w p cs x)(hb:b<w.heap.size)(hc:w.cell? ⟨b,0,none⟩=some (.string (strB y))) :
  Calls Tryz.prog 164 #[.agg cs.toArray,.pointer (some ⟨b,0,none⟩)] w fun e w'=>e=.returned (.bool (decide (x.fName=y)))∧Keep Nix w w':=by
 obtain⟨rfl,-⟩:=jcE hx
 have kk:Keep Nix w (w.alloc (.cells #[.string (strB x.fName),.int .i64 x.fKind,.bool x.fNull] 148)):=(Keep.refl Nix w).alloc _
 have hc':(w.alloc (.cells #[.string (strB x.fName),.int .i64 x.fKind,.bool x.fNull] 148)).cell? ⟨b,0,none⟩=some (.string (strB y)):=(kk.cell (p:=⟨b,0,none⟩) hb id).trans hc
 have HE:=Lib.hid (jes x.fName y)
 clear hx hc
 go_enter Tryz.func164,Tryz.ntmps164
 go_wp2
 go_ret
 exact⟨jam (by first | exact HE.out | simp),kk⟩
theorem jpp{p:Nat→Prop}(x:GTable)(cs:List Value)(b:Nat)(y:Int)(w:World)(hx:jaG w p cs x)(hb:b<w.heap.size)(hc:w.cell? ⟨b,0,none⟩=some (.int .i64 y)) :
  Calls Tryz.prog 194 #[.agg cs.toArray,.pointer (some ⟨b,0,none⟩)] w fun e w'=>e=.returned (.bool (decide (x.fID=y)))∧Keep Nix w w':=by
 obtain⟨jaj,jak,aKey,cKey,rfl,-⟩:=jbw hx
 have kk:Keep Nix w (w.alloc (.cells #[.int .i64 x.fID,.string (strB x.fName),.slice jaj x.fColumns.length jak,.slice aKey x.fKey.length cKey] 39)):=(Keep.refl Nix w).alloc _
 have hc':(w.alloc (.cells #[.int .i64 x.fID,.string (strB x.fName),.slice jaj x.fColumns.length jak,.slice aKey x.fKey.length cKey] 39)).cell? ⟨b,0,none⟩=some (.int .i64 y):=(kk.cell (p:=⟨b,0,none⟩) hb id).trans hc
 have HE:=Lib.hid (jhz x.fID y)
 clear hx hc
 go_enter Tryz.func194,Tryz.ntmps194
 go_wp2
 go_ret
 exact⟨jam (by first | exact HE.out | simp),kk⟩
theorem jnX{p:Nat→Prop}(x:GTable)(cs:List Value)(b:Nat)(y:List UInt8)(w:World)(hx:jaG w p cs x)(hb:b<w.heap.size)(hc:w.cell? ⟨b,1,none⟩=some (.string (strB y))) :
  Calls Tryz.prog 141 #[.agg cs.toArray,.pointer (some ⟨b,0,none⟩)] w fun e w'=>e=.returned (.bool (decide (x.fName=y)))∧Keep Nix w w':=by
 obtain⟨jaj,jak,aKey,cKey,rfl,-⟩:=jbw hx
 have kk:Keep Nix w (w.alloc (.cells #[.int .i64 x.fID,.string (strB x.fName),.slice jaj x.fColumns.length jak,.slice aKey x.fKey.length cKey] 39)):=(Keep.refl Nix w).alloc _
 have hc':(w.alloc (.cells #[.int .i64 x.fID,.string (strB x.fName),.slice jaj x.fColumns.length jak,.slice aKey x.fKey.length cKey] 39)).cell? ⟨b,1,none⟩=some (.string (strB y)):=(kk.cell (p:=⟨b,1,none⟩) hb id).trans hc
 have HE:=Lib.hid (jes x.fName y)
 clear hx hc
 go_enter Tryz.func141,Tryz.ntmps141
 go_wp2
 go_ret
 exact⟨jam (by first | exact HE.out | simp),kk⟩
theorem jnY{p:Nat→Prop}(x:GIndex)(cs:List Value)(b:Nat)(y:List UInt8)(w:World)(hx:jaZ w p cs x)(hb:b<w.heap.size)(hc:w.cell? ⟨b,2,none⟩=some (.string (strB y))) :
  Calls Tryz.prog 143 #[.agg cs.toArray,.pointer (some ⟨b,0,none⟩)] w fun e w'=>e=.returned (.bool (decide (x.fName=y)))∧Keep Nix w w':=by
 obtain⟨jaj,jak,rfl,-⟩:=jbA hx
 have kk:Keep Nix w (w.alloc (.cells #[.int .i64 x.fID,.int .i64 x.fTable,.string (strB x.fName),.slice jaj x.fColumns.length jak,.bool x.fUnique,.int .i64 x.fState,.bool x.fBad] 41)):=(Keep.refl Nix w).alloc _
 have hc':(w.alloc (.cells #[.int .i64 x.fID,.int .i64 x.fTable,.string (strB x.fName),.slice jaj x.fColumns.length jak,.bool x.fUnique,.int .i64 x.fState,.bool x.fBad] 41)).cell? ⟨b,2,none⟩=some (.string (strB y)):=(kk.cell (p:=⟨b,2,none⟩) hb id).trans hc
 have HE:=Lib.hid (jes x.fName y)
 clear hx hc
 go_enter Tryz.func143,Tryz.ntmps143
 go_wp2
 go_ret
 exact⟨jam (by first | exact HE.out | simp),kk⟩
theorem jnZ{p:Nat→Prop}(x:GTable)(cs:List Value)(b:Nat)(y:List UInt8)(w:World)(hx:jaG w p cs x)(hb:b<w.heap.size)(hc:w.cell? ⟨b,0,none⟩=some (.string (strB y))) :
  Calls Tryz.prog 161 #[.agg cs.toArray,.pointer (some ⟨b,0,none⟩)] w fun e w'=>e=.returned (.bool (decide (x.fName=y)))∧Keep Nix w w':=by
 obtain⟨jaj,jak,aKey,cKey,rfl,-⟩:=jbw hx
 have kk:Keep Nix w (w.alloc (.cells #[.int .i64 x.fID,.string (strB x.fName),.slice jaj x.fColumns.length jak,.slice aKey x.fKey.length cKey] 39)):=(Keep.refl Nix w).alloc _
 have hc':(w.alloc (.cells #[.int .i64 x.fID,.string (strB x.fName),.slice jaj x.fColumns.length jak,.slice aKey x.fKey.length cKey] 39)).cell? ⟨b,0,none⟩=some (.string (strB y)):=(kk.cell (p:=⟨b,0,none⟩) hb id).trans hc
 have HE:=Lib.hid (jes x.fName y)
 clear hx hc
 go_enter Tryz.func161,Tryz.ntmps161
 go_wp2
 go_ret
 exact⟨jam (by first | exact HE.out | simp),kk⟩
theorem jpq{p:Nat→Prop}(x:GIndex)(cs:List Value)(b:Nat)(y:List UInt8)(w:World)(hx:jaZ w p cs x)(hb:b<w.heap.size)(hc:w.cell? ⟨b,0,none⟩=some (.string (strB y))) :
  Calls Tryz.prog 168 #[.agg cs.toArray,.pointer (some ⟨b,0,none⟩)] w fun e w'=>e=.returned (.bool (decide (x.fName=y)))∧Keep Nix w w':=by
 obtain⟨jaj,jak,rfl,-⟩:=jbA hx
 have kk:Keep Nix w (w.alloc (.cells #[.int .i64 x.fID,.int .i64 x.fTable,.string (strB x.fName),.slice jaj x.fColumns.length jak,.bool x.fUnique,.int .i64 x.fState,.bool x.fBad] 41)):=(Keep.refl Nix w).alloc _
 have hc':(w.alloc (.cells #[.int .i64 x.fID,.int .i64 x.fTable,.string (strB x.fName),.slice jaj x.fColumns.length jak,.bool x.fUnique,.int .i64 x.fState,.bool x.fBad] 41)).cell? ⟨b,0,none⟩=some (.string (strB y)):=(kk.cell (p:=⟨b,0,none⟩) hb id).trans hc
 have HE:=Lib.hid (jes x.fName y)
 clear hx hc
 go_enter Tryz.func168,Tryz.ntmps168
 go_wp2
 go_ret
 exact⟨jam (by first | exact HE.out | simp),kk⟩
theorem jpo{p:Nat→Prop}(x:GIndex)(cs:List Value)(b:Nat)(y:Int)(w:World)(hx:jaZ w p cs x)(hb:b<w.heap.size)(hc:w.cell? ⟨b,0,none⟩=some (.int .i64 y)) :
  Calls Tryz.prog 110 #[.agg cs.toArray,.pointer (some ⟨b,0,none⟩)] w fun e w'=>e=.returned (.bool (decide (x.fID=y)))∧Keep Nix w w':=by
 obtain⟨jaj,jak,rfl,-⟩:=jbA hx
 have kk:Keep Nix w (w.alloc (.cells #[.int .i64 x.fID,.int .i64 x.fTable,.string (strB x.fName),.slice jaj x.fColumns.length jak,.bool x.fUnique,.int .i64 x.fState,.bool x.fBad] 41)):=(Keep.refl Nix w).alloc _
 have hc':(w.alloc (.cells #[.int .i64 x.fID,.int .i64 x.fTable,.string (strB x.fName),.slice jaj x.fColumns.length jak,.bool x.fUnique,.int .i64 x.fState,.bool x.fBad] 41)).cell? ⟨b,0,none⟩=some (.int .i64 y):=(kk.cell (p:=⟨b,0,none⟩) hb id).trans hc
 have HE:=Lib.hid (jhz x.fID y)
 clear hx hc
 go_enter Tryz.func110,Tryz.ntmps110
 go_wp2
 go_ret
 exact⟨jam (by first | exact HE.out | simp),kk⟩
theorem jiW{p:Nat→Prop}(l:List GColumn)(a:Option Addr)(n cap:Nat)(b:Nat)(k:Int)(w:World)(hl:jap jbl w p [.slice a n cap] l)(hc:w.cell? ⟨b,2,none⟩=some (.slice a n cap))(h0:0≤k)(h1:k<l.length) :
  Calls Tryz.prog 167 #[.int .i64 k,.pointer (some ⟨b,0,none⟩)] w fun e w'=>e=.returned (.bool ((l[k.toNat]'(by omega)).fNull))∧Keep Nix w w':=by
 obtain⟨rfl,hcap,hf⟩:=ja0 hl
 obtain⟨j,rfl⟩:∃j:Nat,k=(j:Int):=⟨k.toNat,by omega⟩
 have hj:j<l.length:=by omega
 simp only[Int.toNat_natCast]
 obtain⟨b1,o,c,cs,e1,-,hb1,r,hcell⟩:=jaY rGColumn_lawful (by decide) hl j hj
 simp only[List.cons.injEq,Value.slice.injEq,and_true]at e1
 obtain⟨rfl,-,-⟩:=e1
 obtain⟨rfl,-⟩:=jcE r
 have x2:=hcell 2 _ rfl
 clear hl hf r hcell hcap
 generalize l[j]=z at x2
 go_enter Tryz.func167,Tryz.ntmps167
 go_wp2
 go_ret
 exact⟨rfl,Keep.refl _ _⟩
section
/-! ### plainly -/
def allB(n:Nat)(Q:Nat→Bool):Bool:=decide (∀j,j<n→Q j=true)
theorem jgV{n:Nat}{Q:Nat→Bool}(k:Nat)(h:k<n)(hq:Q k=false):allB n Q=false:=by
 unfold allB;rw[decide_eq_false_iff_not];intro ha;rw[ha k h]at hq;cases hq
theorem jga{n:Nat}{Q:Nat→Bool}(h:∀j,j<n→Q j=true):allB n Q=true:=decide_eq_true h
def jgz(C:List GColumn)(i:Nat)(c:GColumn):Bool:=jcO c.fName && (decide (c.fKind=1∨c.fKind=2) && decide (jbo (fun o=>decide (o.fName=c.fName)) C=(i:Int)))
def colQ(C:List GColumn)(i:Nat):Bool:=match C[i]? with
 | some c=>jgz C i c
 | none=>true
theorem jld{C:List GColumn}{i:Nat}(h:i<C.length):colQ C i=jgz C i C[i]:=by unfold colQ;rw[List.getElem?_eq_getElem h]
def jgf(C:List GColumn)(k:Int):Bool:=match C[k.toNat]? with
 | some c=>c.fNull
 | none=>false
theorem jmO{C:List GColumn}{k:Int}(h0:0≤k)(h1:k<C.length):jgf C k=(C[k.toNat]'(by omega)).fNull:=by unfold jgf;rw[List.getElem?_eq_getElem (by omega)]
def jbq(t:GTable):Bool:=jcO t.fName && (decide (1≤t.fColumns.length∧t.fColumns.length≤6) && (jcD t.fColumns.length t.fKey && (allB t.fColumns.length (colQ t.fColumns) && !(t.fKey.any (jgf t.fColumns)))))
/-! ### the program's -/
section
attribute [local go_sem ↓] jfC jhO
theorem jfW{p:Nat→Prop}(t:GTable)(cs:List Value)(w:World)(ht:jaG w p cs t):Calls Tryz.prog 106 #[.agg cs.toArray] w fun e w'=>e=.returned (.bool (jbq t))∧Keep Nix w w':=by
 obtain⟨aC,cC,aK,cK,rfl,-,hn,hC,hK,-⟩:=jbw ht
 have kk:Keep Nix w (w.alloc (.cells #[.int .i64 t.fID,.string (strB t.fName),.slice aC t.fColumns.length cC,.slice aK t.fKey.length cK] 39)):=(Keep.refl Nix w).alloc _
 have row0:RowIs (w.alloc (.cells #[.int .i64 t.fID,.string (strB t.fName),.slice aC t.fColumns.length cC,.slice aK t.fKey.length cK] 39)) w.heap.size 39 [.int .i64 t.fID,.string (strB t.fName),.slice aC t.fColumns.length cC,.slice aK t.fKey.length cK]:=RowIs.alloc w _ _
 clear ht
 have hnC:=(ja0 hC).2.2
 have hmC:t.fColumns.length≤140737488351232:=by have:=far_len;omega
 clear hnC
 cases h1:jcO t.fName
 ·have HR:Hid (jbq t=false):=by show _=_;unfold jbq;rw[h1];rfl
  have HC:=Lib.hid (fun w'=>jg5 t.fName w' hn)
  rw[h1]at HC
  clear h1
  go_enter Tryz.func106,Tryz.ntmps106
  go_wp2_with fail
  go_fit (HC.out _)
  rintro e w1 ⟨rfl,rfl⟩
  go_wp2_with fail
  go_ret
  exact⟨jam HR.out.symm,kk⟩
 have HC:=Lib.hid (fun w'=>jg5 t.fName w' hn)
 rw[h1]at HC
 have HT:=Lib.hid h1
 clear h1
 rcases Nat.lt_or_ge t.fColumns.length 1 with h2 | h2
 refine ?h1a
 rotate_left
 focus
  rcases Nat.lt_or_ge 6 t.fColumns.length with h3 | h3
  refine ?h1b
  rotate_left
  ·have HL:=Lib.hid (decide_eq_true (by omega:1≤t.fColumns.length∧t.fColumns.length≤6))
   have hP:=jiL aK t.fKey.length cK t.fKey t.fColumns.length _ ((jac (jab _)).nix hK kk)
   cases h4:jcD t.fColumns.length t.fKey with
   | false=>
    have HR:Hid (jbq t=false):=by show _=_;unfold jbq;rw[h4];simp
    rw[h4]at hP
    have HP:=Lib.hid hP
    clear h4 hP
    go_enter Tryz.func106,Tryz.ntmps106
    go_wp2_with fail
    go_fit (HC.out _)
    rintro e w1 ⟨rfl,rfl⟩
    go_wp2_with fail
    go_fit HP.out
    rintro e w1 ⟨rfl,k1⟩
    go_wp2_with fail
    go_ret
    exact⟨jam HR.out.symm,kk.trans k1⟩
   | true=>
   rw[h4]at hP
   have HP:=Lib.hid hP
   have H4:=Lib.hid h4
   clear h4 hP
   go_enter Tryz.func106,Tryz.ntmps106
   go_wp2_with fail
   go_fit (HC.out _)
   rintro e w1 ⟨rfl,rfl⟩
   go_wp2_with fail
   go_fit HP.out
   clear HP HC
   rintro e w1 ⟨rfl,k1⟩
   replace row0:=row0.keep k1 id
   replace kk:=kk.trans k1
   clear k1
   have fin:allB t.fColumns.length (colQ t.fColumns)=false→jbq t=false:=fun h=>by unfold jbq;rw[h];simp
   have FIN:=Lib.hid fin
   clear fin
   have x2:=row0.cell 2
   simp only[List.getElem?_cons_succ,List.getElem?_cons_zero]at x2
   go_wp2_with fail
   clear x2
   go_loopw [34] (fun i wr=>∃k:Nat,k≤t.fColumns.length∧i=.int .i64 k∧Hid (∀j,j<k→colQ t.fColumns j=true)∧RowIs wr w.heap.size 39 [.int .i64 t.fID,.string (strB t.fName),.slice aC t.fColumns.length cC,.slice aK t.fKey.length cK]∧Keep Nix w wr) (fun i _=>t.fColumns.length - (intOf i).toNat)
   case atStart=>exact⟨0,by omega,rfl,fun j hj=>by omega,row0,kk⟩
   case round=>
    clear row0 kk
    obtain⟨k,hk,rfl,hg,row0,kk⟩:=hrel
    by_cases hlt:k<t.fColumns.length
    ·have hi0:(0:Int)≤(k:Int):=by omega
     have hi1:(k:Int)<(t.fColumns.length:Int):=by omega
     obtain⟨b,o,c,cs,e1,-,hb,r,hc⟩:=jaY rGColumn_lawful (by decide) ((jac rGColumn_lawful).nix hC kk) k hlt
     simp only[List.cons.injEq,Value.slice.injEq,and_true]at e1
     obtain⟨rfl,-,-⟩:=e1
     have HQ:=Lib.hid (jld hlt)
     have HB:Hid (colQ t.fColumns k=false→allB t.fColumns.length (colQ t.fColumns)=false):=fun h=>jgV k hlt h
     generalize t.fColumns[k]=x at r HQ
     obtain⟨rfl,hx0,hx1,-⟩:=jcE r
     have ld:=Whole.at (P:=Tryz.prog) S_Column rfl hc
     unfold Whole at ld
     have hst:=jaf (P:=Tryz.prog) (cs:=[.string (strB x.fName),.int .i64 x.fKind,.bool x.fNull]) S_Column (RowIs.alloc wr #[.string {data:=#[]},.int .i64 0,.bool false] 148) rfl rfl rfl
     have rowC:=(RowIs.alloc wr #[.string {data:=#[]},.int .i64 0,.bool false] 148).setRow [.string (strB x.fName),.int .i64 x.fKind,.bool x.fNull]
     have kV:Keep Nix wr ((wr.alloc (.cells #[.string {data:=#[]},.int .i64 0,.bool false] 148)).setRow wr.heap.size [.string (strB x.fName),.int .i64 x.fKind,.bool x.fNull].toArray):=((Keep.refl Nix wr).alloc (.cells #[.string {data:=#[]},.int .i64 0,.bool false] 148)).setRow (fun h=>absurd h (Nat.lt_irrefl _)) _
     replace row0:=row0.keep kV id
     replace kk:=kk.trans kV
     clear kV r hc
     have y0:=rowC.cell 0
     simp only[List.getElem?_cons_zero]at y0
     go_wp2_with fail
     clear ld hst y0
     go_fit (jg5 x.fName _ hx0)
     rintro e w1 ⟨rfl,rfl⟩
     obtain⟨bn,hbn⟩:∃b,Hid (jcO x.fName=b):=⟨_,rfl⟩
     rw[hbn.out]
     cases bn with
     | false=>
      go_wp2_with fail
      go_ret
      exact⟨jam (FIN.out (HB.out (by rw[HQ.out];unfold jgz;rw[hbn.out];rfl))).symm,kk⟩
     | true=>
     have y1:=rowC.cell 1
     simp only[List.getElem?_cons_succ,List.getElem?_cons_zero]at y1
     by_cases hkd:x.fKind=1∨x.fKind=2
     rotate_left
     ·have t1:(x.fKind != 1)=true:=by simp;omega
      have t2:(x.fKind != 2)=true:=by simp;omega
      have HK:=Lib.hid (decide_eq_false hkd)
      clear hkd
      go_wp2_with fail
      go_ret
      exact⟨jam (FIN.out (HB.out (by rw[HQ.out];unfold jgz;rw[HK.out];simp))).symm,kk⟩
     have HK:=Lib.hid (decide_eq_true hkd)
     have x2:=row0.cell 2
     simp only[List.getElem?_cons_succ,List.getElem?_cons_zero]at x2
     have hF:=Lib.hid (jlA (p:=p) (some ⟨b,o,none⟩) t.fColumns.length cC t.fColumns 164 (.pointer (some ⟨wr.heap.size,0,none⟩)) (fun o=>decide (o.fName=x.fName)) _
      ((jac rGColumn_lawful).nix hC kk) Tryz.call164 (fun w' z cs' k' _ hz=>jiV z cs' wr.heap.size x.fName w' hz (Nat.lt_of_lt_of_le rowC.lt k'.size) ((rowC.keep k' id).cell 0)))
     obtain⟨fi,hfi⟩:∃f,Hid (jbo (fun o=>decide (o.fName=x.fName)) t.fColumns=f):=⟨_,rfl⟩
     rw[hfi.out]at hF
     have HQ2:Hid (colQ t.fColumns k=decide (fi=(k:Int))):=by show _=_;rw[HQ.out];unfold jgz;rw[hbn.out,HK.out,hfi.out];rfl
     clear HQ HK
     have t3:(x.fKind != 1)=false∨(x.fKind != 1)=true∧(x.fKind != 2)=false:=by simp;omega
     clear hkd
     rcases t3 with t3 | ⟨t3,t4⟩
     all_goals
      go_wp2_with fail
      go_fit hF.out
      rintro e w2 ⟨rfl,k2⟩
      replace row0:=row0.keep k2 id
      replace kk:=kk.trans k2
      clear k2 y1 x2 hF rowC
      rcases jbH fi (k:Int)with⟨t,e⟩ | ⟨t,e⟩
      ·have t':(fi != (k:Int))=false:=by simp[e.out]
       go_wp2_with fail
       go_roundw
       case rel=>exact⟨k+1,by omega,by go_num,fun j hj=>by
        rcases Nat.lt_succ_iff_lt_or_eq.1 hj with h | rfl
        ·exact hg.out j h
        ·rw[HQ2.out,e.out];exact decide_eq_true rfl,row0,kk⟩
       case measure=>simp[intOf];omega
      ·have t':(fi != (k:Int))=true:=by simp[e]
       have E:=Lib.hid e
       clear e
       go_wp2_with fail
       go_ret
       exact⟨jam (FIN.out (HB.out (by rw[HQ2.out];exact decide_eq_false E.out))).symm,kk⟩
    ·obtain rfl:k=t.fColumns.length:=by omega
     have HA:Hid (allB t.fColumns.length (colQ t.fColumns)=true):=jga hg.out
     have x2:=row0.cell 2
     have x3:=row0.cell 3
     simp only[List.getElem?_cons_succ,List.getElem?_cons_zero]at x2 x3
     have hgood:∀z∈t.fKey,0≤z∧z<(t.fColumns.length:Int):=fun z hz=>by
      have:=(of_decide_eq_true H4.out).1.1 z hz;omega
     have hF:=Lib.hid (jpi (p:=p) aK t.fKey.length cK t.fKey 167 (.pointer (some ⟨w.heap.size,0,none⟩)) (jgf t.fColumns) wr ((jac (jab _)).nix hK kk) Tryz.call167
      (fun w' z k' hz=>by
       have h2:=hgood z hz
       have:=jiW (p:=p) t.fColumns aC t.fColumns.length cC w.heap.size z w' ((jac rGColumn_lawful).nix hC (kk.trans k')) ((row0.keep k' id).cell 2) h2.1 h2.2
       rw[←jmO h2.1 h2.2]at this
       exact this))
     have HR:Hid (jbq t=!(t.fKey.any (jgf t.fColumns))):=by
      show _=_
      unfold jbq
      rw[HT.out,HL.out,H4.out,HA.out];rfl
     clear hgood HA HL H4 HT
     go_wp2_with fail
     go_fit hF.out
     rintro e w2 ⟨rfl,k2⟩
     replace kk:=kk.trans k2
     clear k2 hF x2 x3
     go_wp2_with fail
     go_ret
     exact⟨jam HR.out.symm,kk⟩
 rotate_left
 case h1a | h1b=>
  have HR:Hid (jbq t=false):=by show _=_;unfold jbq;rw[decide_eq_false (by omega:¬(1≤t.fColumns.length∧t.fColumns.length≤6))];simp
  go_enter Tryz.func106,Tryz.ntmps106
  go_wp2_with fail
  go_fit (HC.out _)
  rintro e w1 ⟨rfl,rfl⟩
  go_wp2_with fail
  go_ret
  exact⟨jam HR.out.symm,kk⟩
end
end
section
theorem RowIs.alloc_at(w:World)(n:Nat)(h:w.heap.size=n)(cs:Array Value)(e:TypeId):RowIs (w.alloc (.cells cs e)) n e cs.toList:=by
 subst h;exact RowIs.alloc w cs e
/-! ### what is found -/
def jbj{α:Type}(P:α→Bool)(l:List α)(z:α):α×Bool:=match l.find? P with
 | some x=>(x,true)
 | none=>(z,false)
theorem jgE{α:Type}{P:α→Bool}{l:List α}{z:α}(h:∀x∈l,P x=false):jbj P l z=(z,false):=by
 have:l.find? P=none:=List.find?_eq_none.2 (fun x hx=>by simp[h x hx])
 unfold jbj;rw[this]
theorem jgF{α:Type}{P:α→Bool}{l:List α}{z:α}(k:Nat)(h:k<l.length)(h1:P l[k]=true)(h2:∀j (hj:j<k),P (l[j]'(by omega))=false):jbj P l z=(l[k],true):=by
 have:l.find? P=some l[k]:=by
  rw[List.find?_eq_some_iff_getElem]
  exact⟨h1,k,h,rfl,fun j hj=>by simp[h2 j hj]⟩
 unfold jbj;rw[this]
def jhU{α:Type}(R:RD α)(p:Nat→Prop)(w:World)(y:α×Bool)(e:Ending)(w':World):Prop:=∃cs:List Value,e=.returned (.tuple #[.agg cs.toArray,.bool y.2])∧R w' p cs y.1∧Keep Nix w w'
theorem jiF{α:Type}{R:RD α}(w:World)(p:Nat→Prop)(a:Option Addr)(cap:Nat):jap R w p [.slice a 0 cap] []:=
 ⟨a,cap,[],rfl,rfl,Lies.nil _ _ _,Nat.zero_le _,Nat.zero_le _,fun i c x h=>by simp at h⟩
def zTab:GTable:=⟨0,[],[],[]⟩
theorem zTab_r(w:World)(p:Nat→Prop):jaG w p [.int .i64 0,.string {data:=#[]},.slice none 0 0,.slice none 0 0] zTab:=
 jhF (x:=zTab) w p (by unfold jae;simp[zTab]) (by simp[zTab]) (jiF _ _ _ _) (jiF _ _ _ _)
section
attribute [local go_sem ↓] jcd jc2
theorem jmq{p:Nat→Prop}(c:GCatalog)(cs:List Value)(d:Int)(w:World)(hc:jat w p cs c)(hp:∀b,p b→b<w.heap.size) :
  Calls Tryz.prog 144 #[.agg cs.toArray,.int .i64 d] w (jhU jaG p w (jbj (fun t=>decide (t.fID=d)) c.fTables zTab)):=by
 obtain⟨aT,cT,aX,cX,rfl,-,-,hT,-,-⟩:=jau hc
 have nT:=(ja0 hT).2.2
 have mT:c.fTables.length≤140737488351232:=by have:=far_len;omega
 clear nT hc
 have row0:RowIs (((w.alloc (.cells #[.int .i64 c.fVersion,.int .i64 c.fNext,.slice aT c.fTables.length cT,.slice aX c.fIndexes.length cX] 50)).alloc (.cells #[.int .i64 d] 3)).alloc (.cells #[.int .i64 0,.string {data:=#[]},.slice none 0 0,.slice none 0 0] 39)) w.heap.size 50 [.int .i64 c.fVersion,.int .i64 c.fNext,.slice aT c.fTables.length cT,.slice aX c.fIndexes.length cX]:=((RowIs.alloc w _ _).keep ((Keep.refl Nix _).alloc _) id).keep ((Keep.refl Nix _).alloc _) id
 have rowI:RowIs (((w.alloc (.cells #[.int .i64 c.fVersion,.int .i64 c.fNext,.slice aT c.fTables.length cT,.slice aX c.fIndexes.length cX] 50)).alloc (.cells #[.int .i64 d] 3)).alloc (.cells #[.int .i64 0,.string {data:=#[]},.slice none 0 0,.slice none 0 0] 39)) (w.heap.size+1) 3 [.int .i64 d]:=(RowIs.alloc_at (w.alloc (.cells #[.int .i64 c.fVersion,.int .i64 c.fNext,.slice aT c.fTables.length cT,.slice aX c.fIndexes.length cX] 50)) _ (by simp) #[.int .i64 d] 3).keep ((Keep.refl Nix _).alloc _) id
 have rowR:RowIs (((w.alloc (.cells #[.int .i64 c.fVersion,.int .i64 c.fNext,.slice aT c.fTables.length cT,.slice aX c.fIndexes.length cX] 50)).alloc (.cells #[.int .i64 d] 3)).alloc (.cells #[.int .i64 0,.string {data:=#[]},.slice none 0 0,.slice none 0 0] 39)) (w.heap.size+1+1) 39 [.int .i64 0,.string {data:=#[]},.slice none 0 0,.slice none 0 0]:=RowIs.alloc_at ((w.alloc (.cells #[.int .i64 c.fVersion,.int .i64 c.fNext,.slice aT c.fTables.length cT,.slice aX c.fIndexes.length cX] 50)).alloc (.cells #[.int .i64 d] 3)) _ (by simp) #[.int .i64 0,.string {data:=#[]},.slice none 0 0,.slice none 0 0] 39
 have kk:Keep Nix w (((w.alloc (.cells #[.int .i64 c.fVersion,.int .i64 c.fNext,.slice aT c.fTables.length cT,.slice aX c.fIndexes.length cX] 50)).alloc (.cells #[.int .i64 d] 3)).alloc (.cells #[.int .i64 0,.string {data:=#[]},.slice none 0 0,.slice none 0 0] 39)):=(((Keep.refl Nix w).alloc _).alloc _).alloc _
 have x2:=row0.cell 2
 simp only[List.getElem?_cons_succ,List.getElem?_cons_zero]at x2
 have hF:=Lib.hid (jgd (p:=p) aT c.fTables.length cT c.fTables 194 (.pointer (some ⟨w.heap.size+1,0,none⟩)) (fun t=>decide (t.fID=d)) _
  ((jac rGTable_lawful).nix hT kk) Tryz.call194 (fun w' z cs' k' _ hz=>jpp z cs' (w.heap.size+1) d w' hz (Nat.lt_of_lt_of_le rowI.lt k'.size) ((rowI.keep k' id).cell 0)))
 rcases jb6 (fun t:GTable=>decide (t.fID=d)) c.fTables with⟨h1,h2⟩ | ⟨k,hk,h1,h2,h3⟩
 ·rw[h1]at hF
  have hR:=Lib.hid (jgE (z:=zTab) h2)
  have hbd:∀w',(Instr.build 39 #[]).run Tryz.prog w'=.ok (.agg #[.int .i64 0,.string {data:=#[]},.slice none 0 0,.slice none 0 0]) w':=fun w'=>by kernel_rfl
  clear h1 h2
  go_enter Tryz.func144,Tryz.ntmps144
  go_wp2_with fail
  go_fit hF.out
  rintro e w1 ⟨rfl,k1⟩
  replace rowR:=rowR.keep k1 id
  replace kk:=kk.trans k1
  have hst:=jaf (P:=Tryz.prog) (cs:=[.int .i64 0,.string {data:=#[]},.slice none 0 0,.slice none 0 0]) S_Table rowR rfl rfl rfl
  have rowF:=rowR.setRow [.int .i64 0,.string {data:=#[]},.slice none 0 0,.slice none 0 0]
  have kF:=kk.setRow (g:=w.heap.size+1+1) (fun h=>by omega) [.int .i64 0,.string {data:=#[]},.slice none 0 0,.slice none 0 0].toArray
  clear k1 hF x2 rowI row0 rowR kk
  go_wp2_with fail
  refine bodyPost_ret (jag (by rfl) _ _ _ _ _ _ _ (by rfl) rowF Tryz.underlying39 (by rfl) S_Table.info) rfl ?_
  rw[hR.out]
  exact⟨_,rfl,zTab_r _ _,kF⟩
 ·rw[h1]at hF
  have hR:=Lib.hid (jgF (P:=fun t:GTable=>decide (t.fID=d)) (z:=zTab) k hk h2 h3)
  have hi0:(0:Int)≤(k:Int):=by omega
  have hi1:(k:Int)<(c.fTables.length:Int):=by omega
  clear h1 h2 h3
  go_enter Tryz.func144,Tryz.ntmps144
  go_wp2_with fail
  go_fit hF.out
  rintro e w1 ⟨rfl,k1⟩
  replace rowR:=rowR.keep k1 id
  replace row0:=row0.keep k1 id
  replace kk:=kk.trans k1
  obtain⟨b,o,cc,cs,e1,-,hb,r,hcl⟩:=jaY rGTable_lawful (by decide) ((jac rGTable_lawful).nix hT kk) k hk
  simp only[List.cons.injEq,Value.slice.injEq,and_true]at e1
  obtain⟨rfl,-,-⟩:=e1
  have ld:=Whole.at (P:=Tryz.prog) S_Table (rGTable_lawful.len r) hcl
  unfold Whole at ld
  replace x2:=row0.cell 2
  simp only[List.getElem?_cons_succ,List.getElem?_cons_zero]at x2
  have hl4:=rGTable_lawful.len r
  have hst:=jaf (P:=Tryz.prog) (cs:=cs) S_Table rowR rfl hl4 (jef r)
  have rowF:=rowR.setRow cs
  have kS:Keep (·=w.heap.size+1+1) w1 (w1.setRow (w.heap.size+1+1) cs.toArray):=(Keep.refl (·=w.heap.size+1+1) w1).setRow (fun _=>rfl) cs.toArray
  have kF:=kk.setRow (g:=w.heap.size+1+1) (fun h=>by omega) cs.toArray
  replace r:=rGTable_lawful.keep r kS (fun b hb e=>by have:=hp b hb;omega)
  have hin:(Tryz.prog.info? 39).map (·.size)=some cs.toArray.size:=by rw[List.size_toArray,hl4];exact S_Table.info
  have HIN:=Lib.hid hin
  clear k1 hF rowI row0 rowR kk kS hcl hl4 hin
  go_wp2_with fail
  refine bodyPost_ret (jag (by rfl) _ _ _ _ _ _ _ (by rfl) rowF Tryz.underlying39 (by rfl) HIN.out) rfl ?_
  rw[hR.out]
  exact⟨_,rfl,r,kF⟩
end
end
end Go.Proofs.YtibaehlfpgipfaaGreat
