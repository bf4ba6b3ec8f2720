/- ROWS: copies of elements of any size, rows known whole. Printed by genIns.py and mac.py. -/
import Derived.Test.YtibaehlfpgipfaaGreatQZG17
import Derived.Test.YtibaehlfpgipfaaGreatQZG19
import Derived.Test.YtibaehlfpgipfaaGreatQZG14
import Derived.Test.YtibaehlfpgipfaaGreatQZG2
import Derived.Lib.AppendZerosOnto
import Derived.Lib.Overlaps
import Derived.Laws.CopyRow
import Derived.Deep.RegionLaw
import Derived.Laws.Externs
import Derived.Maps.AppendAt
import Derived.Deep.RegionHeld3
import Derived.Deep.DeepCutAuto
import Derived.Deep.CutBlock
namespace Go.Proofs.YtibaehlfpgipfaaGreat
open Go.RowKit
set_option maxRecDepth 100000
set_option maxHeartbeats 2000000
set_option linter.unusedSimpArgs false
theorem nan_c(x:Int)(w:World):Calls Tryz.prog 205 #[.int .u64 x] w fun e w'=>e=.returned (.bool false)∧w=w':=by
 go_enter Tryz.func205,Tryz.ntmps205
 go_wp2_with fail
 go_ret
 exact⟨by simp,rfl⟩
theorem less_c(x y:Int)(w:World):Calls Tryz.prog 184 #[.int .u64 x,.int .u64 y] w fun e w'=>e=.returned (.bool (decide (x<y)))∧w=w':=by
 go_enter Tryz.func184,Tryz.ntmps184
 go_wp2_with fail
 go_fit (nan_c x w)
 rintro e w1 ⟨rfl,rfl⟩
 go_wp2_with fail
 go_ret
 exact⟨by simp,rfl⟩
def iv(x:Int):Value:=.int .u64 x
def gd(xs:List Int)(p:Nat):Int:=xs.getD p 0
def UpTo(k:Nat)(xs:List Int):Prop:=∀p q,p<q→q<k→gd xs p≤gd xs q
def Exc(k j:Nat)(xs:List Int):Prop:=∀p q,p<q→q≤k→q≠j→gd xs p≤gd xs q
def swp(xs:List Int)(m:Nat):List Int:=(xs.set (m+1) (gd xs m)).set m (gd xs (m+1))
theorem jhv{xs:List Int}{p:Nat}(h:p<xs.length):gd xs p=xs[p]:=by unfold gd;rw[List.getD_eq_getElem?_getD,List.getElem?_eq_getElem h];rfl
theorem jdR{xs:List Int}{rest:List Value}{p:Nat}(h:p<xs.length):(xs.map iv ++ rest)[p]?=some (.int .u64 (gd xs p)):=by
 rw[List.getElem?_append_left (by simpa using h),List.getElem?_map,List.getElem?_eq_getElem h,jhv h];rfl
theorem jm6{xs:List Int}{m:Nat}(h:m+1<xs.length)(q:Nat):gd (swp xs m) q=if q=m then gd xs (m+1) else if q=m+1 then gd xs m else gd xs q:=by
 unfold swp
 show((xs.set (m+1) (gd xs m)).set m (gd xs (m+1))).getD q 0=_
 rw[List.getD_eq_getElem?_getD,List.getElem?_set,List.getElem?_set]
 by_cases e:q=m
 ·subst e
  simp[show q<xs.length by omega]
 ·rw[if_neg (fun h=>e h.symm),if_neg e]
  by_cases e2:q=m+1
  ·subst e2
   simp[h]
  ·rw[if_neg (fun h=>e2 h.symm),if_neg e2]
   rfl
theorem jko:∀(xs:List Int) (m:Nat),m+1<xs.length→(swp xs m).Perm xs
 | a :: b :: l,0,_=>by simpa [swp,gd] using List.Perm.swap a b l
 | a :: l,m+1,h=>by
  have ih:=jko l m (by simpa using h)
  have e:swp (a :: l) (m+1)=a :: swp l m:=by simp[swp,gd]
  rw[e]
  exact ih.cons a
 | [],_,h=>by simp at h
 | [_],0,h=>by simp at h
theorem jm1{k:Nat}{xs:List Int}(h:UpTo k xs):Exc k k xs:=fun p q h1 h2 h3=>h p q h1 (by omega)
theorem jnW{k m:Nat}{xs:List Int}(h:Exc k (m+1) xs)(hl:gd xs (m+1)<gd xs m)(hlen:m+1<xs.length)(hk:m+1≤k):Exc k m (swp xs m):=by
 intro p q h1 h2 h3
 rw[jm6 hlen,jm6 hlen,if_neg h3]
 by_cases e:q=m+1
 ·rw[if_pos e]
  by_cases e2:p=m
  ·rw[if_pos e2];omega
  ·rw[if_neg e2,if_neg (by omega)]
   exact h p m (by omega) (by omega) (by omega)
 ·rw[if_neg e]
  have hq:=fun p' (hp:p'<q)=>h p' q hp h2 e
  split
  ·by_cases e3:q<m+1
   ·omega
   ·exact hq (m+1) (by omega)
  ·split
   ·exact hq m (by omega)
   ·exact hq p h1
theorem jnV{k:Nat}{xs:List Int}(h:Exc k 0 xs):UpTo (k+1) xs:=fun p q h1 h2=>h p q h1 (by omega) (by omega)
theorem jpn{k m:Nat}{xs:List Int}(h:Exc k (m+1) xs)(hl:¬gd xs (m+1)<gd xs m)(hk:m+1≤k):UpTo (k+1) xs:=fun p q h1 h2=>by
 by_cases e:q=m+1
 ·subst e
  by_cases e2:p=m
  ·subst e2;omega
  ·have:=h p m (by omega) (by omega) (by omega)
   omega
 ·exact h p q h1 (by omega) e
theorem set_iv(xs:List Int)(rest:List Value)(m:Nat)(h:m+1<xs.length):(((xs.map iv ++ rest).set (m+1) (.int .u64 (gd xs m))).set m (.int .u64 (gd xs (m+1))))=(swp xs m).map iv ++ rest:=by
 unfold swp
 rw[List.map_set,List.map_set,List.set_append_left _ _ (by simpa using h),List.set_append_left _ _ (by simp;omega)]
 rfl
theorem ins_c(b n cap:Nat)(xs:List Int)(rest:List Value)(w:World)(row:RowIs w b 28 (xs.map iv ++ rest))(hn:xs.length=n)(hb:n≤1000000) :
  Calls Tryz.prog 178 #[.slice (some ⟨b,0,none⟩) n cap,.int .i64 0,.int .i64 n] w fun e w'=>e=.returned (.tuple #[])∧∃ys,RowIs w' b 28 (ys.map iv ++ rest)∧ys.Perm xs∧UpTo n ys∧Keep (·=b) w w':=by
 go_enter Tryz.func178,Tryz.ntmps178
 go_wp2_with fail
 go_loopw [6] (fun i wr=>∃(k:Nat) (ys:List Int),1≤k∧(k≤n∨k=1)∧i=.int .i64 k∧RowIs wr b 28 (ys.map iv ++ rest)∧ys.Perm xs∧UpTo k ys∧Keep (·=b) w wr) (fun i _=>n+1 - (intOf i).toNat)
 case atStart=>exact⟨1,xs,by omega,.inr rfl,rfl,row,List.Perm.refl _,fun p q h1 h2=>by omega,Keep.refl _ _⟩
 case round=>
  clear row
  obtain⟨k,ys,hk1,hkn,rfl,row,hp,hu,kk⟩:=hrel
  by_cases hlt:k<n
  ·have hc:(k:Int)<(n:Int):=by omega
   go_wp2_with fail
   go_loopw [7] (fun j wx=>∃(q:Nat) (zs:List Int),q≤k∧j=.int .i64 q∧RowIs wx b 28 (zs.map iv ++ rest)∧zs.Perm xs∧Exc k q zs∧Keep (·=b) w wx) (fun j _=>(intOf j).toNat)
   case atStart=>exact⟨k,ys,Nat.le_refl _,rfl,row,hp,jm1 hu,kk⟩
   case round=>
    clear row hp hu kk
    obtain⟨q,ys,hq,rfl,row,hp2,hE,kk2⟩:=hrel
    have hlen:ys.length=n:=hp2.length_eq.trans hn
    rcases Nat.eq_zero_or_pos q with e0 | e0
    ·subst e0
     have kd:Keep Nix wr wr.drew:=(Keep.refl Nix wr).drew
     have row1:=Lib.hid (row.keep kd id)
     have kk3:=Lib.hid (kk2.trans kd.nix)
     have hUp:=Lib.hid (jnV hE)
     have hg:(0:Int)<((0:Nat):Int)↔False:=by simp
     go_upto_region 4 with fail
     refine wp_region_held_drew (S:=(fun _=>True)) (by kernel_rfl) (trivial) (fun jaa=>?_)
     generalize wr.drew=w1 at *
     refine tk 0 rfl jaa ?_
     refine tk 1 rfl jaa ?_
     refine tk 2 rfl jaa ?_
     refine tk 3 rfl jaa ?_
     refine wpAnyH_take (i:=4) (v:=undef) rfl (by kernel_rfl) (by kernel_rfl) (by kernel_rfl) (fun _ _ _ h=>h) (Or.inr ⟨by kernel_rfl,rfl⟩) jaa ?_
     try simp only[Act.put,zz1,zz2,zz3,zz4,zz5,zz6]
     refine wpAnyH_take (i:=5) (v:=undef) rfl (by kernel_rfl) (by kernel_rfl) (by kernel_rfl) (fun _ _ _ h=>h) (Or.inr ⟨by kernel_rfl,rfl⟩) jaa ?_
     try simp only[Act.put,zz1,zz2,zz3,zz4,zz5,zz6]
     refine wpAnyH_take (i:=6) (v:=undef) rfl (by kernel_rfl) (by kernel_rfl) (by kernel_rfl) (fun _ _ _ h=>h) (Or.inr ⟨by kernel_rfl,rfl⟩) jaa ?_
     try simp only[Act.put,zz1,zz2,zz3,zz4,zz5,zz6]
     refine wpAnyH_take (i:=7) (v:=undef) rfl (by kernel_rfl) (by kernel_rfl) (by kernel_rfl) (fun _ _ _ h=>h) (Or.inr ⟨by kernel_rfl,rfl⟩) jaa ?_
     try simp only[Act.put,zz1,zz2,zz3,zz4,zz5,zz6]
     refine wpAnyH_take (i:=8) (v:=undef) rfl (by kernel_rfl) (by kernel_rfl) (by kernel_rfl) (fun _ _ _ h=>h) (Or.inr ⟨by kernel_rfl,rfl⟩) jaa ?_
     try simp only[Act.put,zz1,zz2,zz3,zz4,zz5,zz6]
     refine wpAnyH_take (i:=9) (v:=undef) rfl (by kernel_rfl) (by kernel_rfl) (by kernel_rfl) (fun _ _ _ h=>h) (Or.inr ⟨by kernel_rfl,rfl⟩) jaa ?_
     try simp only[Act.put,zz1,zz2,zz3,zz4,zz5,zz6]
     refine wpAnyH_take (i:=10) (v:=undef) rfl (by kernel_rfl) (by kernel_rfl) (by kernel_rfl) (fun _ _ _ h=>h) (Or.inr ⟨by kernel_rfl,rfl⟩) jaa ?_
     try simp only[Act.put,zz1,zz2,zz3,zz4,zz5,zz6]
     refine wpAnyH_take (i:=11) (v:=undef) rfl (by kernel_rfl) (by kernel_rfl) (by kernel_rfl) (fun _ _ _ h=>h) (Or.inr ⟨by kernel_rfl,rfl⟩) jaa ?_
     try simp only[Act.put,zz1,zz2,zz3,zz4,zz5,zz6]
     refine wpAnyH_take (i:=12) (v:=undef) rfl (by kernel_rfl) (by kernel_rfl) (by kernel_rfl) (fun _ _ _ h=>h) (Or.inr ⟨by kernel_rfl,rfl⟩) jaa ?_
     try simp only[Act.put,zz1,zz2,zz3,zz4,zz5,zz6]
     refine wpAnyH_take (i:=13) (v:=undef) rfl (by kernel_rfl) (by kernel_rfl) (by kernel_rfl) (fun _ _ _ h=>h) (Or.inr ⟨by kernel_rfl,rfl⟩) jaa ?_
     try simp only[Act.put,zz1,zz2,zz3,zz4,zz5,zz6]
     refine tk 14 rfl jaa ?_
     refine wpAnyH_done (by kernel_rfl) ?_ _
     clear jaa row kk2 hE kd
     go_wp2_with fail
     go_roundw
     case rel=>exact⟨k+1,ys,by omega,.inl (by omega),by go_num,row1.out,hp2,hUp.out,kk3.out⟩
     case measure=>simp[intOf];omega
    obtain⟨m,hm⟩:∃m,q=m+1:=⟨q - 1,by omega⟩
    have hm1:m<ys.length:=by omega
    have hm2:q<ys.length:=by omega
    have hg:(0:Int)<(q:Int):=by omega
    have hi0:(0:Int)≤(q:Int):=by omega
    have hi1:(q:Int)<(n:Int):=by omega
    have hj0:(0:Int)≤(m:Int):=by omega
    have hj1:(m:Int)<(n:Int):=by omega
    have hsub:IntKind.i64.wrap ((q:Int) - 1)=(m:Int):=by
     rw[show((q:Int) - 1)=(m:Int)by omega]
     simp[IntKind.wrap,IntKind.signed,IntKind.bits];omega
    have hdec:decide ((0:Int)<(q:Int))=true:=decide_eq_true hg
    have y1:wr.drew.cell? ⟨b,m,none⟩=some (.int .u64 (gd ys m)):=by
     have:=(row.keep ((Keep.refl Nix wr).drew) id).cell m
     rw[jdR hm1]at this;exact this
    have y2:wr.drew.cell? ⟨b,q,none⟩=some (.int .u64 (gd ys q)):=by
     have:=(row.keep ((Keep.refl Nix wr).drew) id).cell q
     rw[jdR hm2]at this;exact this
    have HMQ:=Lib.hid hm
    clear hm
    have hl:=Lib.hid (less_c (gd ys q) (gd ys m) wr.drew)
    have row1:=Lib.hid (row.keep ((Keep.refl Nix wr).drew) id)
    have kk3:=Lib.hid (kk2.trans ((Keep.refl Nix wr).drew).nix)
    go_upto_region 4 with fail
    refine wp_region_held_drew (S:=(fun w'=>w'.cell? ⟨b,m,none⟩=some (.int .u64 (gd ys m))∧w'.cell? ⟨b,q,none⟩=some (.int .u64 (gd ys q)))) (by kernel_rfl) (⟨y1,y2⟩) (fun jaa=>?_)
    clear y1 y2
    generalize wr.drew=w1 at *
    refine tk 0 rfl jaa ?_
    refine tk 1 rfl jaa ?_
    refine tk 2 rfl jaa ?_
    refine tk 3 rfl jaa ?_
    refine tk 4 rfl jaa ?_
    refine tk 5 rfl jaa ?_
    refine tk 6 rfl jaa ?_
    refine tk 7 rfl jaa ?_
    refine tk 8 rfl jaa ?_
    refine tk 9 rfl jaa ?_
    refine tk 10 rfl jaa ?_
    refine tk 11 rfl jaa ?_
    refine tk 12 rfl jaa ?_
    refine wpAnyH_ready (rs:=[13]) (by kernel_rfl) (by simp) ?_
    refine AllReadyH.cons rfl (fun K hK=>?_) AllReadyH.nil
    rw[if_pos (by kernel_rfl)]
    try simp only[zz1,zz2,zz3]
    go_simp
    go_fit hl.out
    rintro e w2 ⟨rfl,rfl⟩
    go_wp2_with fail
    refine hK.out _ _ (jaa) (fun jaa=>?_)
    clear hK K
    try simp only[Act.put,zz1,zz2,zz3,zz4,zz5,zz6]
    obtain⟨d,HD⟩:∃d,Hid (decide (gd ys q<gd ys m)=d):=⟨_,rfl⟩
    rw[HD.out]
    refine tk 14 rfl jaa ?_
    refine wpAnyH_done (by kernel_rfl) ?_ _
    clear jaa row kk2 hl
    cases d
    ·have hUp:UpTo (k+1) ys:=jpn (m:=m) (by rw[←HMQ.out];exact hE) (by rw[←HMQ.out];exact of_decide_eq_false HD.out) (by have:=HMQ.out;omega)
     go_wp2_with fail
     go_roundw
     case rel=>exact⟨k+1,ys,by omega,.inl (by omega),by go_num,row1.out,hp2,hUp,kk3.out⟩
     case measure=>simp[intOf];omega
    have hlt2:Hid (gd ys q<gd ys m):=Lib.hid (of_decide_eq_true HD.out)
    have kk3:=kk3.out
    go_upto_region 6 with fail
    have row:=row1.out.keep ((Keep.refl Nix w1).drew) id
    have kk2:=kk3.trans ((Keep.refl Nix w1).drew).nix
    refine wp_region_held_drew (S:=(fun _=>True)) (by kernel_rfl) (trivial) (fun jaa=>?_)
    clear row1 kk3
    generalize w1.drew=w2 at *
    refine tk 0 rfl jaa ?_
    refine tk 1 rfl jaa ?_
    refine tk 2 rfl jaa ?_
    refine tk 3 rfl jaa ?_
    refine tk 4 rfl jaa ?_
    refine tk 5 rfl jaa ?_
    refine tk 6 rfl jaa ?_
    refine tk 7 rfl jaa ?_
    refine tk 8 rfl jaa ?_
    refine tk 10 rfl jaa ?_
    refine tk 11 rfl jaa ?_
    refine tk 12 rfl jaa ?_
    refine wpAnyH_ready (rs:=[9,13]) (by kernel_rfl) (by simp) ?_
    refine AllReadyH.cons rfl (fun K hK=>?_) (AllReadyH.cons rfl (fun K hK=>?_) AllReadyH.nil)
    focus
     have y1:=row.cell m
     rw[jdR hm1]at y1
     try simp only[zz1,zz2,zz3]
     go_simp
     clear y1
     refine hK.out _ _ (trivial) (fun jaa=>?_)
     clear hK K
     try simp only[Act.put,zz1,zz2,zz3,zz4,zz5,zz6]
     refine wpAnyH_ready (rs:=[13]) (by kernel_rfl) (by simp) ?_
     refine AllReadyH.cons rfl (fun K hK=>?_) AllReadyH.nil
     have y2:=row.cell q
     rw[jdR hm2]at y2
     try simp only[zz1,zz2,zz3]
     go_simp
     clear y2
     refine ?h1a
    rotate_left
    focus
     have y2:=row.cell q
     rw[jdR hm2]at y2
     try simp only[zz1,zz2,zz3]
     go_simp
     clear y2
     refine hK.out _ _ (trivial) (fun jaa=>?_)
     clear hK K
     try simp only[Act.put,zz1,zz2,zz3,zz4,zz5,zz6]
     refine wpAnyH_ready (rs:=[9]) (by kernel_rfl) (by simp) ?_
     refine AllReadyH.cons rfl (fun K hK=>?_) AllReadyH.nil
     have y1:=row.cell m
     rw[jdR hm1]at y1
     try simp only[zz1,zz2,zz3]
     go_simp
     clear y1
     refine ?h1b
    rotate_left
    case h1a | h1b=>
     refine hK.out _ _ (trivial) (fun jaa=>?_)
     clear hK K
     try simp only[Act.put,zz1,zz2,zz3,zz4,zz5,zz6]
     refine tk 14 rfl jaa ?_
     refine wpAnyH_ready (rs:=[15]) (by kernel_rfl) (by simp) ?_
     refine AllReadyH.cons rfl (fun K hK=>?_) AllReadyH.nil
     have f1:=row.frozen q
     have y2:=row.cell q
     rw[jdR hm2]at y2
     try simp only[zz1,zz2,zz3]
     go_simp
     clear f1 y2
     have row2:=row.set q (.int .u64 (gd ys m))
     refine hK.out _ _ (trivial) (fun jaa=>?_)
     clear hK K
     try simp only[Act.put,zz1,zz2,zz3,zz4,zz5,zz6]
     refine tk 16 rfl jaa ?_
     refine wpAnyH_ready (rs:=[17]) (by kernel_rfl) (by simp) ?_
     refine AllReadyH.cons rfl (fun K hK=>?_) AllReadyH.nil
     have f1:=row2.frozen m
     have hmq:q≠m:=by have:=HMQ.out;omega
     have y2:(w2.setCell ⟨b,q,none⟩ (.int .u64 (gd ys m))).cell? ⟨b,m,none⟩=some (.int .u64 (gd ys m)):=by
      rw[row2.cell,List.getElem?_set,if_neg hmq,jdR hm1]
     try simp only[zz1,zz2,zz3]
     go_simp
     clear f1 y2
     refine hK.out _ _ (trivial) (fun jaa=>?_)
     clear hK K
     try simp only[Act.put,zz1,zz2,zz3,zz4,zz5,zz6]
     refine wpAnyH_done (by kernel_rfl) ?_ _
     clear jaa
     have row3:=row2.set m (.int .u64 (gd ys q))
     have row4:Hid (RowIs ((w2.setCell ⟨b,q,none⟩ (.int .u64 (gd ys m))).setCell ⟨b,m,none⟩ (.int .u64 (gd ys q))) b 28 ((swp ys m).map iv ++ rest)):=by
      have e:=set_iv ys rest m (by have:=HMQ.out;omega)
      rw[←HMQ.out]at e
      rw[e]at row3
      exact row3
     have kS:Keep (·=b) w2 ((w2.setCell ⟨b,q,none⟩ (.int .u64 (gd ys m))).setCell ⟨b,m,none⟩ (.int .u64 (gd ys q))):=((Keep.refl (·=b) w2).setCell (p:=⟨b,q,none⟩) (fun _=>rfl) _).setCell (p:=⟨b,m,none⟩) (fun _=>rfl) _
     have kk3:=Lib.hid (kk2.trans kS)
     have hE2:Hid (Exc k m (swp ys m)):=jnW (by rw[←HMQ.out];exact hE) (by rw[←HMQ.out];exact hlt2.out) (by have:=HMQ.out;omega) (by have:=HMQ.out;omega)
     have hpp:Hid ((swp ys m).Perm xs):=(jko ys m (by have:=HMQ.out;omega)).trans hp2
     clear row2 row3 kS row kk2
     go_wp2_with fail
     go_roundw
     case rel=>exact⟨m,swp ys m,by have:=HMQ.out;omega,rfl,row4.out,hpp.out,hE2.out,kk3.out⟩
     case measure=>have:=HMQ.out;simp[intOf];omega
  ·have hc:¬(k:Int)<(n:Int):=by omega
   go_wp2_with fail
   go_end0
   exact⟨rfl,ys,row,hp,fun p q h1 h2=>hu p q h1 (by omega),kk⟩
theorem ins0_c(a:Option Addr)(cap:Nat)(w:World) :
  Calls Tryz.prog 178 #[.slice a 0 cap,.int .i64 0,.int .i64 0] w fun e w'=>e=.returned (.tuple #[])∧w=w':=by
 go_enter Tryz.func178,Tryz.ntmps178
 go_wp2_with fail
 refine wp_loop_rounds 1 ?_
 rw[rounds_succ]
 go_wp2_with fail
 go_end0
 exact⟨rfl,rfl⟩
theorem pdq_c{R:World→Prop}(a:Option Addr)(n cap:Nat)(k:Int)(w:World)(hn:n≤12)(HI:Calls Tryz.prog 178 #[.slice a n cap,.int .i64 0,.int .i64 n] w fun e w'=>e=.returned (.tuple #[])∧R w') :
  Calls Tryz.prog 121 #[.slice a n cap,.int .i64 0,.int .i64 n,.int .i64 k] w fun e w'=>e=.returned (.tuple #[])∧R w':=by
 have hc:(n:Int)≤12:=by omega
 have hw:IntKind.i64.wrap (n:Int)=(n:Int):=by rw[IntKind.wrap_i64];omega
 go_enter Tryz.func121,Tryz.ntmps121
 go_wp2_with fail
 refine wp_loop_rounds 1 ?_
 rw[rounds_succ]
 go_wp2_with fail
 go_fit HI
 rintro e w1 ⟨rfl,hR⟩
 go_wp2_with fail
 refine bodyPost_ret (results_none rfl _ _ _) rfl ?_
 exact⟨rfl,hR⟩
theorem jpv(n:Nat)(w:World)(hn:n≤12):Calls Tryz.prog 188 #[.int .u64 n] w fun e w'=>(∃k,e=.returned (.int .i64 k))∧w=w':=by
 rcases(by omega:n=0∨n=1∨n=2∨n=3∨n=4∨n=5∨n=6∨n=7∨n=8∨n=9∨n=10∨n=11∨n=12)with h | h | h | h | h | h | h | h | h | h | h | h | h <;> subst h
 all_goals
  go_enter Tryz.func188,Tryz.ntmps188
  go_wp2_with fail
  go_ret
  exact⟨⟨_,rfl⟩,rfl⟩
theorem len_c(n:Nat)(w:World)(hn:n≤12):Calls Tryz.prog 122 #[.int .u64 n] w fun e w'=>(∃k,e=.returned (.int .i64 k))∧w=w':=by
 go_enter Tryz.func122,Tryz.ntmps122
 go_wp2_with fail
 go_fit (jpv n w hn)
 rintro e w1 ⟨⟨k,rfl⟩,rfl⟩
 go_wp2_with fail
 go_ret
 exact⟨⟨k,rfl⟩,rfl⟩
theorem jlu{R:World→Prop}(a:Option Addr)(n cap:Nat)(w:World)(hn:n≤12)(HI:Calls Tryz.prog 178 #[.slice a n cap,.int .i64 0,.int .i64 n] w fun e w'=>e=.returned (.tuple #[])∧R w') :
  Calls Tryz.prog 74 #[.slice a n cap] w fun e w'=>e=.returned (.tuple #[])∧R w':=by
 have HP:=fun k=>pdq_c a n cap k w hn HI
 have hcv:IntKind.u64.wrap (n:Int)=(n:Int):=by simp[IntKind.wrap,IntKind.signed,IntKind.bits];omega
 go_enter Tryz.func74,Tryz.ntmps74
 go_wp2_with fail
 go_fit (len_c n w hn)
 rintro e w1 ⟨⟨k,rfl⟩,rfl⟩
 go_wp2_with fail
 go_fit (HP k)
 rintro e w2 ⟨rfl,hR⟩
 go_wp2_with fail
 go_end0
 exact⟨rfl,hR⟩
theorem sort_c{base:Nat}(a:Option Addr)(n cap:Nat)(xs:List Int)(w:World)(own:w.ownsRow base 28 1 (.slice a n cap) n (xs.map iv))(hn:n≤12) :
  Calls Tryz.prog 74 #[.slice a n cap] w fun e w'=>e=.returned (.tuple #[])∧∃ys,w'.ownsRow base 28 1 (.slice a n cap) n (ys.map iv)∧ys.Perm xs∧UpTo n ys∧Keep (OwnB (.slice a n cap)) w w':=by
 have hl:xs.length=n:=by have:=own.1;simpa using this
 by_cases h0:n=0
 ·subst h0
  have hx:xs=[]:=List.eq_nil_of_length_eq_zero hl
  subst hx
  refine(jlu (R:=fun w'=>w=w') a 0 cap w hn (ins0_c a cap w)).mono ?_
  rintro e w' ⟨rfl,rfl⟩
  exact⟨rfl,[],own,List.Perm.refl _,fun p q h1 h2=>by omega,Keep.refl _ _⟩
 ·obtain⟨b,rest,rfl,hb,row,hlr,hlx,hc,hm⟩:=jg7 own (Nat.pos_of_ne_zero h0)
  refine(jlu (R:=fun w'=>∃ys,RowIs w' b 28 (ys.map iv ++ rest)∧ys.Perm xs∧UpTo n ys∧Keep (·=b) w w') _ n cap w hn (ins_c b n cap xs rest w row hl (by omega))).mono ?_
  rintro e w' ⟨rfl,ys,row',hp,hu,kk⟩
  have hly:ys.length=xs.length:=hp.length_eq
  refine⟨rfl,ys,jd9 row' hb (by rw[←hlr];simp[hly]) (by simp[hly,hl]) hc hm,hp,hu,kk.mono (fun i hi=>by rw[hi];rfl)⟩
end Go.Proofs.YtibaehlfpgipfaaGreat
