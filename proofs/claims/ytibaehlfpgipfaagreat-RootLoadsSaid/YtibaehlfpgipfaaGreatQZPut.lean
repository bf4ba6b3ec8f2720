/- THE WALKS of package wire's writer on lists and structs. Printed by gen4.py. -/
import Derived.Test.YtibaehlfpgipfaaGreatQZG3
namespace Go.Proofs.YtibaehlfpgipfaaGreat
open Go.RowKit
set_option maxRecDepth 100000
set_option maxHeartbeats 4000000
theorem jn5(w:World)(r:Nat)(g:Option Nat)(out:List UInt8)(p:Nat→Prop)(a0:Option Addr)(n ca:Nat)(l:List Int)(hl:jap (rInt .i64) w p [.slice a0 n ca] l)(hw:Wr w 141 r g out p)(hb:out.length+(encL encI l).length≤far) :
  Calls Tryz.prog 177 #[.pointer (some ⟨r,0,none⟩),.slice a0 n ca,.func (.func 93) #[] #[]] w (Puts 141 r p w g (out ++ encL encI l)):=by
 obtain⟨hn,hnc,hnf⟩:=ja0 hl
 have hfl:=far_len
 unfold maxLen at hfl
 have hnm:n≤9223372036854775807:=by omega
 have hw0:IntKind.u64.wrap (n:Int)=(n:Int):=by rw[IntKind.wrap_u64];omega
 have hnu:jaw (n:Int):=by unfold jaw;omega
 have HE:Hid (encL encI l=numB n ++ l.flatMap encI):=by show _=_;rw[hn];rfl
 have HB:Hid (out.length+((numB n).length+(l.flatMap encI).length)≤far):=by
  show _≤_
  rw[HE.out,List.length_append]at hb;exact hb
 have HN:=Lib.hid hn
 clear hb hnf hn hfl
 go_enter Tryz.func177,Tryz.ntmps177
 go_wp2_with fail
 go_fit (jfS w r g out p n hw hnu (by have:=HB.out;omega))
 rintro e w1 ⟨rfl,g1,wr1,ch1⟩
 clear hw0 hnu
 go_wp2_with fail
 go_loopw [15] (fun i wr=>∃(k:Nat) (g':Option Nat),k≤n∧i=.int .i64 k∧Wr wr 141 r g' (out ++ numB n ++ (l.take k).flatMap encI) p∧Chain r w g wr g') (fun i _=>n - (intOf i).toNat)
 case atStart=>exact⟨0,g1,by omega,rfl,by simpa using wr1,ch1⟩
 case round=>
  clear wr1 ch1
  obtain⟨k,gk,hk,rfl,wk,ck⟩:=hrel
  by_cases hlt:k<n
  ·have hll:k<l.length:=by rw[←HN.out];exact hlt
   have HS:Hid (out ++ numB n ++ (l.take (k+1)).flatMap encI=out ++ numB n ++ (l.take k).flatMap encI ++ encI l[k]):=by
    show _=_
    rw[jcI encI l k hll];simp only[List.append_assoc]
   have HBk:Hid ((out ++ numB n ++ (l.take k).flatMap encI).length+(encI l[k]).length≤far):=by
    show _≤_
    have h1:=jcg encI l k hll
    have h2:=HB.out
    simp only[List.length_append];omega
   obtain⟨b,off,rfl,hcell,hv0⟩:=jgk hl ck.keep hw.free k hll
   have hv:=jaO hv0
   have HV:=Lib.hid hv
   clear hv0 hv hl hw
   generalize l[k]=v at hcell HBk HS HV
   go_wp2_with fail
   go_fit (jn3 wr r gk _ p v wk HV.out HBk.out)
   rintro e w2 ⟨rfl,g2,wr2,ch2⟩
   clear wk
   have ck2:=ck.trans ch2
   clear ck ch2
   go_wp2
   go_roundw
   case rel=>exact⟨k+1,g2,by omega,by go_num,by rw[HS.out];exact wr2,ck2⟩
   case measure=>simp[intOf];omega
  ·obtain rfl:k=n:=by omega
   have e:l.take k=l:=List.take_of_length_le (by rw[←HN.out];omega)
   rw[e]at wk
   go_wp2_with fail
   go_end0
   exact⟨rfl,gk,by rw[HE.out,←List.append_assoc];exact wk,ck⟩
theorem wl_num(w:World)(r:Nat)(g:Option Nat)(out:List UInt8)(p:Nat→Prop)(a0:Option Addr)(n ca:Nat)(l:List Int)(hl:jap (rInt .u64) w p [.slice a0 n ca] l)(hw:Wr w 141 r g out p)(hb:out.length+(encL encU l).length≤far) :
  Calls Tryz.prog 98 #[.pointer (some ⟨r,0,none⟩),.slice a0 n ca,.func (.func 94) #[] #[]] w (Puts 141 r p w g (out ++ encL encU l)):=by
 obtain⟨hn,hnc,hnf⟩:=ja0 hl
 have hfl:=far_len
 unfold maxLen at hfl
 have hnm:n≤9223372036854775807:=by omega
 have hw0:IntKind.u64.wrap (n:Int)=(n:Int):=by rw[IntKind.wrap_u64];omega
 have hnu:jaw (n:Int):=by unfold jaw;omega
 have HE:Hid (encL encU l=numB n ++ l.flatMap encU):=by show _=_;rw[hn];rfl
 have HB:Hid (out.length+((numB n).length+(l.flatMap encU).length)≤far):=by
  show _≤_
  rw[HE.out,List.length_append]at hb;exact hb
 have HN:=Lib.hid hn
 clear hb hnf hn hfl
 go_enter Tryz.func98,Tryz.ntmps98
 go_wp2_with fail
 go_fit (jfS w r g out p n hw hnu (by have:=HB.out;omega))
 rintro e w1 ⟨rfl,g1,wr1,ch1⟩
 clear hw0 hnu
 go_wp2_with fail
 go_loopw [15] (fun i wr=>∃(k:Nat) (g':Option Nat),k≤n∧i=.int .i64 k∧Wr wr 141 r g' (out ++ numB n ++ (l.take k).flatMap encU) p∧Chain r w g wr g') (fun i _=>n - (intOf i).toNat)
 case atStart=>exact⟨0,g1,by omega,rfl,by simpa using wr1,ch1⟩
 case round=>
  clear wr1 ch1
  obtain⟨k,gk,hk,rfl,wk,ck⟩:=hrel
  by_cases hlt:k<n
  ·have hll:k<l.length:=by rw[←HN.out];exact hlt
   have HS:Hid (out ++ numB n ++ (l.take (k+1)).flatMap encU=out ++ numB n ++ (l.take k).flatMap encU ++ encU l[k]):=by
    show _=_
    rw[jcI encU l k hll];simp only[List.append_assoc]
   have HBk:Hid ((out ++ numB n ++ (l.take k).flatMap encU).length+(encU l[k]).length≤far):=by
    show _≤_
    have h1:=jcg encU l k hll
    have h2:=HB.out
    simp only[List.length_append];omega
   obtain⟨b,off,rfl,hcell,hv0⟩:=jgk hl ck.keep hw.free k hll
   have hv:=jeS hv0
   have HV:=Lib.hid hv
   clear hv0 hv hl hw
   generalize l[k]=v at hcell HBk HS HV
   go_wp2_with fail
   go_fit (jgt wr r gk _ p v wk HV.out HBk.out)
   rintro e w2 ⟨rfl,g2,wr2,ch2⟩
   clear wk
   have ck2:=ck.trans ch2
   clear ck ch2
   go_wp2
   go_roundw
   case rel=>exact⟨k+1,g2,by omega,by go_num,by rw[HS.out];exact wr2,ck2⟩
   case measure=>simp[intOf];omega
  ·obtain rfl:k=n:=by omega
   have e:l.take k=l:=List.take_of_length_le (by rw[←HN.out];omega)
   rw[e]at wk
   go_wp2_with fail
   go_end0
   exact⟨rfl,gk,by rw[HE.out,←List.append_assoc];exact wk,ck⟩
theorem jnz(w:World)(r:Nat)(g:Option Nat)(out:List UInt8)(p:Nat→Prop)(x:GColumn)(cs:List Value)(hx:jbl w p cs x)(hw:Wr w 141 r g out p)(hb:out.length+(jaK x).length≤far) :
  Calls Tryz.prog 176 #[.pointer (some ⟨r,0,none⟩),.agg cs.toArray] w (Puts 141 r p w g (out ++ jaK x)):=by
 obtain⟨rfl,h0,h1,-⟩:=jcE hx
 have hw0:=hw.box (.cells #[.string (strB x.fName),.int .i64 x.fKind,.bool x.fNull] 148)
 have row0:RowIs (w.alloc (.cells #[.string (strB x.fName),.int .i64 x.fKind,.bool x.fNull] 148)) w.heap.size 148 [.string (strB x.fName),.int .i64 x.fKind,.bool x.fNull]:=RowIs.alloc w _ _
 replace h0:=Lib.hid h0
 replace h1:=Lib.hid h1
 have HL:Hid (out.length+((jas x.fName).length+(encI x.fKind).length+(encF x.fNull).length)≤far):=by
  show _≤_
  simp only[jaK,List.length_append]at hb;omega
 have c0:Chain r (w.alloc (.cells #[.string (strB x.fName),.int .i64 x.fKind,.bool x.fNull] 148)) g (w.alloc (.cells #[.string (strB x.fName),.int .i64 x.fKind,.bool x.fNull] 148)) g:=Chain.refl _ _ _
 have cw:Chain r w g (w.alloc (.cells #[.string (strB x.fName),.int .i64 x.fKind,.bool x.fNull] 148)) g:=(Chain.refl r w g).alloc _
 clear hb hx hw
 go_enter Tryz.func176,Tryz.ntmps176
 go_wp2_with fail
 go_fit (jit _ r _ _ _ x.fName hw0 h0.out (by have:=HL.out;(try simp only[List.length_append]);omega))
 rintro e w1 ⟨rfl,g1,wr1,ch⟩
 have c1:=c0.trans ch
 clear ch
 replace c0:=c1
 clear c1
 have x1:w1.cell? ⟨w.heap.size,1,none⟩=some (.int .i64 x.fKind):=(row0.go hw0 c0 (.inr rfl)).cell 1
 go_wp2_with fail
 go_fit (je6 _ r _ _ _ x.fKind wr1 h1.out (by have:=HL.out;(try simp only[List.length_append]);omega))
 rintro e w2 ⟨rfl,g2,wr2,ch⟩
 have c2:=c0.trans ch
 clear ch
 clear wr1
 replace c0:=c2
 clear c2 x1
 have x2:w2.cell? ⟨w.heap.size,2,none⟩=some (.bool x.fNull):=(row0.go hw0 c0 (.inr rfl)).cell 2
 go_wp2_with fail
 go_fit (jgA _ r _ _ _ x.fNull wr2 (by have:=HL.out;(try simp only[List.length_append]);omega))
 rintro e w3 ⟨rfl,g3,wr3,ch⟩
 have c3:=c0.trans ch
 clear ch
 clear wr2
 replace c0:=c3
 clear c3 x2
 go_wp2_with fail
 go_end0
 refine⟨rfl,_,?_,cw.trans c0⟩
 simp only[jaK,←List.append_assoc]
 exact wr3.mono PB.of
theorem jn4(w:World)(r:Nat)(g:Option Nat)(out:List UInt8)(p:Nat→Prop)(a0:Option Addr)(n ca:Nat)(l:List GColumn)(hl:jap jbl w p [.slice a0 n ca] l)(hw:Wr w 141 r g out p)(hb:out.length+(encL jaK l).length≤far) :
  Calls Tryz.prog 175 #[.pointer (some ⟨r,0,none⟩),.slice a0 n ca,.func (.func 176) #[] #[]] w (Puts 141 r p w g (out ++ encL jaK l)):=by
 obtain⟨hn,hnc,hnf⟩:=ja0 hl
 have hfl:=far_len
 unfold maxLen at hfl
 have hnm:n≤9223372036854775807:=by omega
 have hw0:IntKind.u64.wrap (n:Int)=(n:Int):=by rw[IntKind.wrap_u64];omega
 have hnu:jaw (n:Int):=by unfold jaw;omega
 have HE:Hid (encL jaK l=numB n ++ l.flatMap jaK):=by show _=_;rw[hn];rfl
 have HB:Hid (out.length+((numB n).length+(l.flatMap jaK).length)≤far):=by
  show _≤_
  rw[HE.out,List.length_append]at hb;exact hb
 have HN:=Lib.hid hn
 clear hb hnf hn hfl
 go_enter Tryz.func175,Tryz.ntmps175
 go_wp2_with fail
 go_fit (jfS w r g out p n hw hnu (by have:=HB.out;omega))
 rintro e w1 ⟨rfl,g1,wr1,ch1⟩
 clear hw0 hnu
 go_wp2_with fail
 go_loopw [15] (fun i wr=>∃(k:Nat) (g':Option Nat),k≤n∧i=.int .i64 k∧Wr wr 141 r g' (out ++ numB n ++ (l.take k).flatMap jaK) p∧Chain r w g wr g') (fun i _=>n - (intOf i).toNat)
 case atStart=>exact⟨0,g1,by omega,rfl,by simpa using wr1,ch1⟩
 case round=>
  clear wr1 ch1
  obtain⟨k,gk,hk,rfl,wk,ck⟩:=hrel
  by_cases hlt:k<n
  ·have hll:k<l.length:=by rw[←HN.out];exact hlt
   have HS:Hid (out ++ numB n ++ (l.take (k+1)).flatMap jaK=out ++ numB n ++ (l.take k).flatMap jaK ++ jaK l[k]):=by
    show _=_
    rw[jcI jaK l k hll];simp only[List.append_assoc]
   have HBk:Hid ((out ++ numB n ++ (l.take k).flatMap jaK).length+(jaK l[k]).length≤far):=by
    show _≤_
    have h1:=jcg jaK l k hll
    have h2:=HB.out
    simp only[List.length_append];omega
   obtain⟨b,off,cap,c,h1,h2,h3,hx,h5⟩:=jaY rGColumn_lawful (by decide) hl k hll
   simp only[List.cons.injEq,Value.slice.injEq,and_true]at h1
   obtain⟨rfl,-,-⟩:=h1
   have hx':=rGColumn_lawful.keep hx ck.keep hw.free
   have hlt2:=Nat.lt_of_lt_of_le h3 ck.keep.size
   have hcl:=rGColumn_lawful.len hx
   have hrng:∀(j:Nat) (u:Value),c[j]?=some u→wr.cell? ⟨b,off+k*3+j,none⟩=some u:=fun j u hu=>(ck.keep.cell (p:=⟨b,off+k*3+j,none⟩) h3 (hw.free b h2)).trans (h5 j u hu)
   clear h5 hl hx
   obtain⟨rfl,-⟩:=jcE hx'
   have x0:wr.cell? ⟨b,off+k*3,none⟩=some (.string (strB l[k].fName)):=hrng 0 _ rfl
   have x1:wr.cell? ⟨b,off+k*3+1,none⟩=some (.int .i64 l[k].fKind):=hrng 1 _ rfl
   have x2:wr.cell? ⟨b,off+k*3+2,none⟩=some (.bool l[k].fNull):=hrng 2 _ rfl
   clear hrng
   generalize l[k]=v at *
   have wk3:=wk.box (.cells #[.string (strB v.fName),.int .i64 v.fKind,.bool v.fNull] 148)
   have hx3:=rGColumn_lawful.box hx' (.cells #[.string (strB v.fName),.int .i64 v.fKind,.bool v.fNull] 148)
   clear hx' wk hw
   go_wp2_with fail
   go_fit (jnz _ r gk _ _ v _ hx3 wk3 HBk.out)
   rintro e w2 ⟨rfl,g2,wr4,ch4⟩
   have wr2:=wr4.mono (q:=p) PB.of
   have ch2:=((Chain.refl r wr gk).alloc (.cells #[.string (strB v.fName),.int .i64 v.fKind,.bool v.fNull] 148)).trans ch4
   clear wr4 ch4 hx3 wk3 x0 x1 x2
   have ck2:=ck.trans ch2
   clear ck ch2
   go_wp2
   go_roundw
   case rel=>exact⟨k+1,g2,by omega,by go_num,by rw[HS.out];exact wr2,ck2⟩
   case measure=>simp[intOf];omega
  ·obtain rfl:k=n:=by omega
   have e:l.take k=l:=List.take_of_length_le (by rw[←HN.out];omega)
   rw[e]at wk
   go_wp2_with fail
   go_end0
   exact⟨rfl,gk,by rw[HE.out,←List.append_assoc];exact wk,ck⟩
theorem joL(w:World)(r:Nat)(g:Option Nat)(out:List UInt8)(p:Nat→Prop)(x:GTable)(cs:List Value)(hx:jaG w p cs x)(hw:Wr w 141 r g out p)(hb:out.length+(jaN x).length≤far) :
  Calls Tryz.prog 117 #[.pointer (some ⟨r,0,none⟩),.agg cs.toArray] w (Puts 141 r p w g (out ++ jaN x)):=by
 obtain⟨jaj,jak,aKey,cKey,rfl,h0,h1,h2,h3,-⟩:=jbw hx
 have hw0:=hw.box (.cells #[.int .i64 x.fID,.string (strB x.fName),.slice jaj x.fColumns.length jak,.slice aKey x.fKey.length cKey] 39)
 have row0:RowIs (w.alloc (.cells #[.int .i64 x.fID,.string (strB x.fName),.slice jaj x.fColumns.length jak,.slice aKey x.fKey.length cKey] 39)) w.heap.size 39 [.int .i64 x.fID,.string (strB x.fName),.slice jaj x.fColumns.length jak,.slice aKey x.fKey.length cKey]:=RowIs.alloc w _ _
 replace h0:=Lib.hid h0
 replace h1:=Lib.hid h1
 replace h2:=(jac rGColumn_lawful).box h2 (.cells #[.int .i64 x.fID,.string (strB x.fName),.slice jaj x.fColumns.length jak,.slice aKey x.fKey.length cKey] 39)
 replace h2:=Lib.hid h2
 replace h3:=(jac (jab _)).box h3 (.cells #[.int .i64 x.fID,.string (strB x.fName),.slice jaj x.fColumns.length jak,.slice aKey x.fKey.length cKey] 39)
 replace h3:=Lib.hid h3
 have HL:Hid (out.length+((encI x.fID).length+(jas x.fName).length+(encL jaK x.fColumns).length+(encL encI x.fKey).length)≤far):=by
  show _≤_
  simp only[jaN,List.length_append]at hb;omega
 have c0:Chain r (w.alloc (.cells #[.int .i64 x.fID,.string (strB x.fName),.slice jaj x.fColumns.length jak,.slice aKey x.fKey.length cKey] 39)) g (w.alloc (.cells #[.int .i64 x.fID,.string (strB x.fName),.slice jaj x.fColumns.length jak,.slice aKey x.fKey.length cKey] 39)) g:=Chain.refl _ _ _
 have cw:Chain r w g (w.alloc (.cells #[.int .i64 x.fID,.string (strB x.fName),.slice jaj x.fColumns.length jak,.slice aKey x.fKey.length cKey] 39)) g:=(Chain.refl r w g).alloc _
 clear hb hx hw
 go_enter Tryz.func117,Tryz.ntmps117
 go_wp2_with fail
 go_fit (je6 _ r _ _ _ x.fID hw0 h0.out (by have:=HL.out;(try simp only[List.length_append]);omega))
 rintro e w1 ⟨rfl,g1,wr1,ch⟩
 have c1:=c0.trans ch
 clear ch
 replace c0:=c1
 clear c1
 have x1:w1.cell? ⟨w.heap.size,1,none⟩=some (.string (strB x.fName)):=(row0.go hw0 c0 (.inr rfl)).cell 1
 go_wp2_with fail
 go_fit (jit _ r _ _ _ x.fName wr1 h1.out (by have:=HL.out;(try simp only[List.length_append]);omega))
 rintro e w2 ⟨rfl,g2,wr2,ch⟩
 have c2:=c0.trans ch
 clear ch
 clear wr1
 replace c0:=c2
 clear c2 x1
 have x2:w2.cell? ⟨w.heap.size,2,none⟩=some (.slice jaj x.fColumns.length jak):=(row0.go hw0 c0 (.inr rfl)).cell 2
 go_wp2_with fail
 go_fit (jn4 _ r _ _ _ jaj _ jak x.fColumns ((jac rGColumn_lawful).go h2.out hw0 c0) wr2 (by have:=HL.out;(try simp only[List.length_append]);omega))
 rintro e w3 ⟨rfl,g3,wr3,ch⟩
 have c3:=c0.trans ch
 clear ch
 clear wr2
 replace c0:=c3
 clear c3 x2
 have x3:w3.cell? ⟨w.heap.size,3,none⟩=some (.slice aKey x.fKey.length cKey):=(row0.go hw0 c0 (.inr rfl)).cell 3
 go_wp2_with fail
 go_fit (jn5 _ r _ _ _ aKey _ cKey x.fKey ((jac (jab _)).go h3.out hw0 c0) wr3 (by have:=HL.out;(try simp only[List.length_append]);omega))
 rintro e w4 ⟨rfl,g4,wr4,ch⟩
 have c4:=c0.trans ch
 clear ch
 clear wr3
 replace c0:=c4
 clear c4 x3
 go_wp2_with fail
 go_end0
 refine⟨rfl,_,?_,cw.trans c0⟩
 simp only[jaN,←List.append_assoc]
 exact wr4.mono PB.of
theorem joO(w:World)(r:Nat)(g:Option Nat)(out:List UInt8)(p:Nat→Prop)(a0:Option Addr)(n ca:Nat)(l:List GTable)(hl:jap jaG w p [.slice a0 n ca] l)(hw:Wr w 141 r g out p)(hb:out.length+(encL jaN l).length≤far) :
  Calls Tryz.prog 116 #[.pointer (some ⟨r,0,none⟩),.slice a0 n ca,.func (.func 117) #[] #[]] w (Puts 141 r p w g (out ++ encL jaN l)):=by
 obtain⟨hn,hnc,hnf⟩:=ja0 hl
 have hfl:=far_len
 unfold maxLen at hfl
 have hnm:n≤9223372036854775807:=by omega
 have hw0:IntKind.u64.wrap (n:Int)=(n:Int):=by rw[IntKind.wrap_u64];omega
 have hnu:jaw (n:Int):=by unfold jaw;omega
 have HE:Hid (encL jaN l=numB n ++ l.flatMap jaN):=by show _=_;rw[hn];rfl
 have HB:Hid (out.length+((numB n).length+(l.flatMap jaN).length)≤far):=by
  show _≤_
  rw[HE.out,List.length_append]at hb;exact hb
 have HN:=Lib.hid hn
 clear hb hnf hn hfl
 go_enter Tryz.func116,Tryz.ntmps116
 go_wp2_with fail
 go_fit (jfS w r g out p n hw hnu (by have:=HB.out;omega))
 rintro e w1 ⟨rfl,g1,wr1,ch1⟩
 clear hw0 hnu
 go_wp2_with fail
 go_loopw [15] (fun i wr=>∃(k:Nat) (g':Option Nat),k≤n∧i=.int .i64 k∧Wr wr 141 r g' (out ++ numB n ++ (l.take k).flatMap jaN) p∧Chain r w g wr g') (fun i _=>n - (intOf i).toNat)
 case atStart=>exact⟨0,g1,by omega,rfl,by simpa using wr1,ch1⟩
 case round=>
  clear wr1 ch1
  obtain⟨k,gk,hk,rfl,wk,ck⟩:=hrel
  by_cases hlt:k<n
  ·have hll:k<l.length:=by rw[←HN.out];exact hlt
   have HS:Hid (out ++ numB n ++ (l.take (k+1)).flatMap jaN=out ++ numB n ++ (l.take k).flatMap jaN ++ jaN l[k]):=by
    show _=_
    rw[jcI jaN l k hll];simp only[List.append_assoc]
   have HBk:Hid ((out ++ numB n ++ (l.take k).flatMap jaN).length+(jaN l[k]).length≤far):=by
    show _≤_
    have h1:=jcg jaN l k hll
    have h2:=HB.out
    simp only[List.length_append];omega
   obtain⟨b,off,cap,c,h1,h2,h3,hx,h5⟩:=jaY rGTable_lawful (by decide) hl k hll
   simp only[List.cons.injEq,Value.slice.injEq,and_true]at h1
   obtain⟨rfl,-,-⟩:=h1
   have hx':=rGTable_lawful.keep hx ck.keep hw.free
   have hlt2:=Nat.lt_of_lt_of_le h3 ck.keep.size
   have hcl:=rGTable_lawful.len hx
   have hrng:∀(j:Nat) (u:Value),c[j]?=some u→wr.cell? ⟨b,off+k*4+j,none⟩=some u:=fun j u hu=>(ck.keep.cell (p:=⟨b,off+k*4+j,none⟩) h3 (hw.free b h2)).trans (h5 j u hu)
   clear h5 hl hx
   obtain⟨jaj,jak,aKey,cKey,rfl,-⟩:=jbw hx'
   have x0:wr.cell? ⟨b,off+k*4,none⟩=some (.int .i64 l[k].fID):=hrng 0 _ rfl
   have x1:wr.cell? ⟨b,off+k*4+1,none⟩=some (.string (strB l[k].fName)):=hrng 1 _ rfl
   have x2:wr.cell? ⟨b,off+k*4+2,none⟩=some (.slice jaj l[k].fColumns.length jak):=hrng 2 _ rfl
   have x3:wr.cell? ⟨b,off+k*4+3,none⟩=some (.slice aKey l[k].fKey.length cKey):=hrng 3 _ rfl
   clear hrng
   generalize l[k]=v at *
   have wk3:=wk.box (.cells #[.int .i64 v.fID,.string (strB v.fName),.slice jaj v.fColumns.length jak,.slice aKey v.fKey.length cKey] 39)
   have hx3:=rGTable_lawful.box hx' (.cells #[.int .i64 v.fID,.string (strB v.fName),.slice jaj v.fColumns.length jak,.slice aKey v.fKey.length cKey] 39)
   clear hx' wk hw
   go_wp2_with fail
   go_fit (joL _ r gk _ _ v _ hx3 wk3 HBk.out)
   rintro e w2 ⟨rfl,g2,wr4,ch4⟩
   have wr2:=wr4.mono (q:=p) PB.of
   have ch2:=((Chain.refl r wr gk).alloc (.cells #[.int .i64 v.fID,.string (strB v.fName),.slice jaj v.fColumns.length jak,.slice aKey v.fKey.length cKey] 39)).trans ch4
   clear wr4 ch4 hx3 wk3 x0 x1 x2 x3
   have ck2:=ck.trans ch2
   clear ck ch2
   go_wp2
   go_roundw
   case rel=>exact⟨k+1,g2,by omega,by go_num,by rw[HS.out];exact wr2,ck2⟩
   case measure=>simp[intOf];omega
  ·obtain rfl:k=n:=by omega
   have e:l.take k=l:=List.take_of_length_le (by rw[←HN.out];omega)
   rw[e]at wk
   go_wp2_with fail
   go_end0
   exact⟨rfl,gk,by rw[HE.out,←List.append_assoc];exact wk,ck⟩
theorem joJ(w:World)(r:Nat)(g:Option Nat)(out:List UInt8)(p:Nat→Prop)(x:GIndex)(cs:List Value)(hx:jaZ w p cs x)(hw:Wr w 141 r g out p)(hb:out.length+(jaM x).length≤far) :
  Calls Tryz.prog 119 #[.pointer (some ⟨r,0,none⟩),.agg cs.toArray] w (Puts 141 r p w g (out ++ jaM x)):=by
 obtain⟨jaj,jak,rfl,h0,h1,h2,h3,h5,-⟩:=jbA hx
 have hw0:=hw.box (.cells #[.int .i64 x.fID,.int .i64 x.fTable,.string (strB x.fName),.slice jaj x.fColumns.length jak,.bool x.fUnique,.int .i64 x.fState,.bool x.fBad] 41)
 have row0:RowIs (w.alloc (.cells #[.int .i64 x.fID,.int .i64 x.fTable,.string (strB x.fName),.slice jaj x.fColumns.length jak,.bool x.fUnique,.int .i64 x.fState,.bool x.fBad] 41)) w.heap.size 41 [.int .i64 x.fID,.int .i64 x.fTable,.string (strB x.fName),.slice jaj x.fColumns.length jak,.bool x.fUnique,.int .i64 x.fState,.bool x.fBad]:=RowIs.alloc w _ _
 replace h0:=Lib.hid h0
 replace h1:=Lib.hid h1
 replace h2:=Lib.hid h2
 replace h3:=(jac (jab _)).box h3 (.cells #[.int .i64 x.fID,.int .i64 x.fTable,.string (strB x.fName),.slice jaj x.fColumns.length jak,.bool x.fUnique,.int .i64 x.fState,.bool x.fBad] 41)
 replace h3:=Lib.hid h3
 replace h5:=Lib.hid h5
 have HL:Hid (out.length+((encI x.fID).length+(encI x.fTable).length+(jas x.fName).length+(encL encI x.fColumns).length+(encF x.fUnique).length+(encI x.fState).length+(encF x.fBad).length)≤far):=by
  show _≤_
  simp only[jaM,List.length_append]at hb;omega
 have c0:Chain r (w.alloc (.cells #[.int .i64 x.fID,.int .i64 x.fTable,.string (strB x.fName),.slice jaj x.fColumns.length jak,.bool x.fUnique,.int .i64 x.fState,.bool x.fBad] 41)) g (w.alloc (.cells #[.int .i64 x.fID,.int .i64 x.fTable,.string (strB x.fName),.slice jaj x.fColumns.length jak,.bool x.fUnique,.int .i64 x.fState,.bool x.fBad] 41)) g:=Chain.refl _ _ _
 have cw:Chain r w g (w.alloc (.cells #[.int .i64 x.fID,.int .i64 x.fTable,.string (strB x.fName),.slice jaj x.fColumns.length jak,.bool x.fUnique,.int .i64 x.fState,.bool x.fBad] 41)) g:=(Chain.refl r w g).alloc _
 clear hb hx hw
 go_enter Tryz.func119,Tryz.ntmps119
 go_wp2_with fail
 go_fit (jgB _ r _ _ _ _ 2 2 [x.fID,x.fTable] (jha _ [x.fID,x.fTable] (by simp only[List.forall_mem_cons,List.not_mem_nil,false_implies,implies_true,and_true];exact⟨h0.out,h1.out⟩) (by show 2≤far;decide) _ _ (.inr rfl) (w.heap.size+1) (by simp)) (hw0.box _) (by have:=HL.out;simp only[List.length_append,List.flatMap_cons,List.flatMap_nil,List.append_nil];omega))
 rintro e w1 ⟨rfl,g1,wq,ch⟩
 have wr1:=wq.mono PB.of
 simp only[List.flatMap_cons,List.flatMap_nil,List.append_nil,←List.append_assoc]at wr1
 have c1:=(c0.alloc _).trans ch
 clear wq ch
 replace c0:=c1
 clear c1
 have x2:w1.cell? ⟨w.heap.size,2,none⟩=some (.string (strB x.fName)):=(row0.go hw0 c0 (.inr rfl)).cell 2
 go_wp2_with fail
 go_fit (jit _ r _ _ _ x.fName wr1 h2.out (by have:=HL.out;(try simp only[List.length_append]);omega))
 rintro e w2 ⟨rfl,g2,wr2,ch⟩
 have c2:=c0.trans ch
 clear ch
 clear wr1
 replace c0:=c2
 clear c2 x2
 have x3:w2.cell? ⟨w.heap.size,3,none⟩=some (.slice jaj x.fColumns.length jak):=(row0.go hw0 c0 (.inr rfl)).cell 3
 go_wp2_with fail
 go_fit (jn5 _ r _ _ _ jaj _ jak x.fColumns ((jac (jab _)).go h3.out hw0 c0) wr2 (by have:=HL.out;(try simp only[List.length_append]);omega))
 rintro e w3 ⟨rfl,g3,wr3,ch⟩
 have c3:=c0.trans ch
 clear ch
 clear wr2
 replace c0:=c3
 clear c3 x3
 have x4:w3.cell? ⟨w.heap.size,4,none⟩=some (.bool x.fUnique):=(row0.go hw0 c0 (.inr rfl)).cell 4
 go_wp2_with fail
 go_fit (jgA _ r _ _ _ x.fUnique wr3 (by have:=HL.out;(try simp only[List.length_append]);omega))
 rintro e w4 ⟨rfl,g4,wr4,ch⟩
 have c4:=c0.trans ch
 clear ch
 clear wr3
 replace c0:=c4
 clear c4 x4
 have x5:w4.cell? ⟨w.heap.size,5,none⟩=some (.int .i64 x.fState):=(row0.go hw0 c0 (.inr rfl)).cell 5
 go_wp2_with fail
 go_fit (je6 _ r _ _ _ x.fState wr4 h5.out (by have:=HL.out;(try simp only[List.length_append]);omega))
 rintro e w5 ⟨rfl,g5,wr5,ch⟩
 have c5:=c0.trans ch
 clear ch
 clear wr4
 replace c0:=c5
 clear c5 x5
 have x6:w5.cell? ⟨w.heap.size,6,none⟩=some (.bool x.fBad):=(row0.go hw0 c0 (.inr rfl)).cell 6
 go_wp2_with fail
 go_fit (jgA _ r _ _ _ x.fBad wr5 (by have:=HL.out;(try simp only[List.length_append]);omega))
 rintro e w6 ⟨rfl,g6,wr6,ch⟩
 have c6:=c0.trans ch
 clear ch
 clear wr5
 replace c0:=c6
 clear c6 x6
 go_wp2_with fail
 go_end0
 refine⟨rfl,_,?_,cw.trans c0⟩
 simp only[jaM,←List.append_assoc]
 exact wr6.mono PB.of
theorem joM(w:World)(r:Nat)(g:Option Nat)(out:List UInt8)(p:Nat→Prop)(a0:Option Addr)(n ca:Nat)(l:List GIndex)(hl:jap jaZ w p [.slice a0 n ca] l)(hw:Wr w 141 r g out p)(hb:out.length+(encL jaM l).length≤far) :
  Calls Tryz.prog 118 #[.pointer (some ⟨r,0,none⟩),.slice a0 n ca,.func (.func 119) #[] #[]] w (Puts 141 r p w g (out ++ encL jaM l)):=by
 obtain⟨hn,hnc,hnf⟩:=ja0 hl
 have hfl:=far_len
 unfold maxLen at hfl
 have hnm:n≤9223372036854775807:=by omega
 have hw0:IntKind.u64.wrap (n:Int)=(n:Int):=by rw[IntKind.wrap_u64];omega
 have hnu:jaw (n:Int):=by unfold jaw;omega
 have HE:Hid (encL jaM l=numB n ++ l.flatMap jaM):=by show _=_;rw[hn];rfl
 have HB:Hid (out.length+((numB n).length+(l.flatMap jaM).length)≤far):=by
  show _≤_
  rw[HE.out,List.length_append]at hb;exact hb
 have HN:=Lib.hid hn
 clear hb hnf hn hfl
 go_enter Tryz.func118,Tryz.ntmps118
 go_wp2_with fail
 go_fit (jfS w r g out p n hw hnu (by have:=HB.out;omega))
 rintro e w1 ⟨rfl,g1,wr1,ch1⟩
 clear hw0 hnu
 go_wp2_with fail
 go_loopw [15] (fun i wr=>∃(k:Nat) (g':Option Nat),k≤n∧i=.int .i64 k∧Wr wr 141 r g' (out ++ numB n ++ (l.take k).flatMap jaM) p∧Chain r w g wr g') (fun i _=>n - (intOf i).toNat)
 case atStart=>exact⟨0,g1,by omega,rfl,by simpa using wr1,ch1⟩
 case round=>
  clear wr1 ch1
  obtain⟨k,gk,hk,rfl,wk,ck⟩:=hrel
  by_cases hlt:k<n
  ·have hll:k<l.length:=by rw[←HN.out];exact hlt
   have HS:Hid (out ++ numB n ++ (l.take (k+1)).flatMap jaM=out ++ numB n ++ (l.take k).flatMap jaM ++ jaM l[k]):=by
    show _=_
    rw[jcI jaM l k hll];simp only[List.append_assoc]
   have HBk:Hid ((out ++ numB n ++ (l.take k).flatMap jaM).length+(jaM l[k]).length≤far):=by
    show _≤_
    have h1:=jcg jaM l k hll
    have h2:=HB.out
    simp only[List.length_append];omega
   obtain⟨b,off,cap,c,h1,h2,h3,hx,h5⟩:=jaY rGIndex_lawful (by decide) hl k hll
   simp only[List.cons.injEq,Value.slice.injEq,and_true]at h1
   obtain⟨rfl,-,-⟩:=h1
   have hx':=rGIndex_lawful.keep hx ck.keep hw.free
   have hlt2:=Nat.lt_of_lt_of_le h3 ck.keep.size
   have hcl:=rGIndex_lawful.len hx
   have hrng:∀(j:Nat) (u:Value),c[j]?=some u→wr.cell? ⟨b,off+k*7+j,none⟩=some u:=fun j u hu=>(ck.keep.cell (p:=⟨b,off+k*7+j,none⟩) h3 (hw.free b h2)).trans (h5 j u hu)
   clear h5 hl hx
   obtain⟨jaj,jak,rfl,-⟩:=jbA hx'
   have x0:wr.cell? ⟨b,off+k*7,none⟩=some (.int .i64 l[k].fID):=hrng 0 _ rfl
   have x1:wr.cell? ⟨b,off+k*7+1,none⟩=some (.int .i64 l[k].fTable):=hrng 1 _ rfl
   have x2:wr.cell? ⟨b,off+k*7+2,none⟩=some (.string (strB l[k].fName)):=hrng 2 _ rfl
   have x3:wr.cell? ⟨b,off+k*7+3,none⟩=some (.slice jaj l[k].fColumns.length jak):=hrng 3 _ rfl
   have x4:wr.cell? ⟨b,off+k*7+4,none⟩=some (.bool l[k].fUnique):=hrng 4 _ rfl
   have x5:wr.cell? ⟨b,off+k*7+5,none⟩=some (.int .i64 l[k].fState):=hrng 5 _ rfl
   have x6:wr.cell? ⟨b,off+k*7+6,none⟩=some (.bool l[k].fBad):=hrng 6 _ rfl
   clear hrng
   generalize l[k]=v at *
   have wk3:=wk.box (.cells #[.int .i64 v.fID,.int .i64 v.fTable,.string (strB v.fName),.slice jaj v.fColumns.length jak,.bool v.fUnique,.int .i64 v.fState,.bool v.fBad] 41)
   have hx3:=rGIndex_lawful.box hx' (.cells #[.int .i64 v.fID,.int .i64 v.fTable,.string (strB v.fName),.slice jaj v.fColumns.length jak,.bool v.fUnique,.int .i64 v.fState,.bool v.fBad] 41)
   clear hx' wk hw
   go_wp2_with fail
   go_fit (joJ _ r gk _ _ v _ hx3 wk3 HBk.out)
   rintro e w2 ⟨rfl,g2,wr4,ch4⟩
   have wr2:=wr4.mono (q:=p) PB.of
   have ch2:=((Chain.refl r wr gk).alloc (.cells #[.int .i64 v.fID,.int .i64 v.fTable,.string (strB v.fName),.slice jaj v.fColumns.length jak,.bool v.fUnique,.int .i64 v.fState,.bool v.fBad] 41)).trans ch4
   clear wr4 ch4 hx3 wk3 x0 x1 x2 x3 x4 x5 x6
   have ck2:=ck.trans ch2
   clear ck ch2
   go_wp2
   go_roundw
   case rel=>exact⟨k+1,g2,by omega,by go_num,by rw[HS.out];exact wr2,ck2⟩
   case measure=>simp[intOf];omega
  ·obtain rfl:k=n:=by omega
   have e:l.take k=l:=List.take_of_length_le (by rw[←HN.out];omega)
   rw[e]at wk
   go_wp2_with fail
   go_end0
   exact⟨rfl,gk,by rw[HE.out,←List.append_assoc];exact wk,ck⟩
theorem jhT(w:World)(r:Nat)(g:Option Nat)(out:List UInt8)(p:Nat→Prop)(x:GCatalog)(cs:List Value)(hx:jat w p cs x)(hw:Wr w 141 r g out p)(hb:out.length+(jaq x).length≤far) :
  Calls Tryz.prog 72 #[.pointer (some ⟨r,0,none⟩),.agg cs.toArray] w (Puts 141 r p w g (out ++ jaq x)):=by
 obtain⟨jaU,jaW,jaI,jaJ,rfl,h0,h1,h2,h3,-⟩:=jau hx
 have hw0:=hw.box (.cells #[.int .i64 x.fVersion,.int .i64 x.fNext,.slice jaU x.fTables.length jaW,.slice jaI x.fIndexes.length jaJ] 50)
 have row0:RowIs (w.alloc (.cells #[.int .i64 x.fVersion,.int .i64 x.fNext,.slice jaU x.fTables.length jaW,.slice jaI x.fIndexes.length jaJ] 50)) w.heap.size 50 [.int .i64 x.fVersion,.int .i64 x.fNext,.slice jaU x.fTables.length jaW,.slice jaI x.fIndexes.length jaJ]:=RowIs.alloc w _ _
 replace h0:=Lib.hid h0
 replace h1:=Lib.hid h1
 replace h2:=(jac rGTable_lawful).box h2 (.cells #[.int .i64 x.fVersion,.int .i64 x.fNext,.slice jaU x.fTables.length jaW,.slice jaI x.fIndexes.length jaJ] 50)
 replace h2:=Lib.hid h2
 replace h3:=(jac rGIndex_lawful).box h3 (.cells #[.int .i64 x.fVersion,.int .i64 x.fNext,.slice jaU x.fTables.length jaW,.slice jaI x.fIndexes.length jaJ] 50)
 replace h3:=Lib.hid h3
 have HL:Hid (out.length+((encI x.fVersion).length+(encI x.fNext).length+(encL jaN x.fTables).length+(encL jaM x.fIndexes).length)≤far):=by
  show _≤_
  simp only[jaq,List.length_append]at hb;omega
 have c0:Chain r (w.alloc (.cells #[.int .i64 x.fVersion,.int .i64 x.fNext,.slice jaU x.fTables.length jaW,.slice jaI x.fIndexes.length jaJ] 50)) g (w.alloc (.cells #[.int .i64 x.fVersion,.int .i64 x.fNext,.slice jaU x.fTables.length jaW,.slice jaI x.fIndexes.length jaJ] 50)) g:=Chain.refl _ _ _
 have cw:Chain r w g (w.alloc (.cells #[.int .i64 x.fVersion,.int .i64 x.fNext,.slice jaU x.fTables.length jaW,.slice jaI x.fIndexes.length jaJ] 50)) g:=(Chain.refl r w g).alloc _
 clear hb hx hw
 go_enter Tryz.func72,Tryz.ntmps72
 go_wp2_with fail
 go_fit (jgB _ r _ _ _ _ 2 2 [x.fVersion,x.fNext] (jha _ [x.fVersion,x.fNext] (by simp only[List.forall_mem_cons,List.not_mem_nil,false_implies,implies_true,and_true];exact⟨h0.out,h1.out⟩) (by show 2≤far;decide) _ _ (.inr rfl) (w.heap.size+1) (by simp)) (hw0.box _) (by have:=HL.out;simp only[List.length_append,List.flatMap_cons,List.flatMap_nil,List.append_nil];omega))
 rintro e w1 ⟨rfl,g1,wq,ch⟩
 have wr1:=wq.mono PB.of
 simp only[List.flatMap_cons,List.flatMap_nil,List.append_nil,←List.append_assoc]at wr1
 have c1:=(c0.alloc _).trans ch
 clear wq ch
 replace c0:=c1
 clear c1
 have x2:w1.cell? ⟨w.heap.size,2,none⟩=some (.slice jaU x.fTables.length jaW):=(row0.go hw0 c0 (.inr rfl)).cell 2
 go_wp2_with fail
 go_fit (joO _ r _ _ _ jaU _ jaW x.fTables ((jac rGTable_lawful).go h2.out hw0 c0) wr1 (by have:=HL.out;(try simp only[List.length_append]);omega))
 rintro e w2 ⟨rfl,g2,wr2,ch⟩
 have c2:=c0.trans ch
 clear ch
 clear wr1
 replace c0:=c2
 clear c2 x2
 have x3:w2.cell? ⟨w.heap.size,3,none⟩=some (.slice jaI x.fIndexes.length jaJ):=(row0.go hw0 c0 (.inr rfl)).cell 3
 go_wp2_with fail
 go_fit (joM _ r _ _ _ jaI _ jaJ x.fIndexes ((jac rGIndex_lawful).go h3.out hw0 c0) wr2 (by have:=HL.out;(try simp only[List.length_append]);omega))
 rintro e w3 ⟨rfl,g3,wr3,ch⟩
 have c3:=c0.trans ch
 clear ch
 clear wr2
 replace c0:=c3
 clear c3 x3
 go_wp2_with fail
 go_end0
 refine⟨rfl,_,?_,cw.trans c0⟩
 simp only[jaq,←List.append_assoc]
 exact wr3.mono PB.of
theorem jpH(w:World)(r:Nat)(g:Option Nat)(out:List UInt8)(p:Nat→Prop)(x:GPair)(cs:List Value)(hx:jdj w p cs x)(hw:Wr w 141 r g out p)(hb:out.length+(jaX x).length≤far) :
  Calls Tryz.prog 97 #[.pointer (some ⟨r,0,none⟩),.agg cs.toArray] w (Puts 141 r p w g (out ++ jaX x)):=by
 obtain⟨aKey,cKey,jbO,jbP,rfl,h0,h1,h2,-⟩:=jgK hx
 have hw0:=hw.box (.cells #[.slice aKey x.fKey.length cKey,.slice jbO x.fValue.length jbP,.int .i64 x.fVersion] 114)
 have row0:RowIs (w.alloc (.cells #[.slice aKey x.fKey.length cKey,.slice jbO x.fValue.length jbP,.int .i64 x.fVersion] 114)) w.heap.size 114 [.slice aKey x.fKey.length cKey,.slice jbO x.fValue.length jbP,.int .i64 x.fVersion]:=RowIs.alloc w _ _
 replace h0:=And.intro (h0.1.box (.cells #[.slice aKey x.fKey.length cKey,.slice jbO x.fValue.length jbP,.int .i64 x.fVersion] 114)) h0.2
 replace h0:=Lib.hid h0
 replace h1:=And.intro (h1.1.box (.cells #[.slice aKey x.fKey.length cKey,.slice jbO x.fValue.length jbP,.int .i64 x.fVersion] 114)) h1.2
 replace h1:=Lib.hid h1
 replace h2:=Lib.hid h2
 have HL:Hid (out.length+((jas x.fKey).length+(jas x.fValue).length+(encI x.fVersion).length)≤far):=by
  show _≤_
  simp only[jaX,List.length_append]at hb;omega
 have c0:Chain r (w.alloc (.cells #[.slice aKey x.fKey.length cKey,.slice jbO x.fValue.length jbP,.int .i64 x.fVersion] 114)) g (w.alloc (.cells #[.slice aKey x.fKey.length cKey,.slice jbO x.fValue.length jbP,.int .i64 x.fVersion] 114)) g:=Chain.refl _ _ _
 have cw:Chain r w g (w.alloc (.cells #[.slice aKey x.fKey.length cKey,.slice jbO x.fValue.length jbP,.int .i64 x.fVersion] 114)) g:=(Chain.refl r w g).alloc _
 clear hb hx hw
 go_enter Tryz.func97,Tryz.ntmps97
 go_wp2_with fail
 go_fit (jfe _ r _ _ _ aKey _ cKey x.fKey hw0 rfl (h0.out.1.go hw0 c0) (by have:=h0.out.2.2;have:=far_len;omega) (by have:=HL.out;(try simp only[List.length_append]);omega))
 rintro e w1 ⟨rfl,g1,wr1,ch⟩
 have c1:=c0.trans ch
 clear ch
 replace c0:=c1
 clear c1
 have x1:w1.cell? ⟨w.heap.size,1,none⟩=some (.slice jbO x.fValue.length jbP):=(row0.go hw0 c0 (.inr rfl)).cell 1
 go_wp2_with fail
 go_fit (jfe _ r _ _ _ jbO _ jbP x.fValue wr1 rfl (h1.out.1.go hw0 c0) (by have:=h1.out.2.2;have:=far_len;omega) (by have:=HL.out;(try simp only[List.length_append]);omega))
 rintro e w2 ⟨rfl,g2,wr2,ch⟩
 have c2:=c0.trans ch
 clear ch
 clear wr1
 replace c0:=c2
 clear c2 x1
 have x2:w2.cell? ⟨w.heap.size,2,none⟩=some (.int .i64 x.fVersion):=(row0.go hw0 c0 (.inr rfl)).cell 2
 go_wp2_with fail
 go_fit (je6 _ r _ _ _ x.fVersion wr2 h2.out (by have:=HL.out;(try simp only[List.length_append]);omega))
 rintro e w3 ⟨rfl,g3,wr3,ch⟩
 have c3:=c0.trans ch
 clear ch
 clear wr2
 replace c0:=c3
 clear c3 x2
 go_wp2_with fail
 go_end0
 refine⟨rfl,_,?_,cw.trans c0⟩
 simp only[jaX,←List.append_assoc]
 exact wr3.mono PB.of
theorem jpI(w:World)(r:Nat)(g:Option Nat)(out:List UInt8)(p:Nat→Prop)(a0:Option Addr)(n ca:Nat)(l:List GPair)(hl:jap jdj w p [.slice a0 n ca] l)(hw:Wr w 141 r g out p)(hb:out.length+(encL jaX l).length≤far) :
  Calls Tryz.prog 96 #[.pointer (some ⟨r,0,none⟩),.slice a0 n ca,.func (.func 97) #[] #[]] w (Puts 141 r p w g (out ++ encL jaX l)):=by
 obtain⟨hn,hnc,hnf⟩:=ja0 hl
 have hfl:=far_len
 unfold maxLen at hfl
 have hnm:n≤9223372036854775807:=by omega
 have hw0:IntKind.u64.wrap (n:Int)=(n:Int):=by rw[IntKind.wrap_u64];omega
 have hnu:jaw (n:Int):=by unfold jaw;omega
 have HE:Hid (encL jaX l=numB n ++ l.flatMap jaX):=by show _=_;rw[hn];rfl
 have HB:Hid (out.length+((numB n).length+(l.flatMap jaX).length)≤far):=by
  show _≤_
  rw[HE.out,List.length_append]at hb;exact hb
 have HN:=Lib.hid hn
 clear hb hnf hn hfl
 go_enter Tryz.func96,Tryz.ntmps96
 go_wp2_with fail
 go_fit (jfS w r g out p n hw hnu (by have:=HB.out;omega))
 rintro e w1 ⟨rfl,g1,wr1,ch1⟩
 clear hw0 hnu
 go_wp2_with fail
 go_loopw [15] (fun i wr=>∃(k:Nat) (g':Option Nat),k≤n∧i=.int .i64 k∧Wr wr 141 r g' (out ++ numB n ++ (l.take k).flatMap jaX) p∧Chain r w g wr g') (fun i _=>n - (intOf i).toNat)
 case atStart=>exact⟨0,g1,by omega,rfl,by simpa using wr1,ch1⟩
 case round=>
  clear wr1 ch1
  obtain⟨k,gk,hk,rfl,wk,ck⟩:=hrel
  by_cases hlt:k<n
  ·have hll:k<l.length:=by rw[←HN.out];exact hlt
   have HS:Hid (out ++ numB n ++ (l.take (k+1)).flatMap jaX=out ++ numB n ++ (l.take k).flatMap jaX ++ jaX l[k]):=by
    show _=_
    rw[jcI jaX l k hll];simp only[List.append_assoc]
   have HBk:Hid ((out ++ numB n ++ (l.take k).flatMap jaX).length+(jaX l[k]).length≤far):=by
    show _≤_
    have h1:=jcg jaX l k hll
    have h2:=HB.out
    simp only[List.length_append];omega
   obtain⟨b,off,cap,c,h1,h2,h3,hx,h5⟩:=jaY rGPair_lawful (by decide) hl k hll
   simp only[List.cons.injEq,Value.slice.injEq,and_true]at h1
   obtain⟨rfl,-,-⟩:=h1
   have hx':=rGPair_lawful.keep hx ck.keep hw.free
   have hlt2:=Nat.lt_of_lt_of_le h3 ck.keep.size
   have hcl:=rGPair_lawful.len hx
   have hrng:∀(j:Nat) (u:Value),c[j]?=some u→wr.cell? ⟨b,off+k*3+j,none⟩=some u:=fun j u hu=>(ck.keep.cell (p:=⟨b,off+k*3+j,none⟩) h3 (hw.free b h2)).trans (h5 j u hu)
   clear h5 hl hx
   obtain⟨aKey,cKey,jbO,jbP,rfl,-⟩:=jgK hx'
   have x0:wr.cell? ⟨b,off+k*3,none⟩=some (.slice aKey l[k].fKey.length cKey):=hrng 0 _ rfl
   have x1:wr.cell? ⟨b,off+k*3+1,none⟩=some (.slice jbO l[k].fValue.length jbP):=hrng 1 _ rfl
   have x2:wr.cell? ⟨b,off+k*3+2,none⟩=some (.int .i64 l[k].fVersion):=hrng 2 _ rfl
   clear hrng
   generalize l[k]=v at *
   have wk3:=wk.box (.cells #[.slice aKey v.fKey.length cKey,.slice jbO v.fValue.length jbP,.int .i64 v.fVersion] 114)
   have hx3:=rGPair_lawful.box hx' (.cells #[.slice aKey v.fKey.length cKey,.slice jbO v.fValue.length jbP,.int .i64 v.fVersion] 114)
   clear hx' wk hw
   go_wp2_with fail
   go_fit (jpH _ r gk _ _ v _ hx3 wk3 HBk.out)
   rintro e w2 ⟨rfl,g2,wr4,ch4⟩
   have wr2:=wr4.mono (q:=p) PB.of
   have ch2:=((Chain.refl r wr gk).alloc (.cells #[.slice aKey v.fKey.length cKey,.slice jbO v.fValue.length jbP,.int .i64 v.fVersion] 114)).trans ch4
   clear wr4 ch4 hx3 wk3 x0 x1 x2
   have ck2:=ck.trans ch2
   clear ck ch2
   go_wp2
   go_roundw
   case rel=>exact⟨k+1,g2,by omega,by go_num,by rw[HS.out];exact wr2,ck2⟩
   case measure=>simp[intOf];omega
  ·obtain rfl:k=n:=by omega
   have e:l.take k=l:=List.take_of_length_le (by rw[←HN.out];omega)
   rw[e]at wk
   go_wp2_with fail
   go_end0
   exact⟨rfl,gk,by rw[HE.out,←List.append_assoc];exact wk,ck⟩
theorem joK(w:World)(r:Nat)(g:Option Nat)(out:List UInt8)(p:Nat→Prop)(x:GOwner)(cs:List Value)(hx:jbv w p cs x)(hw:Wr w 141 r g out p)(hb:out.length+(jaQ x).length≤far) :
  Calls Tryz.prog 156 #[.pointer (some ⟨r,0,none⟩),.agg cs.toArray] w (Puts 141 r p w g (out ++ jaQ x)):=by
 obtain⟨jbx,jby,rfl,h0,h1,-⟩:=jca hx
 have hw0:=hw.box (.cells #[.int .i64 x.fGroup,.slice jbx x.fFrom.length jby] 97)
 have row0:RowIs (w.alloc (.cells #[.int .i64 x.fGroup,.slice jbx x.fFrom.length jby] 97)) w.heap.size 97 [.int .i64 x.fGroup,.slice jbx x.fFrom.length jby]:=RowIs.alloc w _ _
 replace h0:=Lib.hid h0
 replace h1:=And.intro (h1.1.box (.cells #[.int .i64 x.fGroup,.slice jbx x.fFrom.length jby] 97)) h1.2
 replace h1:=Lib.hid h1
 have HL:Hid (out.length+((encI x.fGroup).length+(jas x.fFrom).length)≤far):=by
  show _≤_
  simp only[jaQ,List.length_append]at hb;omega
 have c0:Chain r (w.alloc (.cells #[.int .i64 x.fGroup,.slice jbx x.fFrom.length jby] 97)) g (w.alloc (.cells #[.int .i64 x.fGroup,.slice jbx x.fFrom.length jby] 97)) g:=Chain.refl _ _ _
 have cw:Chain r w g (w.alloc (.cells #[.int .i64 x.fGroup,.slice jbx x.fFrom.length jby] 97)) g:=(Chain.refl r w g).alloc _
 clear hb hx hw
 go_enter Tryz.func156,Tryz.ntmps156
 go_wp2_with fail
 go_fit (je6 _ r _ _ _ x.fGroup hw0 h0.out (by have:=HL.out;(try simp only[List.length_append]);omega))
 rintro e w1 ⟨rfl,g1,wr1,ch⟩
 have c1:=c0.trans ch
 clear ch
 replace c0:=c1
 clear c1
 have x1:w1.cell? ⟨w.heap.size,1,none⟩=some (.slice jbx x.fFrom.length jby):=(row0.go hw0 c0 (.inr rfl)).cell 1
 go_wp2_with fail
 go_fit (jfe _ r _ _ _ jbx _ jby x.fFrom wr1 rfl (h1.out.1.go hw0 c0) (by have:=h1.out.2.2;have:=far_len;omega) (by have:=HL.out;(try simp only[List.length_append]);omega))
 rintro e w2 ⟨rfl,g2,wr2,ch⟩
 have c2:=c0.trans ch
 clear ch
 clear wr1
 replace c0:=c2
 clear c2 x1
 go_wp2_with fail
 go_end0
 refine⟨rfl,_,?_,cw.trans c0⟩
 simp only[jaQ,←List.append_assoc]
 exact wr2.mono PB.of
theorem joN(w:World)(r:Nat)(g:Option Nat)(out:List UInt8)(p:Nat→Prop)(a0:Option Addr)(n ca:Nat)(l:List GOwner)(hl:jap jbv w p [.slice a0 n ca] l)(hw:Wr w 141 r g out p)(hb:out.length+(encL jaQ l).length≤far) :
  Calls Tryz.prog 155 #[.pointer (some ⟨r,0,none⟩),.slice a0 n ca,.func (.func 156) #[] #[]] w (Puts 141 r p w g (out ++ encL jaQ l)):=by
 obtain⟨hn,hnc,hnf⟩:=ja0 hl
 have hfl:=far_len
 unfold maxLen at hfl
 have hnm:n≤9223372036854775807:=by omega
 have hw0:IntKind.u64.wrap (n:Int)=(n:Int):=by rw[IntKind.wrap_u64];omega
 have hnu:jaw (n:Int):=by unfold jaw;omega
 have HE:Hid (encL jaQ l=numB n ++ l.flatMap jaQ):=by show _=_;rw[hn];rfl
 have HB:Hid (out.length+((numB n).length+(l.flatMap jaQ).length)≤far):=by
  show _≤_
  rw[HE.out,List.length_append]at hb;exact hb
 have HN:=Lib.hid hn
 clear hb hnf hn hfl
 go_enter Tryz.func155,Tryz.ntmps155
 go_wp2_with fail
 go_fit (jfS w r g out p n hw hnu (by have:=HB.out;omega))
 rintro e w1 ⟨rfl,g1,wr1,ch1⟩
 clear hw0 hnu
 go_wp2_with fail
 go_loopw [15] (fun i wr=>∃(k:Nat) (g':Option Nat),k≤n∧i=.int .i64 k∧Wr wr 141 r g' (out ++ numB n ++ (l.take k).flatMap jaQ) p∧Chain r w g wr g') (fun i _=>n - (intOf i).toNat)
 case atStart=>exact⟨0,g1,by omega,rfl,by simpa using wr1,ch1⟩
 case round=>
  clear wr1 ch1
  obtain⟨k,gk,hk,rfl,wk,ck⟩:=hrel
  by_cases hlt:k<n
  ·have hll:k<l.length:=by rw[←HN.out];exact hlt
   have HS:Hid (out ++ numB n ++ (l.take (k+1)).flatMap jaQ=out ++ numB n ++ (l.take k).flatMap jaQ ++ jaQ l[k]):=by
    show _=_
    rw[jcI jaQ l k hll];simp only[List.append_assoc]
   have HBk:Hid ((out ++ numB n ++ (l.take k).flatMap jaQ).length+(jaQ l[k]).length≤far):=by
    show _≤_
    have h1:=jcg jaQ l k hll
    have h2:=HB.out
    simp only[List.length_append];omega
   obtain⟨b,off,cap,c,h1,h2,h3,hx,h5⟩:=jaY rGOwner_lawful (by decide) hl k hll
   simp only[List.cons.injEq,Value.slice.injEq,and_true]at h1
   obtain⟨rfl,-,-⟩:=h1
   have hx':=rGOwner_lawful.keep hx ck.keep hw.free
   have hlt2:=Nat.lt_of_lt_of_le h3 ck.keep.size
   have hcl:=rGOwner_lawful.len hx
   have hrng:∀(j:Nat) (u:Value),c[j]?=some u→wr.cell? ⟨b,off+k*2+j,none⟩=some u:=fun j u hu=>(ck.keep.cell (p:=⟨b,off+k*2+j,none⟩) h3 (hw.free b h2)).trans (h5 j u hu)
   clear h5 hl hx
   obtain⟨jbx,jby,rfl,-⟩:=jca hx'
   have x0:wr.cell? ⟨b,off+k*2,none⟩=some (.int .i64 l[k].fGroup):=hrng 0 _ rfl
   have x1:wr.cell? ⟨b,off+k*2+1,none⟩=some (.slice jbx l[k].fFrom.length jby):=hrng 1 _ rfl
   clear hrng
   generalize l[k]=v at *
   have wk3:=wk.box (.cells #[.int .i64 v.fGroup,.slice jbx v.fFrom.length jby] 97)
   have hx3:=rGOwner_lawful.box hx' (.cells #[.int .i64 v.fGroup,.slice jbx v.fFrom.length jby] 97)
   clear hx' wk hw
   go_wp2_with fail
   go_fit (joK _ r gk _ _ v _ hx3 wk3 HBk.out)
   rintro e w2 ⟨rfl,g2,wr4,ch4⟩
   have wr2:=wr4.mono (q:=p) PB.of
   have ch2:=((Chain.refl r wr gk).alloc (.cells #[.int .i64 v.fGroup,.slice jbx v.fFrom.length jby] 97)).trans ch4
   clear wr4 ch4 hx3 wk3 x0 x1
   have ck2:=ck.trans ch2
   clear ck ch2
   go_wp2
   go_roundw
   case rel=>exact⟨k+1,g2,by omega,by go_num,by rw[HS.out];exact wr2,ck2⟩
   case measure=>simp[intOf];omega
  ·obtain rfl:k=n:=by omega
   have e:l.take k=l:=List.take_of_length_le (by rw[←HN.out];omega)
   rw[e]at wk
   go_wp2_with fail
   go_end0
   exact⟨rfl,gk,by rw[HE.out,←List.append_assoc];exact wk,ck⟩
theorem jn1(w:World)(r:Nat)(g:Option Nat)(out:List UInt8)(p:Nat→Prop)(x:GRoutes)(cs:List Value)(hx:jaz w p cs x)(hw:Wr w 141 r g out p)(hb:out.length+(jbV x).length≤far) :
  Calls Tryz.prog 99 #[.pointer (some ⟨r,0,none⟩),.agg cs.toArray] w (Puts 141 r p w g (out ++ jbV x)):=by
 obtain⟨aSpans,cSpans,aCut,cCut,rfl,h0,h1,h2,h3,h4,-⟩:=jav hx
 have hw0:=hw.box (.cells #[.int .i64 x.fEpoch,.int .i64 x.fBase,.slice aSpans x.fSpans.length cSpans,.int .i64 x.fMoving,.slice aCut x.fCut.length cCut] 53)
 have row0:RowIs (w.alloc (.cells #[.int .i64 x.fEpoch,.int .i64 x.fBase,.slice aSpans x.fSpans.length cSpans,.int .i64 x.fMoving,.slice aCut x.fCut.length cCut] 53)) w.heap.size 53 [.int .i64 x.fEpoch,.int .i64 x.fBase,.slice aSpans x.fSpans.length cSpans,.int .i64 x.fMoving,.slice aCut x.fCut.length cCut]:=RowIs.alloc w _ _
 replace h0:=Lib.hid h0
 replace h1:=Lib.hid h1
 replace h2:=(jac rGOwner_lawful).box h2 (.cells #[.int .i64 x.fEpoch,.int .i64 x.fBase,.slice aSpans x.fSpans.length cSpans,.int .i64 x.fMoving,.slice aCut x.fCut.length cCut] 53)
 replace h2:=Lib.hid h2
 replace h3:=Lib.hid h3
 replace h4:=And.intro (h4.1.box (.cells #[.int .i64 x.fEpoch,.int .i64 x.fBase,.slice aSpans x.fSpans.length cSpans,.int .i64 x.fMoving,.slice aCut x.fCut.length cCut] 53)) h4.2
 replace h4:=Lib.hid h4
 have HL:Hid (out.length+((encI x.fEpoch).length+(encI x.fBase).length+(encL jaQ x.fSpans).length+(encI x.fMoving).length+(jas x.fCut).length)≤far):=by
  show _≤_
  simp only[jbV,List.length_append]at hb;omega
 have c0:Chain r (w.alloc (.cells #[.int .i64 x.fEpoch,.int .i64 x.fBase,.slice aSpans x.fSpans.length cSpans,.int .i64 x.fMoving,.slice aCut x.fCut.length cCut] 53)) g (w.alloc (.cells #[.int .i64 x.fEpoch,.int .i64 x.fBase,.slice aSpans x.fSpans.length cSpans,.int .i64 x.fMoving,.slice aCut x.fCut.length cCut] 53)) g:=Chain.refl _ _ _
 have cw:Chain r w g (w.alloc (.cells #[.int .i64 x.fEpoch,.int .i64 x.fBase,.slice aSpans x.fSpans.length cSpans,.int .i64 x.fMoving,.slice aCut x.fCut.length cCut] 53)) g:=(Chain.refl r w g).alloc _
 clear hb hx hw
 go_enter Tryz.func99,Tryz.ntmps99
 go_wp2_with fail
 go_fit (jgB _ r _ _ _ _ 2 2 [x.fEpoch,x.fBase] (jha _ [x.fEpoch,x.fBase] (by simp only[List.forall_mem_cons,List.not_mem_nil,false_implies,implies_true,and_true];exact⟨h0.out,h1.out⟩) (by show 2≤far;decide) _ _ (.inr rfl) (w.heap.size+1) (by simp)) (hw0.box _) (by have:=HL.out;simp only[List.length_append,List.flatMap_cons,List.flatMap_nil,List.append_nil];omega))
 rintro e w1 ⟨rfl,g1,wq,ch⟩
 have wr1:=wq.mono PB.of
 simp only[List.flatMap_cons,List.flatMap_nil,List.append_nil,←List.append_assoc]at wr1
 have c1:=(c0.alloc _).trans ch
 clear wq ch
 replace c0:=c1
 clear c1
 have x2:w1.cell? ⟨w.heap.size,2,none⟩=some (.slice aSpans x.fSpans.length cSpans):=(row0.go hw0 c0 (.inr rfl)).cell 2
 go_wp2_with fail
 go_fit (joN _ r _ _ _ aSpans _ cSpans x.fSpans ((jac rGOwner_lawful).go h2.out hw0 c0) wr1 (by have:=HL.out;(try simp only[List.length_append]);omega))
 rintro e w2 ⟨rfl,g2,wr2,ch⟩
 have c2:=c0.trans ch
 clear ch
 clear wr1
 replace c0:=c2
 clear c2 x2
 have x3:w2.cell? ⟨w.heap.size,3,none⟩=some (.int .i64 x.fMoving):=(row0.go hw0 c0 (.inr rfl)).cell 3
 go_wp2_with fail
 go_fit (je6 _ r _ _ _ x.fMoving wr2 h3.out (by have:=HL.out;(try simp only[List.length_append]);omega))
 rintro e w3 ⟨rfl,g3,wr3,ch⟩
 have c3:=c0.trans ch
 clear ch
 clear wr2
 replace c0:=c3
 clear c3 x3
 have x4:w3.cell? ⟨w.heap.size,4,none⟩=some (.slice aCut x.fCut.length cCut):=(row0.go hw0 c0 (.inr rfl)).cell 4
 go_wp2_with fail
 go_fit (jfe _ r _ _ _ aCut _ cCut x.fCut wr3 rfl (h4.out.1.go hw0 c0) (by have:=h4.out.2.2;have:=far_len;omega) (by have:=HL.out;(try simp only[List.length_append]);omega))
 rintro e w4 ⟨rfl,g4,wr4,ch⟩
 have c4:=c0.trans ch
 clear ch
 clear wr3
 replace c0:=c4
 clear c4 x4
 go_wp2_with fail
 go_end0
 refine⟨rfl,_,?_,cw.trans c0⟩
 simp only[jbV,←List.append_assoc]
 exact wr4.mono PB.of
end Go.Proofs.YtibaehlfpgipfaaGreat
