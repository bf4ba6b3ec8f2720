/- THE WALKS of the reference's writer on lists and structs. Printed by gen5.py. -/
import Derived.Test.YtibaehlfpgipfaaGreatQZPut
import Derived.Test.YtibaehlfpgipfaaGreatQZG3
namespace Go.Proofs.YtibaehlfpgipfaaGreat
open Go.RowKit
set_option maxRecDepth 100000
set_option maxHeartbeats 16000000
def Made(out:List UInt8)(w:World)(e:Ending)(w':World):Prop:=∃a cap,e=.returned (.slice a out.length cap)∧w'.ownsRow w.heap.size 5 1 (.slice a out.length cap) out.length (out.map bv)∧Keep Nix w w'
theorem jov{w:World}{base base':Nat}{e sz:Nat}{v:Value}{n:Nat}{xs:List Value}(h:w.ownsRow base e sz v n xs)(hb:∀b,v.ownBlock=some b→base'≤b):w.ownsRow base' e sz v n xs:=by
 refine⟨h.1,?_⟩
 rcases h.2 with hn | ⟨g,cap,cur,rfl,hb',rest⟩
 ·exact .inl hn
 ·exact .inr ⟨g,cap,cur,rfl,hb _ rfl,rest⟩
theorem jlp{w w0 w':World}{r:Nat}{g':Option Nat}{out:List UInt8}{a:Option Addr}{cap:Nat}(hr:w.heap.size≤r)(k:Keep Nix w w0)(c:Chain r w0 none w' g')
  (own:w'.ownsRow 0 5 1 (.slice a out.length cap) out.length (out.map bv)) (hg:(Value.slice a out.length cap).ownBlock=g'):Made out w (.returned (.slice a out.length cap)) w':=
 ⟨a,cap,rfl,jov own (fun b hb=>by
   have:=c.new b (hg.symm.trans hb)
   rcases this with h | h
   ·exact absurd h (by simp)
   ·exact Nat.le_trans k.size h),k.then c.keep (fun i hi hs=>by
   rcases hs with rfl | hs
   ·omega
   ·exact absurd hs (by simp))⟩
theorem jkR(w:World)(p:Nat→Prop)(hp:∀b,p b→b<w.heap.size)(x:GCatalog)(cs:List Value)(hx:jat w p cs x)(hb:(jaq x).length≤far) :
  Calls Tryz.prog 31 #[.agg cs.toArray] w (Made (jaq x) w):=by
 obtain⟨jaU,jaW,jaI,jaJ,rfl,h0,h1,h2,h3,-⟩:=jau hx
 obtain⟨out,hout⟩:∃out:List UInt8,Hid (out=[]):=⟨[],rfl⟩
 obtain⟨g,hg⟩:∃g:Option Nat,Hid (g=none):=⟨none,rfl⟩
 have hw0:Wr ((w.alloc (.cells #[.int .i64 x.fVersion,.int .i64 x.fNext,.slice jaU x.fTables.length jaW,.slice jaI x.fIndexes.length jaJ] 50)).alloc (.cells #[.slice none 0 0] 141)) 141 (w.heap.size+1) g out (PB p w.heap.size):=by
  rw[hout.out,hg.out]
  have:=Wr.new (w.alloc (.cells #[.int .i64 x.fVersion,.int .i64 x.fNext,.slice jaU x.fTables.length jaW,.slice jaI x.fIndexes.length jaJ] 50)) 141 (PB p w.heap.size) (fun b hb=>by
   rcases hb with hb | rfl
   ·have:=hp b hb;simp;omega
   ·simp)
  simpa using this
 have row0:RowIs ((w.alloc (.cells #[.int .i64 x.fVersion,.int .i64 x.fNext,.slice jaU x.fTables.length jaW,.slice jaI x.fIndexes.length jaJ] 50)).alloc (.cells #[.slice none 0 0] 141)) w.heap.size 50 [.int .i64 x.fVersion,.int .i64 x.fNext,.slice jaU x.fTables.length jaW,.slice jaI x.fIndexes.length jaJ]:=(RowIs.alloc w _ _).keep ((Keep.refl Nix _).alloc _) id
 replace h0:=Lib.hid h0
 replace h1:=Lib.hid h1
 replace h2:=(jac rGTable_lawful).nix ((jac rGTable_lawful).box h2 (.cells #[.int .i64 x.fVersion,.int .i64 x.fNext,.slice jaU x.fTables.length jaW,.slice jaI x.fIndexes.length jaJ] 50)) ((Keep.refl Nix _).alloc (.cells #[.slice none 0 0] 141))
 replace h2:=Lib.hid h2
 replace h3:=(jac rGIndex_lawful).nix ((jac rGIndex_lawful).box h3 (.cells #[.int .i64 x.fVersion,.int .i64 x.fNext,.slice jaU x.fTables.length jaW,.slice jaI x.fIndexes.length jaJ] 50)) ((Keep.refl Nix _).alloc (.cells #[.slice none 0 0] 141))
 replace h3:=Lib.hid h3
 have HL:Hid (out.length+((encI x.fVersion).length+(encI x.fNext).length+(encL jaN x.fTables).length+(encL jaM x.fIndexes).length)≤far):=by
  show _≤_
  rw[hout.out]
  simp only[jaq,List.length_append]at hb;simp only[List.length_nil];omega
 have c0:Chain (w.heap.size+1) ((w.alloc (.cells #[.int .i64 x.fVersion,.int .i64 x.fNext,.slice jaU x.fTables.length jaW,.slice jaI x.fIndexes.length jaJ] 50)).alloc (.cells #[.slice none 0 0] 141)) g ((w.alloc (.cells #[.int .i64 x.fVersion,.int .i64 x.fNext,.slice jaU x.fTables.length jaW,.slice jaI x.fIndexes.length jaJ] 50)).alloc (.cells #[.slice none 0 0] 141)) g:=Chain.refl _ _ _
 have hx0:=hx
 have hx2:=rGCatalog_lawful.nix (rGCatalog_lawful.box hx0 (.cells #[.int .i64 x.fVersion,.int .i64 x.fNext,.slice jaU x.fTables.length jaW,.slice jaI x.fIndexes.length jaJ] 50)) ((Keep.refl Nix _).alloc (.cells #[.slice none 0 0] 141))
 clear hb hx hx0
 go_enter Tryz.func31,Tryz.ntmps31
 go_wp2_with fail
 go_fit (jhT _ (w.heap.size+1) _ _ _ x _ hx2 hw0 (by have:=HL.out;simp only[jaq,List.length_append];omega))
 rintro e w1 ⟨rfl,g1,wr1,ch⟩
 have c1:=c0.trans ch
 clear ch c0 hx2
 have c0:=c1
 clear c1
 have HE:Hid (jaq x=out ++ jaq x):=by show _=_;rw[hout.out];(try simp only[jaq,List.nil_append,List.append_assoc])
 generalize out ++ jaq x=O at HE wr1
 obtain⟨aw,capw,hcw,hfw,ownw,hgw,-⟩:=wr1.cell
 clear wr1 row0 hw0 HL
 go_wp2_with fail
 go_ret
 rw[HE.out]
 rw[hg.out]at c0
 exact jlp (by omega) (((Keep.refl Nix w).alloc _).alloc _) c0 ownw hgw
theorem jn2(w:World)(p:Nat→Prop)(hp:∀b,p b→b<w.heap.size)(x:GReply)(cs:List Value)(hx:jc4 w p cs x)(hb:(ja5 x).length≤far) :
  Calls Tryz.prog 56 #[.agg cs.toArray] w (Made (ja5 x) w):=by
 obtain⟨jbz,jb0,jcj,jck,ja6,ja7,ja2,ja3,jaC,jaD,jaT,jaV,rfl,h0,h1,h2,h4,h5,h6,h7,-⟩:=jee hx
 obtain⟨out,hout⟩:∃out:List UInt8,Hid (out=[]):=⟨[],rfl⟩
 obtain⟨g,hg⟩:∃g:Option Nat,Hid (g=none):=⟨none,rfl⟩
 have hw0:Wr ((w.alloc (.cells #[.int .i64 x.fErr,.int .u64 x.fTxn,.int .i64 x.fN,.bool x.fFlag,.slice jbz x.fPairs.length jb0,.slice jcj x.fTxns.length jck,.int .i64 x.fCatalog.fVersion,.int .i64 x.fCatalog.fNext,.slice ja6 x.fCatalog.fTables.length ja7,.slice ja2 x.fCatalog.fIndexes.length ja3,.int .i64 x.fRoutes.fEpoch,.int .i64 x.fRoutes.fBase,.slice jaC x.fRoutes.fSpans.length jaD,.int .i64 x.fRoutes.fMoving,.slice jaT x.fRoutes.fCut.length jaV] 55)).alloc (.cells #[.slice none 0 0] 141)) 141 (w.heap.size+1) g out (PB p w.heap.size):=by
  rw[hout.out,hg.out]
  have:=Wr.new (w.alloc (.cells #[.int .i64 x.fErr,.int .u64 x.fTxn,.int .i64 x.fN,.bool x.fFlag,.slice jbz x.fPairs.length jb0,.slice jcj x.fTxns.length jck,.int .i64 x.fCatalog.fVersion,.int .i64 x.fCatalog.fNext,.slice ja6 x.fCatalog.fTables.length ja7,.slice ja2 x.fCatalog.fIndexes.length ja3,.int .i64 x.fRoutes.fEpoch,.int .i64 x.fRoutes.fBase,.slice jaC x.fRoutes.fSpans.length jaD,.int .i64 x.fRoutes.fMoving,.slice jaT x.fRoutes.fCut.length jaV] 55)) 141 (PB p w.heap.size) (fun b hb=>by
   rcases hb with hb | rfl
   ·have:=hp b hb;simp;omega
   ·simp)
  simpa using this
 have row0:RowIs ((w.alloc (.cells #[.int .i64 x.fErr,.int .u64 x.fTxn,.int .i64 x.fN,.bool x.fFlag,.slice jbz x.fPairs.length jb0,.slice jcj x.fTxns.length jck,.int .i64 x.fCatalog.fVersion,.int .i64 x.fCatalog.fNext,.slice ja6 x.fCatalog.fTables.length ja7,.slice ja2 x.fCatalog.fIndexes.length ja3,.int .i64 x.fRoutes.fEpoch,.int .i64 x.fRoutes.fBase,.slice jaC x.fRoutes.fSpans.length jaD,.int .i64 x.fRoutes.fMoving,.slice jaT x.fRoutes.fCut.length jaV] 55)).alloc (.cells #[.slice none 0 0] 141)) w.heap.size 55 [.int .i64 x.fErr,.int .u64 x.fTxn,.int .i64 x.fN,.bool x.fFlag,.slice jbz x.fPairs.length jb0,.slice jcj x.fTxns.length jck,.int .i64 x.fCatalog.fVersion,.int .i64 x.fCatalog.fNext,.slice ja6 x.fCatalog.fTables.length ja7,.slice ja2 x.fCatalog.fIndexes.length ja3,.int .i64 x.fRoutes.fEpoch,.int .i64 x.fRoutes.fBase,.slice jaC x.fRoutes.fSpans.length jaD,.int .i64 x.fRoutes.fMoving,.slice jaT x.fRoutes.fCut.length jaV]:=(RowIs.alloc w _ _).keep ((Keep.refl Nix _).alloc _) id
 have hiErr:IntKind.i64.wrap x.fErr=x.fErr:=by rw[IntKind.wrap_i64];have:=h0;unfold jae at this;omega
 replace h0:=Lib.hid h0
 replace h1:=Lib.hid h1
 replace h2:=Lib.hid h2
 replace h4:=(jac rGPair_lawful).nix ((jac rGPair_lawful).box h4 (.cells #[.int .i64 x.fErr,.int .u64 x.fTxn,.int .i64 x.fN,.bool x.fFlag,.slice jbz x.fPairs.length jb0,.slice jcj x.fTxns.length jck,.int .i64 x.fCatalog.fVersion,.int .i64 x.fCatalog.fNext,.slice ja6 x.fCatalog.fTables.length ja7,.slice ja2 x.fCatalog.fIndexes.length ja3,.int .i64 x.fRoutes.fEpoch,.int .i64 x.fRoutes.fBase,.slice jaC x.fRoutes.fSpans.length jaD,.int .i64 x.fRoutes.fMoving,.slice jaT x.fRoutes.fCut.length jaV] 55)) ((Keep.refl Nix _).alloc (.cells #[.slice none 0 0] 141))
 replace h4:=Lib.hid h4
 replace h5:=(jac (jab _)).nix ((jac (jab _)).box h5 (.cells #[.int .i64 x.fErr,.int .u64 x.fTxn,.int .i64 x.fN,.bool x.fFlag,.slice jbz x.fPairs.length jb0,.slice jcj x.fTxns.length jck,.int .i64 x.fCatalog.fVersion,.int .i64 x.fCatalog.fNext,.slice ja6 x.fCatalog.fTables.length ja7,.slice ja2 x.fCatalog.fIndexes.length ja3,.int .i64 x.fRoutes.fEpoch,.int .i64 x.fRoutes.fBase,.slice jaC x.fRoutes.fSpans.length jaD,.int .i64 x.fRoutes.fMoving,.slice jaT x.fRoutes.fCut.length jaV] 55)) ((Keep.refl Nix _).alloc (.cells #[.slice none 0 0] 141))
 replace h5:=Lib.hid h5
 replace h6:=rGCatalog_lawful.nix (rGCatalog_lawful.box h6 (.cells #[.int .i64 x.fErr,.int .u64 x.fTxn,.int .i64 x.fN,.bool x.fFlag,.slice jbz x.fPairs.length jb0,.slice jcj x.fTxns.length jck,.int .i64 x.fCatalog.fVersion,.int .i64 x.fCatalog.fNext,.slice ja6 x.fCatalog.fTables.length ja7,.slice ja2 x.fCatalog.fIndexes.length ja3,.int .i64 x.fRoutes.fEpoch,.int .i64 x.fRoutes.fBase,.slice jaC x.fRoutes.fSpans.length jaD,.int .i64 x.fRoutes.fMoving,.slice jaT x.fRoutes.fCut.length jaV] 55)) ((Keep.refl Nix _).alloc (.cells #[.slice none 0 0] 141))
 replace h6:=Lib.hid h6
 replace h7:=rGRoutes_lawful.nix (rGRoutes_lawful.box h7 (.cells #[.int .i64 x.fErr,.int .u64 x.fTxn,.int .i64 x.fN,.bool x.fFlag,.slice jbz x.fPairs.length jb0,.slice jcj x.fTxns.length jck,.int .i64 x.fCatalog.fVersion,.int .i64 x.fCatalog.fNext,.slice ja6 x.fCatalog.fTables.length ja7,.slice ja2 x.fCatalog.fIndexes.length ja3,.int .i64 x.fRoutes.fEpoch,.int .i64 x.fRoutes.fBase,.slice jaC x.fRoutes.fSpans.length jaD,.int .i64 x.fRoutes.fMoving,.slice jaT x.fRoutes.fCut.length jaV] 55)) ((Keep.refl Nix _).alloc (.cells #[.slice none 0 0] 141))
 replace h7:=Lib.hid h7
 have HL:Hid (out.length+((encI x.fErr).length+(encU x.fTxn).length+(encI x.fN).length+(encF x.fFlag).length+(encL jaX x.fPairs).length+(encL encU x.fTxns).length+(jaq x.fCatalog).length+(jbV x.fRoutes).length)≤far):=by
  show _≤_
  rw[hout.out]
  simp only[ja5,List.length_append]at hb;simp only[List.length_nil];omega
 have c0:Chain (w.heap.size+1) ((w.alloc (.cells #[.int .i64 x.fErr,.int .u64 x.fTxn,.int .i64 x.fN,.bool x.fFlag,.slice jbz x.fPairs.length jb0,.slice jcj x.fTxns.length jck,.int .i64 x.fCatalog.fVersion,.int .i64 x.fCatalog.fNext,.slice ja6 x.fCatalog.fTables.length ja7,.slice ja2 x.fCatalog.fIndexes.length ja3,.int .i64 x.fRoutes.fEpoch,.int .i64 x.fRoutes.fBase,.slice jaC x.fRoutes.fSpans.length jaD,.int .i64 x.fRoutes.fMoving,.slice jaT x.fRoutes.fCut.length jaV] 55)).alloc (.cells #[.slice none 0 0] 141)) g ((w.alloc (.cells #[.int .i64 x.fErr,.int .u64 x.fTxn,.int .i64 x.fN,.bool x.fFlag,.slice jbz x.fPairs.length jb0,.slice jcj x.fTxns.length jck,.int .i64 x.fCatalog.fVersion,.int .i64 x.fCatalog.fNext,.slice ja6 x.fCatalog.fTables.length ja7,.slice ja2 x.fCatalog.fIndexes.length ja3,.int .i64 x.fRoutes.fEpoch,.int .i64 x.fRoutes.fBase,.slice jaC x.fRoutes.fSpans.length jaD,.int .i64 x.fRoutes.fMoving,.slice jaT x.fRoutes.fCut.length jaV] 55)).alloc (.cells #[.slice none 0 0] 141)) g:=Chain.refl _ _ _
 clear hb hx
 go_enter Tryz.func56,Tryz.ntmps56
 go_wp2_with fail
 go_fit (je6 _ (w.heap.size+1) _ _ _ x.fErr hw0 h0.out (by have:=HL.out;(try simp only[List.length_append]);omega))
 rintro e w1 ⟨rfl,g1,wr1,ch⟩
 have c1:=c0.trans ch
 clear ch
 replace c0:=c1
 clear c1
 have x1:w1.cell? ⟨w.heap.size,1,none⟩=some (.int .u64 x.fTxn):=(row0.go hw0 c0 (.inr rfl)).cell 1
 go_wp2_with fail
 go_fit (wnum_e _ (w.heap.size+1) _ _ _ x.fTxn wr1 h1.out (by have:=HL.out;(try simp only[List.length_append]);omega))
 rintro e w2 ⟨rfl,g2,wr2,ch⟩
 have c2:=c0.trans ch
 clear ch
 clear wr1
 replace c0:=c2
 clear c2 x1
 have x2:w2.cell? ⟨w.heap.size,2,none⟩=some (.int .i64 x.fN):=(row0.go hw0 c0 (.inr rfl)).cell 2
 go_wp2_with fail
 go_fit (je6 _ (w.heap.size+1) _ _ _ x.fN wr2 h2.out (by have:=HL.out;(try simp only[List.length_append]);omega))
 rintro e w3 ⟨rfl,g3,wr3,ch⟩
 have c3:=c0.trans ch
 clear ch
 clear wr2
 replace c0:=c3
 clear c3 x2
 have x3:w3.cell? ⟨w.heap.size,3,none⟩=some (.bool x.fFlag):=(row0.go hw0 c0 (.inr rfl)).cell 3
 go_wp2_with fail
 go_fit (jgA _ (w.heap.size+1) _ _ _ x.fFlag wr3 (by have:=HL.out;(try simp only[List.length_append]);omega))
 rintro e w4 ⟨rfl,g4,wr4,ch⟩
 have c4:=c0.trans ch
 clear ch
 clear wr3
 replace c0:=c4
 clear c4 x3
 have x4:w4.cell? ⟨w.heap.size,4,none⟩=some (.slice jbz x.fPairs.length jb0):=(row0.go hw0 c0 (.inr rfl)).cell 4
 go_wp2_with fail
 go_fit (jpI _ (w.heap.size+1) _ _ _ jbz _ jb0 x.fPairs ((jac rGPair_lawful).go h4.out hw0 c0) wr4 (by have:=HL.out;(try simp only[List.length_append]);omega))
 rintro e w5 ⟨rfl,g5,wr5,ch⟩
 have c5:=c0.trans ch
 clear ch
 clear wr4
 replace c0:=c5
 clear c5 x4
 have x5:w5.cell? ⟨w.heap.size,5,none⟩=some (.slice jcj x.fTxns.length jck):=(row0.go hw0 c0 (.inr rfl)).cell 5
 go_wp2_with fail
 go_fit (wl_num _ (w.heap.size+1) _ _ _ jcj _ jck x.fTxns ((jac (jab _)).go h5.out hw0 c0) wr5 (by have:=HL.out;(try simp only[List.length_append]);omega))
 rintro e w6 ⟨rfl,g6,wr6,ch⟩
 have c6:=c0.trans ch
 clear ch
 clear wr5
 replace c0:=c6
 clear c6 x5
 have x6:w6.cell? ⟨w.heap.size,6,none⟩=some (.int .i64 x.fCatalog.fVersion):=(row0.go hw0 c0 (.inr rfl)).cell 6
 have x7:w6.cell? ⟨w.heap.size,7,none⟩=some (.int .i64 x.fCatalog.fNext):=(row0.go hw0 c0 (.inr rfl)).cell 7
 have x8:w6.cell? ⟨w.heap.size,8,none⟩=some (.slice ja6 x.fCatalog.fTables.length ja7):=(row0.go hw0 c0 (.inr rfl)).cell 8
 have x9:w6.cell? ⟨w.heap.size,9,none⟩=some (.slice ja2 x.fCatalog.fIndexes.length ja3):=(row0.go hw0 c0 (.inr rfl)).cell 9
 go_wp2_with fail
 go_fit (jhT _ (w.heap.size+1) _ _ _ x.fCatalog _ (rGCatalog_lawful.go h6.out hw0 c0) wr6 (by have:=HL.out;(try simp only[List.length_append]);omega))
 rintro e w7 ⟨rfl,g7,wr7,ch⟩
 have c7:=c0.trans ch
 clear ch
 clear wr6
 replace c0:=c7
 clear c7 x6 x7 x8 x9
 have x10:w7.cell? ⟨w.heap.size,10,none⟩=some (.int .i64 x.fRoutes.fEpoch):=(row0.go hw0 c0 (.inr rfl)).cell 10
 have x11:w7.cell? ⟨w.heap.size,11,none⟩=some (.int .i64 x.fRoutes.fBase):=(row0.go hw0 c0 (.inr rfl)).cell 11
 have x12:w7.cell? ⟨w.heap.size,12,none⟩=some (.slice jaC x.fRoutes.fSpans.length jaD):=(row0.go hw0 c0 (.inr rfl)).cell 12
 have x13:w7.cell? ⟨w.heap.size,13,none⟩=some (.int .i64 x.fRoutes.fMoving):=(row0.go hw0 c0 (.inr rfl)).cell 13
 have x14:w7.cell? ⟨w.heap.size,14,none⟩=some (.slice jaT x.fRoutes.fCut.length jaV):=(row0.go hw0 c0 (.inr rfl)).cell 14
 go_wp2_with fail
 go_fit (jn1 _ (w.heap.size+1) _ _ _ x.fRoutes _ (rGRoutes_lawful.go h7.out hw0 c0) wr7 (by have:=HL.out;(try simp only[List.length_append]);omega))
 rintro e w8 ⟨rfl,g8,wr8,ch⟩
 have c8:=c0.trans ch
 clear ch
 clear wr7
 replace c0:=c8
 clear c8 x10 x11 x12 x13 x14
 have HE:Hid (ja5 x=out ++ encI x.fErr ++ encU x.fTxn ++ encI x.fN ++ encF x.fFlag ++ encL jaX x.fPairs ++ encL encU x.fTxns ++ jaq x.fCatalog ++ jbV x.fRoutes):=by show _=_;rw[hout.out];(try simp only[ja5,List.nil_append,List.append_assoc])
 generalize out ++ encI x.fErr ++ encU x.fTxn ++ encI x.fN ++ encF x.fFlag ++ encL jaX x.fPairs ++ encL encU x.fTxns ++ jaq x.fCatalog ++ jbV x.fRoutes=O at HE wr8
 obtain⟨aw,capw,hcw,hfw,ownw,hgw,-⟩:=wr8.cell
 clear wr8 row0 hw0 HL
 go_wp2_with fail
 go_ret
 rw[HE.out]
 rw[hg.out]at c0
 exact jlp (by omega) (((Keep.refl Nix w).alloc _).alloc _) c0 ownw hgw
def jbh:Nat→Nat→Nat→List UInt8→Nat×Nat×Int
  | 0,_,_,_=>(0,0,9)
  | _+1,_,_,[]=>(0,0,8)
  | f+1,i,v,c :: l=>
    if i=9∧1<c.toNat then(0,0,9)
    else if c.toNat<128 then(if c.toNat=0∧0<i then(0,0,9) else(v+c.toNat % 128*2 ^ (7*i),i+1,0))
    else jbh f (i+1) (v+c.toNat % 128*2 ^ (7*i)) l
def jaE(l:List UInt8):Nat×Nat×Int:=jbh 10 0 0 l
structure RdS where
  B:List UInt8
  pos:Nat
  e:Int
  rest:List Value
def numS(most:Nat)(s:RdS):Nat×RdS:=
  if s.e≠0 then(0,s)
  else if(jaE (s.B.drop s.pos)).2.2≠0 then(0,{s with e:=(jaE (s.B.drop s.pos)).2.2})
  else if most<(jaE (s.B.drop s.pos)).1 then(0,{s with e:=9})
  else((jaE (s.B.drop s.pos)).1,{s with pos:=s.pos+(jaE (s.B.drop s.pos)).2.1})
def ja4(most:Nat)(s:RdS):List UInt8×RdS:=
  if s.e≠0 then([],s)
  else if(numS most s).2.e≠0 then([],(numS most s).2)
  else if s.B.length - (numS most s).2.pos<(numS most s).1 then([],{s with e:=8})
  else((s.B.drop (numS most s).2.pos).take (numS most s).1,{s with pos:=(numS most s).2.pos+(numS most s).1})
def Under(k v:Nat):Prop:=v<2 ^ (7*k)
theorem jh3:∀(f i v:Nat) (l:List UInt8),f+i=10→Under i v→
    ((jbh f i v l).2.2=0∧(jbh f i v l).1<2 ^ 64∧i<(jbh f i v l).2.1∧(jbh f i v l).2.1≤i+l.length∧(jbh f i v l).2.1≤10)∨
    (((jbh f i v l).2.2=8∨(jbh f i v l).2.2=9)∧(jbh f i v l).1=0∧(jbh f i v l).2.1=0)
  | 0,i,v,l,_,_=>.inr ⟨.inr rfl,rfl,rfl⟩
  | f+1,i,v,[],_,_=>.inr ⟨.inl rfl,rfl,rfl⟩
  | f+1,i,v,c :: l,hf,hv=>by
    unfold jbh
    by_cases h1:i=9∧1<c.toNat
    · rw[if_pos h1];exact .inr ⟨.inr rfl,rfl,rfl⟩
    rw[if_neg h1]
    have hp:2 ^ (7*(i+1))=2 ^ (7*i)*128:=by rw[Nat.mul_succ,Nat.pow_add]
    have hm:c.toNat % 128*2 ^ (7*i)≤127*2 ^ (7*i):=Nat.mul_le_mul_right _ (by omega)
    have hu:Under (i+1) (v+c.toNat % 128*2 ^ (7*i)):=by unfold Under at *;rw[hp];omega
    by_cases h2:c.toNat<128
    · rw[if_pos h2]
      by_cases h3:c.toNat=0∧0<i
      · rw[if_pos h3];exact .inr ⟨.inr rfl,rfl,rfl⟩
      · rw[if_neg h3]
        refine .inl ⟨rfl,?_,by simp,by simp,by simp;omega⟩
        by_cases h9:i=9
        · subst h9
          have:c.toNat % 128≤1:=by omega
          have:c.toNat % 128*2 ^ 63≤1*2 ^ 63:=Nat.mul_le_mul_right _ this
          unfold Under at hv;simp at *;omega
        · unfold Under at hu
          exact Nat.lt_of_lt_of_le hu (Nat.pow_le_pow_right (by decide) (by omega))
    · rw[if_neg h2]
      rcases jh3 f (i+1) _ l (by omega) hu with⟨a,b,c1,d,e⟩ | h
      · exact .inl ⟨a,b,by omega,by simp only[List.length_cons];omega,e⟩
      · exact .inr h
theorem jh2(l:List UInt8):((jaE l).2.2=0∧(jaE l).1<2 ^ 64∧0<(jaE l).2.1∧(jaE l).2.1≤l.length∧(jaE l).2.1≤10)∨(((jaE l).2.2=8∨(jaE l).2.2=9)∧(jaE l).1=0∧(jaE l).2.1=0):=by
  have:=jh3 10 0 0 l rfl (by simp[Under])
  simpa [jaE] using this
/-! ### bits -/
theorem and127(c:UInt8):bits BinOp.and IntKind.u8 (c.toNat:Int) 127=((c.toNat % 128:Nat):Int):=by
  have hlt:c.toNat<256:=c.toNat_lt
  generalize c.toNat=m at hlt
  revert m
  decide +kernel
theorem jos{k v x:Nat}(hk:k≤9)(hv:Under k v)(hx:x<128)(h9:k=9→x≤1):bits BinOp.or IntKind.u64 (v:Int) (IntKind.u64.wrap ((x:Int)*2 ^ (7*k)))=((v+x*2 ^ (7*k):Nat):Int):=by
  have hp:2 ^ (7*(k+1))=2 ^ (7*k)*128:=by rw[Nat.mul_succ,Nat.pow_add]
  have hm:x*2 ^ (7*k)≤127*2 ^ (7*k):=Nat.mul_le_mul_right _ (by omega)
  have hs:v+x*2 ^ (7*k)<2 ^ 64:=by
    by_cases h:k=9
    · subst h
      have:x*2 ^ 63≤1*2 ^ 63:=Nat.mul_le_mul_right _ (h9 rfl)
      unfold Under at hv;simp at *;omega
    · have:v+x*2 ^ (7*k)<2 ^ (7*(k+1)):=by unfold Under at hv;omega
      exact Nat.lt_of_lt_of_le this (Nat.pow_le_pow_right (by decide) (by omega))
  have e1:IntKind.u64.wrap ((x:Int)*2 ^ (7*k))=((x*2 ^ (7*k):Nat):Int):=by
    rw[IntKind.wrap_u64]
    have:((x:Int)*2 ^ (7*k))=((x*2 ^ (7*k):Nat):Int):=by push_cast;rfl
    rw[this];omega
  rw[e1]
  show IntKind.u64.wrap (((BitVec.ofInt 64 (v:Int) ||| BitVec.ofInt 64 ((x*2 ^ (7*k):Nat):Int):BitVec 64).toNat:Nat):Int)=_
  rw[IntKind.wrap_u64,BitVec.toNat_or,BitVec.ofInt_natCast,BitVec.ofInt_natCast,BitVec.toNat_ofNat,BitVec.toNat_ofNat,Nat.mod_eq_of_lt (by omega),Nat.mod_eq_of_lt (by omega)]
  have e2:v ||| x*2 ^ (7*k)=v+x*2 ^ (7*k):=by
    rw[Nat.or_comm,Nat.mul_comm x,←Nat.two_pow_add_eq_or_of_lt hv];omega
  rw[e2];omega
/-! ### a reader in memory: bytes, place, fault -/
def RdAt(w:World)(T r:Nat)(a:Option Addr)(cap:Nat)(s:RdS):Prop:=RowIs w r T (.slice a s.B.length cap :: .int .i64 s.pos :: .int .i64 s.e :: s.rest)
structure IsRd(w:World)(T r:Nat)(p:Nat→Prop)(s:RdS):Prop where
  row:∃a cap,RdAt w T r a cap s∧Lies w p a (s.B.map bv)∧s.B.length≤cap∧s.B.length≤140737488355328
  apart:¬p r
  place:s.pos≤s.B.length
theorem IsRd.keep{S:Nat→Prop}{w w':World}{T r:Nat}{p:Nat→Prop}{s:RdS}(h:IsRd w T r p s)(k:Keep S w w')(hr:¬S r)(hp:∀b,p b→¬S b):IsRd w' T r p s:=by
  obtain⟨⟨a,cap,h1,h2,h3⟩,h4,h5⟩:=h
  exact⟨⟨a,cap,RowIs.keep h1 k hr,h2.keep k hp,h3⟩,h4,h5⟩
theorem IsRd.same{w w':World}{T r:Nat}{p:Nat→Prop}{s:RdS}(h:IsRd w T r p s)(hh:w'.heap=w.heap:=by rfl):IsRd w' T r p s:=by
  obtain⟨⟨a,cap,h1,h2,h3⟩,h4,h5⟩:=h
  exact⟨⟨a,cap,RowIs.same h1 hh,h2.same hh,h3⟩,h4,h5⟩
theorem jpl(l:List UInt8)(k:Nat)(h:k<l.length):l.drop k=l[k] :: l.drop (k+1):=by rw[List.drop_eq_getElem_cons h]
def jlI(pos:Nat)(L:Nat×Nat×Int):Value:=.tuple #[.int .u64 L.1,.int .i64 (if L.2.2=0 then((pos+L.2.1:Nat):Int) else 0),.int .i64 L.2.2]
theorem jk6(k v:Nat)(hk:k≤9):jbh (10 - k) k v []=(0,0,8):=by rw[show 10 - k=(9 - k)+1 by omega];rfl
theorem jk5(v:Nat)(c:UInt8)(l:List UInt8)(h:1<c.toNat):jbh (10 - 9) 9 v (c :: l)=(0,0,9):=by simp[jbh,h]
theorem jlH(k v:Nat)(c:UInt8)(l:List UInt8)(hk:k≤9)(h0:c.toNat=0)(h1:0<k):jbh (10 - k) k v (c :: l)=(0,0,9):=by
  rw[show 10 - k=(9 - k)+1 by omega];unfold jbh
  rw[if_neg (by omega),if_pos (by omega),if_pos ⟨h0,h1⟩]
theorem jmK(k v:Nat)(c:UInt8)(l:List UInt8)(hk:k≤9)(h9:¬(k=9∧1<c.toNat))(h1:c.toNat<128)(h0:¬(c.toNat=0∧0<k)):jbh (10 - k) k v (c :: l)=(v+c.toNat % 128*2 ^ (7*k),k+1,0):=by
  rw[show 10 - k=(9 - k)+1 by omega];unfold jbh
  rw[if_neg h9,if_pos h1,if_neg h0]
theorem joj(k v:Nat)(c:UInt8)(l:List UInt8)(hk:k≤9)(h9:¬(k=9∧1<c.toNat))(h1:¬c.toNat<128):jbh (10 - k) k v (c :: l)=jbh (10 - (k+1)) (k+1) (v+c.toNat % 128*2 ^ (7*k)) l:=by
  rw[show 10 - k=(10 - (k+1))+1 by omega]
  conv=>lhs;unfold jbh
  rw[if_neg h9,if_neg h1]
theorem Under.next{k v x:Nat}(h:Under k v)(hx:x<128):Under (k+1) (v+x*2 ^ (7*k)):=by
  have hp:2 ^ (7*(k+1))=2 ^ (7*k)*128:=by rw[Nat.mul_succ,Nat.pow_add]
  have hm:x*2 ^ (7*k)≤127*2 ^ (7*k):=Nat.mul_le_mul_right _ (by omega)
  unfold Under at *;rw[hp];omega
theorem look_c(r:Nat)(p:Nat→Prop)(s:RdS)(w:World)(h:IsRd w 151 r p s) :
    Calls Tryz.prog 129 #[.pointer (some ⟨r,0,none⟩)] w fun e w'=>
      e=.returned (jlI s.pos (jaE (s.B.drop s.pos)))∧Keep Nix w w':=by
  obtain⟨⟨a,cap,row,lies,hc,hcm⟩,ap,hp⟩:=h
  obtain⟨B,pos,e⟩:=s
  simp only at lies hc hcm hp ⊢
  have c0:=RowIs.cell row 0
  have c1:=RowIs.cell row 1
  simp only[List.getElem?_cons_zero,List.getElem?_cons_succ]at c0 c1
  generalize hL:jaE (B.drop pos)=L
  have HL:=Lib.hid hL
  clear hL
  have hrlt:r<w.heap.size:=RowIs.lt row
  clear row
  generalize hn:B.length=n at *
  have HN:=Lib.hid hn
  clear hn
  go_enter Tryz.func129,Tryz.ntmps129
  go_wp2
  go_loopw [5,8] (fun v i wr=>∃k v':Nat,k≤9∧i=.int .i64 k∧v=.int .u64 v'∧Under k v'∧pos+k≤n∧Hid (L=jbh (10 - k) k v' (B.drop (pos+k)))∧Keep Nix w wr) (fun _ i _=>10 - (intOf i).toNat)
  case atStart=>exact⟨0,0,by omega,rfl,rfl,by simp[Under],hp,HL.out.symm,Keep.refl _ _⟩
  case round=>
    obtain⟨k,v',hk,rfl,rfl,hu,hpk,hl,kk⟩:=hrel
    have d0:=(kk.cell (p:=⟨r,0,none⟩) hrlt id).trans c0
    have d1:=(kk.cell (p:=⟨r,1,none⟩) hrlt id).trans c1
    by_cases hlt:pos+k<n
    · have hltB:pos+k<B.length:=by rw[HN.out];exact hlt
      obtain⟨ba,oa,rfl,-,hba,hca⟩:=lies (by intro e;rw[List.map_eq_nil_iff]at e;subst e;simp at hltB)
      have dc:=(kk.cell (p:=⟨ba,oa+(pos+k),none⟩) hba id).trans (hca (pos+k) _ (bv_at B (pos+k) hltB))
      have hdr:=jpl B (pos+k) hltB
      have hcl:=(B[pos+k]).toNat_lt
      generalize B[pos+k]=c at dc hdr hcl
      have h127:=and127 c
      have hl':Hid (L=jbh (10 - k) k v' (c :: B.drop (pos+k+1))):=by have:=hl.out;rw[hdr]at this;exact this
      clear hdr hl hca lies hltB
      generalize hx:c.toNat=x at dc hcl h127
      by_cases h9:k=9∧1<x
      · obtain⟨rfl,h1⟩:=h9
        go_wp2_with fail
        go_quiet (fail)
        go_wp2_with fail
        go_quiet (fail)
        go_wp2_with fail
        go_ret3
        refine⟨?_,kk.same⟩
        rw[show L=(0,0,9)by rw[hl'.out];exact jk5 v' c _ (by rw[hx];exact h1)]
        rfl
      · have hor:Hid (bits BinOp.or IntKind.u64 (v':Int) (IntKind.u64.wrap ((x:Int) % 128*2 ^ (7*k)))=((v'+x % 128*2 ^ (7*k):Nat):Int)):=by
          have:=jos (x:=x % 128) hk hu (by omega) (fun h=>by omega)
          rwa [Int.natCast_emod]at this
        have hnext:=Under.next (x:=x % 128) hu (by omega)
        by_cases h128:x<128
        · by_cases h0:x=0∧0<k
          · have hL:Hid (L=(0,0,9)):=by rw[hl'.out];exact jlH k v' c _ hk (by rw[hx];exact h0.1) h0.2
            have t0:((x:Int) == 0)=true:=by simp[h0.1]
            have hk0:=h0.2
            clear hl' HL hx h0
            rcases jbH k 9 with⟨t9,k9⟩ | ⟨t9,k9⟩
            case' inl=>have x1:¬1<x:=fun h=>h9 ⟨by have:=k9.out;omega,h⟩
            all_goals
              clear h9
              go_wp2_with fail
              go_quiet (fail)
              go_wp2_with fail
              go_quiet (fail)
              go_wp2_with fail
              go_ret3
              exact⟨by rw[hL.out];rfl,kk.same⟩
          · have hL:Hid (L=(v'+x % 128*2 ^ (7*k),k+1,0)):=by rw[hl'.out,jmK k v' c _ hk (by rw[hx];exact h9) (by rw[hx];exact h128) (by rw[hx];exact h0),hx];rfl
            clear hl' HL hx
            have hk0:((x:Int) == 0)=true→¬0<k:=fun h1 h2=>h0 ⟨by simpa using h1,h2⟩
            have x1 : ((k : Int) == 9) = true → ¬ 1 < x := fun h1 h2 => h9 ⟨by have : (k : Int) = 9 := by simpa using h1
                                                                               omega,h2⟩
            clear h0 h9
            rcases jbH x 0 with⟨t0,-⟩ | ⟨t0,-⟩
            case' inl=>have k0:=hk0 t0
            all_goals rcases jbH k 9 with⟨t9,-⟩ | ⟨t9,-⟩
            case' inl.inl | inr.inl=>have x1':=x1 t9
            all_goals
              clear x1 hk0
              go_wp2_with fail
              go_quiet (fail)
              go_wp2_with fail
              go_quiet (fail)
              go_wp2_with fail
              go_quiet (fail)
              go_wp2_with fail
              go_ret3
              refine⟨?_,kk.same⟩
              rw[hL.out,jlI,←hor.out]
              first | rfl | (simp;omega)
        · have hL:=hl'.out
          rw[joj k v' c _ hk (by rw[hx];exact h9) (by rw[hx];exact h128),hx]at hL
          have HL2:=Lib.hid hL
          clear hL hl' HL
          have hk9:k≠9:=fun h=>h9 ⟨h,by omega⟩
          clear h9
          · go_wp2_with fail
            go_quiet (fail)
            go_wp2_with fail
            go_quiet (fail)
            go_wp2_with fail
            go_roundw
            case rel=>exact⟨k+1,v'+x % 128*2 ^ (7*k),by omega,by go_num,by rw[←hor.out],hnext,by omega,HL2,kk.same⟩
            case measure=>simp[intOf];omega
    · go_wp2_with fail
      go_quiet (fail)
      go_wp2_with fail
      go_ret3
      have e:B.drop (pos+k)=[]:=List.drop_eq_nil_of_le (by rw[HN.out];omega)
      refine⟨?_,kk.drewN _⟩
      rw[show L=(0,0,8)by rw[hl.out,e,jk6 k v' hk]]
      rfl
theorem IsRd.cells{w:World}{T r:Nat}{p:Nat→Prop}{s:RdS}(h:IsRd w T r p s):∃a cap,RdAt w T r a cap s∧Lies w p a (s.B.map bv)∧s.B.length≤cap∧s.B.length≤140737488355328∧
    w.cell? ⟨r,0,none⟩=some (.slice a s.B.length cap)∧w.cell? ⟨r,1,none⟩=some (.int .i64 s.pos)∧w.cell? ⟨r,2,none⟩=some (.int .i64 s.e)∧r<w.heap.size∧(∀j,w.frozen? ⟨r,j,none⟩=false):=by
  obtain⟨⟨a,cap,row,lies,hc,hcm⟩,ap,hp⟩:=h
  have c0:=RowIs.cell row 0
  have c1:=RowIs.cell row 1
  have c2:=RowIs.cell row 2
  simp only[List.getElem?_cons_zero,List.getElem?_cons_succ]at c0 c1 c2
  exact⟨a,cap,row,lies,hc,hcm,c0,c1,c2,RowIs.lt row,RowIs.frozen row⟩
theorem IsRd.setPos{w:World}{T r:Nat}{p:Nat→Prop}{s:RdS}(h:IsRd w T r p s)(n:Nat)(hn:n≤s.B.length):IsRd (w.setCell ⟨r,1,none⟩ (.int .i64 n)) T r p {s with pos:=n}:=by
  obtain⟨⟨a,cap,row,lies,hc,hcm⟩,ap,hp⟩:=h
  refine⟨⟨a,cap,RowIs.set row 1 _,lies.keep ((Keep.refl (·=r) w).setCell (fun _=>rfl) _) (fun b hb e=>ap (e ▸ hb)),hc,hcm⟩,ap,hn⟩
theorem IsRd.setErr{w:World}{T r:Nat}{p:Nat→Prop}{s:RdS}(h:IsRd w T r p s)(e:Int):IsRd (w.setCell ⟨r,2,none⟩ (.int .i64 e)) T r p {s with e:=e}:=by
  obtain⟨⟨a,cap,row,lies,hc,hcm⟩,ap,hp⟩:=h
  refine⟨⟨a,cap,RowIs.set row 2 _,lies.keep ((Keep.refl (·=r) w).setCell (fun _=>rfl) _) (fun b hb e=>ap (e ▸ hb)),hc,hcm⟩,ap,hp⟩
theorem IsRd.nix{w w':World}{T r:Nat}{p:Nat→Prop}{s:RdS}(h:IsRd w T r p s)(k:Keep Nix w w'):IsRd w' T r p s:=h.keep k id (fun _ _ h=>h)
theorem jlM(most:Nat)(s:RdS)(hp:s.pos≤s.B.length) :
    (s.e≠0∧numS most s=(0,s))∨(s.e=0∧
      ((jaE (s.B.drop s.pos)).2.2≠0∧numS most s=(0,{s with e:=(jaE (s.B.drop s.pos)).2.2})∨
       (jaE (s.B.drop s.pos)).2.2=0∧(jaE (s.B.drop s.pos)).1<2 ^ 64∧s.pos+(jaE (s.B.drop s.pos)).2.1≤s.B.length∧
        (most<(jaE (s.B.drop s.pos)).1∧numS most s=(0,{s with e:=9})∨
         (jaE (s.B.drop s.pos)).1≤most∧numS most s=((jaE (s.B.drop s.pos)).1,{s with pos:=s.pos+(jaE (s.B.drop s.pos)).2.1})))):=by
  unfold numS
  by_cases h1:s.e=0
  · refine .inr ⟨h1,?_⟩
    rw[if_neg (by simpa using h1)]
    by_cases h2:(jaE (s.B.drop s.pos)).2.2=0
    · rw[if_neg (by simpa using h2)]
      refine .inr ?_
      rcases jh2 (s.B.drop s.pos)with⟨-,a,b,c,d⟩ | ⟨a,-⟩
      · rw[List.length_drop]at c
        refine⟨h2,a,by omega,?_⟩
        by_cases h3:most<(jaE (s.B.drop s.pos)).1
        · exact .inl ⟨h3,by rw[if_pos h3]⟩
        · exact .inr ⟨by omega,by rw[if_neg h3]⟩
      · omega
    · exact .inl ⟨h2,by rw[if_pos h2]⟩
  · exact .inl ⟨h1,by rw[if_pos h1]⟩
set_option maxRecDepth 100000 in
set_option maxHeartbeats 1000000 in
theorem num_rd(r:Nat)(p:Nat→Prop)(s:RdS)(w:World)(h:IsRd w 151 r p s)(most:Nat) :
    Calls Tryz.prog 81 #[.pointer (some ⟨r,0,none⟩),.int .u64 most] w fun e w'=>
      e=.returned (.int .u64 (numS most s).1)∧IsRd w' 151 r p (numS most s).2∧Keep (·=r) w w':=by
  obtain⟨a,cap,-,-,-,-,c0,c1,c2,hr,hf⟩:=h.cells
  have f1:=hf 1
  have f2:=hf 2
  clear hf
  rcases jlM most s h.place with⟨he,hs⟩ | ⟨he,hs⟩
  · have te:(s.e != 0)=true:=by simpa using he
    have HS:=Lib.hid hs
    clear hs he
    go_enter Tryz.func81,Tryz.ntmps81
    go_wp2_with fail
    go_ret
    rw[HS.out]
    exact⟨rfl,h,Keep.refl _ _⟩
  · have te:(s.e != 0)=false:=by simp[he]
    have HE:=Lib.hid he
    clear he
    go_enter Tryz.func81,Tryz.ntmps81
    go_wp2_with fail
    refine(look_c r p s w h).mono ?_
    rintro e w1 ⟨rfl,k1⟩
    have h1:=h.nix k1
    obtain⟨a1,cap1,-,-,-,-,c0',c1',c2',hr',hf'⟩:=h1.cells
    have f1':=hf' 1
    have f2':=hf' 2
    clear hf'
    have k0:=Keep.nix (S:=(·=r)) k1
    unfold jlI
    clear h k1 c0 c1 c2 f1 f2 hr HE
    rcases hs with⟨hL,hs⟩ | ⟨hL,hv,hn,⟨hm,hs⟩ | ⟨hm,hs⟩⟩
    · rw[if_neg hL]
      generalize jaE (s.B.drop s.pos)=L at hL hs ⊢
      have HS:=Lib.hid hs
      clear hs
      have t1:(L.2.2 == 0)=false:=by simpa using hL
      have t2:(L.2.2 != 0)=true:=by simpa using hL
      clear hL
      go_wp2_with fail
      go_ret
      rw[HS.out]
      exact⟨rfl,h1.setErr _,k0.setCell (fun _=>rfl) _⟩
    · rw[if_pos hL]
      generalize jaE (s.B.drop s.pos)=L at hL hm hs ⊢
      have HS:=Lib.hid hs
      clear hs
      have t1:(L.2.2 == 0)=true:=by simpa using hL
      have HL:=Lib.hid hL
      clear hL hv hn
      go_wp2_with fail
      go_ret
      rw[HS.out]
      exact⟨rfl,h1.setErr _,k0.setCell (fun _=>rfl) _⟩
    · rw[if_pos hL]
      generalize jaE (s.B.drop s.pos)=L at hL hm hn hs ⊢
      have HS:=Lib.hid hs
      clear hs
      have t1:(L.2.2 == 0)=true:=by simpa using hL
      have t2:(L.2.2 != 0)=false:=by simpa using hL
      have HL:=Lib.hid hL
      clear hL hv
      go_wp2_with fail
      go_ret
      rw[HS.out]
      exact⟨rfl,h1.setPos _ hn,k0.setCell (fun _=>rfl) _⟩
theorem jin(r:Nat)(p:Nat→Prop)(s:RdS)(w:World)(h:IsRd w 151 r p s)(most:Int)(h0:0≤most) :
    Calls Tryz.prog 81 #[.pointer (some ⟨r,0,none⟩),.int .u64 most] w fun e w'=>
      e=.returned (.int .u64 (numS most.toNat s).1)∧IsRd w' 151 r p (numS most.toNat s).2∧Keep (·=r) w w':=by
  have e:most=(most.toNat:Int):=by omega
  have:=num_rd r p s w h most.toNat
  rw[←e]at this
  exact this
def maxU:Nat:=18446744073709551615
theorem jpz:(18446744073709551615:Int).toNat=maxU:=rfl
theorem jhl(r:Nat)(p:Nat→Prop)(s:RdS)(w:World)(h:IsRd w 151 r p s) :
    Calls Tryz.prog 48 #[.pointer (some ⟨r,0,none⟩)] w fun e w'=>
      e=.returned (.int .u64 (numS maxU s).1)∧IsRd w' 151 r p (numS maxU s).2∧Keep (·=r) w w':=by
  rw[←jpz]
  go_enter Tryz.func48,Tryz.ntmps48
  go_wp2_with fail
  refine(jin r p s w h 18446744073709551615 (by decide)).mono ?_
  rintro e w1 ⟨rfl,h1,k1⟩
  go_wp2
  go_ret
  exact⟨rfl,h1,k1⟩
theorem jcc(most:Nat)(s:RdS):(numS most s).1≤most:=by
  unfold numS;split
  · simp
  · split
    · simp
    · split
      · simp
      · simp;omega
theorem jbt(most:Nat)(s:RdS):(numS most s).1<2 ^ 64:=by
  unfold numS;split
  · simp
  · split
    · simp
    · split
      · simp
      · rcases jh2 (s.B.drop s.pos)with⟨-,a,-⟩ | ⟨-,a,-⟩
        · exact a
        · simp[a]
theorem jci(r:Nat)(p:Nat→Prop)(s:RdS)(w:World)(h:IsRd w 151 r p s)(most:Int)(hm:jae most) :
    Calls Tryz.prog 43 #[.pointer (some ⟨r,0,none⟩),.int .i64 most] w fun e w'=>
      e=.returned (.int .i64 (numS most.toNat s).1)∧IsRd w' 151 r p (numS most.toNat s).2∧Keep (·=r) w w':=by
  have hle:=jcc most.toNat s
  unfold jae at hm
  rcases Int.lt_or_le most 0 with h0 | h0
  · have e:most.toNat=(0:Int).toNat:=by omega
    rw[e]at hle ⊢
    clear e
    go_enter Tryz.func43,Tryz.ntmps43
    go_wp2_with fail
    refine(jin r p s w h 0 (by decide)).mono ?_
    rintro e w1 ⟨rfl,h1,k1⟩
    go_wp2
    go_ret
    refine⟨jb9 ?_,h1,k1⟩
    have hz:(numS 0 s).1=0:=by have:(numS 0 s).1≤0:=hle;omega
    show wrap64 ((numS 0 s).1:Int)=((numS 0 s).1:Int)
    rw[hz];simp[wrap64]
  · go_enter Tryz.func43,Tryz.ntmps43
    go_wp2_with fail
    refine(jin r p s w h most h0).mono ?_
    rintro e w1 ⟨rfl,h1,k1⟩
    go_wp2
    go_ret
    exact⟨rfl,h1,k1⟩
def zag(v:Nat):Int:=if v % 2=1 then -((v / 2:Nat):Int) - 1 else((v / 2:Nat):Int)
theorem joQ{v:Nat}(h:v<2 ^ 64):bits BinOp.xor IntKind.i64 ((v:Int) / 2) (wrap64 (-wrap64 (bits BinOp.and IntKind.u64 (v:Int) 1)))=zag v:=by
  have e1:bits BinOp.and IntKind.u64 (v:Int) 1=((v % 2:Nat):Int):=by
    show IntKind.u64.wrap (((BitVec.ofInt 64 (v:Int) &&& BitVec.ofInt 64 1:BitVec 64).toNat:Nat):Int)=_
    rw[IntKind.wrap_u64,show BitVec.ofInt 64 1=1#64 by decide +kernel,BitVec.toNat_and,BitVec.ofInt_natCast,BitVec.toNat_ofNat,Nat.mod_eq_of_lt h]
    rw[show(1#64:BitVec 64).toNat=1 from rfl,Nat.and_one_is_mod];omega
  rw[e1,show wrap64 ((v % 2:Nat):Int)=((v % 2:Nat):Int)by simp only[wrap64];omega]
  unfold zag
  rcases Nat.mod_two_eq_zero_or_one v with h2 | h2
  · rw[h2,if_neg (by decide)]
    show IntKind.i64.wrap (((BitVec.ofInt 64 ((v:Int) / 2) ^^^ BitVec.ofInt 64 (wrap64 (-((0:Nat):Int))):BitVec 64).toNat:Nat):Int)=_
    rw[show BitVec.ofInt 64 (wrap64 (-((0:Nat):Int)))=0#64 by decide +kernel,BitVec.xor_zero,show((v:Int) / 2)=((v / 2:Nat):Int)by omega,BitVec.ofInt_natCast,BitVec.toNat_ofNat,IntKind.wrap_i64]
    omega
  · rw[h2,if_pos rfl]
    show IntKind.i64.wrap (((BitVec.ofInt 64 ((v:Int) / 2) ^^^ BitVec.ofInt 64 (wrap64 (-((1:Nat):Int))):BitVec 64).toNat:Nat):Int)=_
    rw[show BitVec.ofInt 64 (wrap64 (-((1:Nat):Int)))=BitVec.allOnes 64 by decide +kernel,BitVec.xor_allOnes,show((v:Int) / 2)=((v / 2:Nat):Int)by omega,BitVec.ofInt_natCast,BitVec.toNat_not,BitVec.toNat_ofNat,IntKind.wrap_i64]
    omega
theorem jpJ{i:Int}:zag (zig i).toNat=i:=by unfold zag zig;split <;> split <;> omega
theorem Int_rd(r:Nat)(p:Nat→Prop)(s:RdS)(w:World)(h:IsRd w 151 r p s) :
    Calls Tryz.prog 189 #[.pointer (some ⟨r,0,none⟩)] w fun e w'=>
      e=.returned (.int .i64 (zag (numS maxU s).1))∧IsRd w' 151 r p (numS maxU s).2∧Keep (·=r) w w':=by
  have hz:=joQ (jbt maxU s)
  have hlt:((numS maxU s).1:Int) / 2≤9223372036854775807:=by have:=jbt maxU s;omega
  go_enter Tryz.func189,Tryz.ntmps189
  go_wp2_with fail
  refine(jhl r p s w h).mono ?_
  rintro e w1 ⟨rfl,h1,k1⟩
  go_wp2
  go_ret
  exact⟨rfl,h1,k1⟩
theorem jmk(r:Nat)(p:Nat→Prop)(s:RdS)(w:World)(h:IsRd w 151 r p s) :
    Calls Tryz.prog 49 #[.pointer (some ⟨r,0,none⟩)] w fun e w'=>e=.returned (.int .i64 s.e)∧w=w':=by
  obtain⟨a,cap,-,-,-,-,c0,c1,c2,hr,hf⟩:=h.cells
  clear hf
  go_enter Tryz.func49,Tryz.ntmps49
  go_wp2
  go_ret
  exact⟨rfl,rfl⟩
theorem jey(r:Nat)(p:Nat→Prop)(s:RdS)(w:World)(h:IsRd w 151 r p s) :
    Calls Tryz.prog 49 #[.pointer (some ⟨r,0,none⟩)] w fun e w'=>e=.returned (.int .i64 s.e)∧Keep Nix w w':=by
  obtain⟨a,cap,-,-,-,-,c0,c1,c2,hr,hf⟩:=h.cells
  clear hf
  go_enter Tryz.func49,Tryz.ntmps49
  go_wp2
  go_ret
  exact⟨rfl,Keep.refl _ _⟩
theorem joX(r:Nat)(p:Nat→Prop)(s:RdS)(w:World)(h:IsRd w 151 r p s) :
    Calls Tryz.prog 88 #[.pointer (some ⟨r,0,none⟩)] w fun e w'=>e=.returned (.int .i64 ((s.B.length - s.pos:Nat):Int))∧Keep Nix w w':=by
  obtain⟨a,cap,-,-,hc,hm,c0,c1,c2,hr,hf⟩:=h.cells
  have hp:=h.place
  clear hf
  go_enter Tryz.func88,Tryz.ntmps88
  go_wp2
  go_quiet (fail)
  go_wp2
  go_ret
  exact⟨jb9 (by omega),(Keep.refl _ _).same⟩
def endS(s:RdS):Int:=if s.e≠0 then s.e else if s.pos<s.B.length then 9 else 0
theorem jjs(r:Nat)(p:Nat→Prop)(s:RdS)(w:World)(h:IsRd w 151 r p s) :
    Calls Tryz.prog 50 #[.pointer (some ⟨r,0,none⟩)] w fun e w'=>e=.returned (.int .i64 (endS s))∧Keep Nix w w':=by
  have hp:=h.place
  go_enter Tryz.func50,Tryz.ntmps50
  go_wp2_with fail
  refine(jey r p s w h).mono ?_
  rintro e w1 ⟨rfl,k1⟩
  rcases jbH s.e 0 with⟨t,he⟩ | ⟨t,he⟩
  · have t':(s.e != 0)=false:=by simpa using t
    go_wp2_with fail
    refine(joX r p s w1 (h.nix k1)).mono ?_
    rintro e w2 ⟨rfl,k2⟩
    by_cases hlt:s.pos<s.B.length
    · have hl:(0:Int)<((s.B.length - s.pos:Nat):Int):=by omega
      go_wp2_with fail
      go_ret
      exact⟨jb9 (by unfold endS;rw[if_neg (by simpa using he.out),if_pos hlt]),k1.trans k2⟩
    · have hl:¬(0:Int)<((s.B.length - s.pos:Nat):Int):=by omega
      go_wp2_with fail
      go_ret
      exact⟨jb9 (by unfold endS;rw[if_neg (by simpa using he.out),if_neg hlt]),k1.trans k2⟩
  · have t':(s.e != 0)=true:=by simpa using he
    go_wp2_with fail
    go_ret
    exact⟨jb9 (by unfold endS;rw[if_pos he]),k1⟩
theorem jgI(m:Nat)(s:RdS):(numS m s).2.B=s.B∧((numS m s).2.e=0→s.e=0∧(numS m s).2={s with pos:=(numS m s).2.pos}):=by
  unfold numS;split
  · exact⟨rfl,fun h=>by contradiction⟩
  · rename_i h1
    split
    · rename_i h2;exact⟨rfl,fun h=>absurd h h2⟩
    · split
      · exact⟨rfl,fun h=>by simp at h⟩
      · exact⟨rfl,fun h=>⟨by simpa using h1,rfl⟩⟩
theorem Lies.cut{w:World}{p:Nat→Prop}{a:Option Addr}{xs:List Value}(h:Lies w p a xs)(cap l sz:Nat)(hx:xs.length≤cap*sz):Lies w p (if cap=l then a else a.map (·.add (l*sz))) (xs.drop (l*sz)):=by
  intro hne
  have hlt:l*sz<xs.length:=by
    rcases Nat.lt_or_ge (l*sz) xs.length with h | h
    · exact h
    · exact absurd (List.drop_eq_nil_of_le h) hne
  have hcl:¬cap=l:=by rintro rfl;omega
  obtain⟨b,off,rfl,hp,hb,hc⟩:=h (by rintro rfl;simp at hlt)
  rw[if_neg hcl]
  refine⟨b,off+l*sz,by simp[Addr.add_lit],hp,hb,fun j u hu=>?_⟩
  rw[List.getElem?_drop]at hu
  rw[Nat.add_assoc];exact hc _ _ hu
theorem Lies.take{w:World}{p:Nat→Prop}{a:Option Addr}{xs:List Value}(h:Lies w p a xs)(n:Nat):Lies w p a (xs.take n):=by
  intro hne
  obtain⟨b,off,ha,hp,hb,hc⟩:=h (by rintro rfl;simp at hne)
  refine⟨b,off,ha,hp,hb,fun j u hu=>hc j u ?_⟩
  rw[List.getElem?_take]at hu
  split at hu
  · exact hu
  · cases hu
set_option maxRecDepth 100000 in
set_option maxHeartbeats 2000000 in
theorem jhV(r:Nat)(p:Nat→Prop)(s:RdS)(w:World)(h:IsRd w 151 r p s)(most:Int)(hm:jae most) :
    Calls Tryz.prog 45 #[.pointer (some ⟨r,0,none⟩),.int .i64 most] w fun e w'=>
      ∃a' cap',e=.returned (.slice a' (ja4 most.toNat s).1.length cap')∧w'.ownsRow w.heap.size 5 1 (.slice a' (ja4 most.toNat s).1.length cap') (ja4 most.toNat s).1.length ((ja4 most.toNat s).1.map bv)∧
      IsRd w' 151 r p (ja4 most.toNat s).2∧Keep (·=r) w w':=by
  obtain⟨a,cap,-,-,-,-,c0,c1,c2,hr,hf⟩:=h.cells
  have hp:=h.place
  have hlt:=jbt most.toNat s
  have hle:=jcc most.toNat s
  clear hf
  by_cases he:s.e=0
  · have te:(s.e != 0)=false:=by simp[he]
    have HE:=Lib.hid he
    clear he
    go_enter Tryz.func45,Tryz.ntmps45
    go_wp2_with fail
    refine(jci r p s w h most hm).mono ?_
    rintro e w1 ⟨rfl,h1,k1⟩
    obtain⟨hB,hnext⟩:=jgI most.toNat s
    have hT:ja4 most.toNat s=if(numS most.toNat s).2.e≠0 then([],(numS most.toNat s).2)
        else if s.B.length - (numS most.toNat s).2.pos<(numS most.toNat s).1 then([],{s with e:=8})
        else((s.B.drop (numS most.toNat s).2.pos).take (numS most.toNat s).1,{s with pos:=(numS most.toNat s).2.pos+(numS most.toNat s).1}):=by
      rw[ja4,if_neg (by simpa using HE.out)]
    have HT:=Lib.hid hT
    clear hT
    generalize (numS most.toNat s).1=n at *
    generalize (numS most.toNat s).2=s1 at *
    obtain⟨a1,cap1,row1,lies1,hc1,hm1,d0,d1,d2,hr1,hf1⟩:=h1.cells
    have f1:=hf1 1
    have f2:=hf1 2
    have hp1:=h1.place
    clear hf1 c0 c1 c2
    rw[hB]at d0 lies1 hc1 hm1 hp1
    by_cases he1:s1.e=0
    · have te1:(s1.e == 0)=true:=by simp[he1]
      have te2:(s1.e != 0)=false:=by simp[he1]
      obtain⟨-,hs1⟩:=hnext he1
      have HE1:=Lib.hid he1
      have HS1:=Lib.hid hs1
      have HB:=Lib.hid hB
      clear he1 hs1 hnext hB
      by_cases hbig:s.B.length - s1.pos<n
      · have hb:(s.B.length:Int) - (s1.pos:Int)<(n:Int):=by omega
        go_wp2_with fail
        go_quiet (fail)
        go_wp2_with fail
        go_ret
        rw[HT.out,if_neg (by rw[HE1.out];decide),if_pos hbig]
        refine⟨_,_,rfl,World.ownsRow_nil _ _ _ _,?_,((k1.setCell (fun _=>rfl) _).setCell (fun _=>rfl) _).same⟩
        have:=((h1.setPos s.pos (by rw[HB.out];exact hp)).setErr 8)
        rw[HS1.out]at this
        exact this.same
      · have hb:¬(s.B.length:Int) - (s1.pos:Int)<(n:Int):=by omega
        go_wp2_with fail
        go_quiet (fail)
        go_wp2_with fail
        have hn2:s1.pos+n≤s.B.length:=by omega
        have i1:IntKind.i64.wrap ((s1.pos:Int)+(n:Int))=(s1.pos:Int)+(n:Int):=by rw[IntKind.wrap_i64];omega
        have i2:IntKind.i64.wrap ((s1.pos:Int)+(n:Int) - (n:Int))=(s1.pos:Int):=by rw[IntKind.wrap_i64];omega
        have h2:=(h1.setPos (s1.pos+n) (by rw[HB.out];exact hn2)).same (w':=(w1.drewN nq).setCell ⟨r,1,none⟩ (.int .i64 ((s1.pos+n:Nat):Int)))
        have k2:=(k1.setCell (p:=⟨r,1,none⟩) (fun _=>rfl) (.int .i64 ((s1.pos+n:Nat):Int))).same (c:=(w1.drewN nq).setCell ⟨r,1,none⟩ (.int .i64 ((s1.pos+n:Nat):Int)))
        rw[Int.natCast_add]at h2 k2
        generalize (w1.drewN nq).setCell ⟨r,1,none⟩ (.int .i64 ((s1.pos:Int)+(n:Int)))=w2 at h2 k2 ⊢
        obtain⟨a2,cap2,row2,lies2,hc2,hm2,e0,e1,e2,hr2,hf2⟩:=h2.cells
        simp only[HB.out]at e0 lies2 hc2
        rw[Int.natCast_add]at e1
        have i3:IntKind.i64.wrap (s1.pos:Int)=(s1.pos:Int):=by rw[IntKind.wrap_i64];omega
        have j1:(s1.pos:Int)+(n:Int)≤(cap2:Int):=by omega
        have j2:(s1.pos:Int)≤(s1.pos:Int)+(n:Int):=by omega
        have j3:(0:Int)≤(s1.pos:Int)+(n:Int):=by omega
        clear hf2 d0 d1 d2 row1 lies1 k1 h1 f1 f2
        go_still_tail 15,(by kernel_rfl)
        change wpList _ _ _ _ _ w2.drew
        have h3:=h2.same (w':=w2.drew)
        have k3:=k2.same (c:=w2.drew)
        have lies3:=(lies2.same (w':=w2.drew)).cut cap2 s1.pos 1 (by simpa using hc2)
        generalize w2.drew=w3 at h3 k3 lies3 ⊢
        refine jcy T_bytes rfl (.const (.slice none 0 0)) (.tmp 76) rfl w.heap.size rfl (World.ownsRow_nil _ _ _ _) (p:=p) (((s.B.drop s1.pos).take n).map bv) rfl ?c1 ?c2 (jdW _) ?c3 ?c4 k3.size ?_
        case c1=>simp;omega
        case c2=>simpa [List.map_take,List.map_drop] using lies3.take n
        case c3=>unfold maxLen;omega
        case c4=>omega
        have en:0+(((s1.pos:Int)+(n:Int)).toNat - s1.pos)=n:=by omega
        simp only[en,List.nil_append]
        generalize (if cap2=s1.pos then a2 else Option.map (fun x=>x.add s1.pos) a2)=ax
        intro a' cap' w4 own4 hg
        have k4:=Keep.grown (Keep.refl Nix w3) hg (fun k hk _=>nomatch hk)
        have h4:=h3.nix k4
        have k5:=k3.trans k4.nix
        clear hg h3 k3 lies3 k4
        have hlen:((s.B.drop s1.pos).take n).length=n:=by simp;omega
        have HLEN:=Lib.hid hlen
        clear hlen
        go_wp2
        go_ret
        rw[HT.out,if_neg (by rw[HE1.out];decide),if_neg hbig]
        refine⟨a',cap',?_,?_,?_,k5⟩
        · rw[HLEN.out];rfl
        · simp only[HLEN.out];exact own4
        · have:=h4
          rw[HS1.out]at this
          exact this
    · have te1:(s1.e == 0)=false:=by simp[he1]
      have te2:(s1.e != 0)=true:=by simp[he1]
      have HE1:=Lib.hid he1
      clear he1 hnext
      go_wp2_with fail
      go_quiet (fail)
      go_wp2_with fail
      go_ret
      rw[HT.out,if_pos HE1.out]
      exact⟨_,_,rfl,World.ownsRow_nil _ _ _ _,h1.keep ((Keep.refl Nix _).same) id (fun _ _ h=>h),k1.same⟩
  · have te:(s.e != 0)=true:=by simp[he]
    have hs:ja4 most.toNat s=([],s):=by rw[ja4,if_pos he]
    have HS:=Lib.hid hs
    clear hs he
    go_enter Tryz.func45,Tryz.ntmps45
    go_wp2_with fail
    go_ret
    rw[HS.out]
    exact⟨_,_,rfl,World.ownsRow_nil _ _ _ _,h,Keep.refl _ _⟩
set_option maxRecDepth 100000 in
theorem jju{p:Nat→Prop}(a:Option Addr)(n ca:Nat)(l:List UInt8)(w:World)(hn:l.length=n)(ha:Lies w p a (l.map bv))(hr:n≤140737488355328) :
  Calls Tryz.prog 42 #[.slice a n ca] w fun e w'=>∃r,e=.returned (.pointer (some ⟨r,0,none⟩))∧w.heap.size≤r∧
   IsRd w' 151 r (fun b=>w.heap.size≤b∧b≠r) ⟨l,0,0,[]⟩∧Keep Nix w w':=by
 subst hn
 go_enter Tryz.func42,Tryz.ntmps42
 go_wp2_with (at_builtin;refine jcy T_bytes rfl (.const (.slice none 0 0)) (.tmp 3) rfl w.heap.size rfl (World.ownsRow_nil _ _ _ _) (p:=p) (l.map bv) rfl ?c1 ha (jdW _) ?c3 ?c4 (Nat.le_refl _) ?_)
 case c1=>simp
 case c3=>unfold maxLen;omega
 case c4=>omega
 intro a' cap' w1 own1 hg
 have k1:=Keep.grown (Keep.refl Nix w) hg (fun k hk _=>nomatch hk)
 clear hg ha
 go_wp2
 go_ret
 have hb:=jbu own1
 refine⟨w1.heap.size,rfl,k1.size,⟨⟨a',cap',RowIs.alloc _ _ _,?_,hb.2.1,hr⟩,by simp,Nat.zero_le _⟩,k1.alloc _⟩
 ·refine((Lies.of_owned own1).keep ((Keep.refl Nix w1).alloc _) (fun _ _ h=>h)).mono fun b hb'=>⟨hb'.1,?_⟩
  have:=own1.lt b hb'.2
  omega
theorem jev(v:Nat)(h:v<256):(UInt8.ofNat v).toNat=v:=by simp;omega
theorem jjY(i:Nat):2 ^ (7*(i+1))=2 ^ (7*i)*128:=by rw[Nat.mul_succ,Nat.pow_add]
theorem joA(v a p:Nat):a+v % 128*p+v / 128*(p*128)=a+v*p:=by
 have h:v=v % 128+128*(v / 128):=(Nat.mod_add_div v 128).symm
 have e:v*p=v % 128*p+v / 128*(p*128):=by
  conv=>lhs;rw[h]
  rw[Nat.add_mul,Nat.mul_comm p 128,←Nat.mul_assoc,Nat.mul_comm 128 (v / 128)]
 omega
theorem Fits.low{i v:Nat}(h:Fits i v)(h9:i=9):v≤1:=by subst h9;unfold Fits at h;simp at h;omega
theorem Fits.div{i v:Nat}(h:Fits i v)(hi:i<9):Fits (i+1) (v / 128):=by
 unfold Fits at *
 have e:64 - 7*i=(64 - 7*(i+1))+7:=by omega
 rw[e,Nat.pow_add]at h
 exact Nat.div_lt_of_lt_mul (by rw[Nat.mul_comm];simpa using h)
theorem jjQ:∀(f i a v:Nat) (rest:List UInt8),f+1+i=10→Fits i v→(0<i→0<v)→jbh (f+1) i a (numF f v ++ rest)=(a+v*2 ^ (7*i),i+(numF f v).length,0)
 | 0,i,a,v,rest,hf,hv,h0=>by
  have h1:=hv.low (by omega)
  have e:=jev v (by omega)
  simp only[numF,List.cons_append,List.nil_append,jbh,e]
  rw[if_neg (by omega),if_pos (by omega),if_neg (by omega),Nat.mod_eq_of_lt (by omega)]
  rfl
 | f+1,i,a,v,rest,hf,hv,h0=>by
  by_cases h:v<128
  ·have e:=jev v (by omega)
   rw[jeC _ _ h]
   simp only[List.cons_append,List.nil_append,jbh,e]
   rw[if_neg (by omega),if_pos h,if_neg (by omega),Nat.mod_eq_of_lt h]
   rfl
  ·have e:=jev (v % 128+128) (by omega)
   rw[jfF _ _ (by omega),List.cons_append]
   conv=>lhs;unfold jbh
   rw[e,if_neg (by omega),if_neg (by omega),show(v % 128+128) % 128=v % 128 by omega]
   rw[jjQ f (i+1) _ (v / 128) rest (by omega) (hv.div (by omega)) (by omega),jjY,joA]
   simp only[List.length_cons]
   rw[show i+1+(numF f (v / 128)).length=i+((numF f (v / 128)).length+1)by omega]
theorem jmJ(v:Nat)(rest:List UInt8)(hv:v<2 ^ 64):jaE (numB v ++ rest)=(v,(numB v).length,0):=by
 have:=jjQ 9 0 0 v rest rfl (by simpa [Fits] using hv) (fun h=>absurd h (by decide))
 simpa [jaE,numB] using this
theorem jge:∀(f i a:Nat) (l:List UInt8) (x n:Nat),f+i=10→jbh f i a l=(x,n,0)→∃v,x=a+v*2 ^ (7*i)∧i<n∧n≤i+l.length∧numF (f - 1) v=l.take (n - i)∧(0<i→0<v)
 | 0,i,a,l,x,n,_,h=>by simp[jbh]at h
 | f+1,i,a,[],x,n,_,h=>by simp[jbh]at h
 | f+1,i,a,c :: l,x,n,hf,h=>by
  unfold jbh at h
  by_cases h1:i=9∧1<c.toNat
  ·rw[if_pos h1]at h;simp at h
  rw[if_neg h1]at h
  by_cases h2:c.toNat<128
  ·rw[if_pos h2]at h
   by_cases h3:c.toNat=0∧0<i
   ·rw[if_pos h3]at h;simp at h
   ·rw[if_neg h3]at h
    simp only[Prod.mk.injEq,and_true]at h
    obtain⟨rfl,rfl⟩:=h
    refine⟨c.toNat,by rw[Nat.mod_eq_of_lt h2],by omega,by simp,?_,by omega⟩
    rw[jeC _ _ h2,show i+1 - i=1 by omega]
    simp
  ·rw[if_neg h2]at h
   obtain⟨v,h4,h5,h6,h7,h8⟩:=jge f (i+1) _ l x n (by omega) h
   have hf0:f≠0:=by rintro rfl;simp[jbh]at h
   obtain⟨g,rfl⟩:∃g,f=g+1:=⟨f - 1,by omega⟩
   have hv:=h8 (by omega)
   have hc:=c.toNat_lt
   have e:(c.toNat % 128+128*v) % 128+128=c.toNat:=by omega
   refine⟨c.toNat % 128+128*v,?_,by omega,by simp only[List.length_cons];omega,?_,by omega⟩
   ·rw[h4,jjY,Nat.add_mul,Nat.mul_comm (2 ^ (7*i)) 128,←Nat.mul_assoc,Nat.mul_comm v 128];omega
   ·simp only[Nat.add_sub_cancel]at h7 ⊢
    rw[jfF _ _ (by omega),e,show(c.toNat % 128+128*v) / 128=v by omega,h7,show n - i=(n - (i+1))+1 by omega]
    simp
theorem jlG(l:List UInt8)(h:(jaE l).2.2=0):numB (jaE l).1=l.take (jaE l).2.1:=by
 obtain⟨v,h1,h2,h3,h4,-⟩:=jge 10 0 0 l (jaE l).1 (jaE l).2.1 rfl (by rw[←h];rfl)
 have e:(jaE l).1=v:=by rw[h1];simp
 rw[e];exact h4
/-! ### quiet contracts: draws alone -/
theorem IsRd.tight{w:World}{T r:Nat}{p:Nat→Prop}{s:RdS}(h:IsRd w T r p s):IsRd w T r (fun b=>p b∧b<w.heap.size) s:=by
 obtain⟨⟨a,cap,h1,h2,h3⟩,h4,h5⟩:=h
 refine⟨⟨a,cap,h1,fun hx=>?_,h3⟩,fun x=>h4 x.1,h5⟩
 obtain⟨b,off,ha,hp,hb,hc⟩:=h2 hx
 exact⟨b,off,ha,⟨hp,hb⟩,hb,hc⟩
theorem IsRd.mono{w:World}{T r:Nat}{p q:Nat→Prop}{s:RdS}(h:IsRd w T r p s)(hq:∀b,p b→q b)(hr:¬q r):IsRd w T r q s:=by
 obtain⟨⟨a,cap,h1,h2,h3⟩,h4,h5⟩:=h
 exact⟨⟨a,cap,h1,h2.mono hq,h3⟩,hr,h5⟩
end Go.Proofs.YtibaehlfpgipfaaGreat
