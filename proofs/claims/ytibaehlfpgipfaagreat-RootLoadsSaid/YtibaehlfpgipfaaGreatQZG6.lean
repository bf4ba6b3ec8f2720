/- READINGS of structs whose bytes may be written. Printed by gen12.py. -/
import Derived.Test.YtibaehlfpgipfaaGreatQZG3
import Derived.Test.YtibaehlfpgipfaaGreatQZG5
import Derived.Test.YtibaehlfpgipfaaGreatQZG2
import Derived.Maps.AppendAt
namespace Go.Proofs.YtibaehlfpgipfaaGreat
open Go.RowKit
def jet:RD GColumn:=fun w p cs x=>∃c0 c1 c2:List Value,cs=List.flatten [c0,c1,c2]∧rStr w p c0 x.fName∧(rInt .i64) w p c1 x.fKind∧jdg w p c2 x.fNull
theorem wGColumn_lawful:Lawful jet 3:=
  ⟨fun⟨c0,c1,c2,h,h0,h1,h2⟩=>by rw[h];simp only[List.flatten_cons,List.flatten_nil,List.append_nil,List.length_append,rStr_lawful.len h0,(jab _).len h1,rBool_lawful.len h2],
   fun⟨c0,c1,c2,h,h0,h1,h2⟩ k hs=>⟨c0,c1,c2,h,rStr_lawful.keep h0 k hs,(jab _).keep h1 k hs,rBool_lawful.keep h2 k hs⟩,
   fun⟨c0,c1,c2,h,h0,h1,h2⟩ hq=>⟨c0,c1,c2,h,rStr_lawful.mono h0 hq,(jab _).mono h1 hq,rBool_lawful.mono h2 hq⟩⟩
theorem jkP{w:World}{p:Nat→Prop}{cs:List Value}{x:GColumn}(h:jet w p cs x):jbl w p cs x:=by
  obtain⟨c0,c1,c2,h,h0,h1,h2⟩:=h
  exact⟨c0,c1,c2,h,h0,h1,h2⟩
def jeM:RD GTable:=fun w p cs x=>∃c0 c1 c2 c3:List Value,cs=List.flatten [c0,c1,c2,c3]∧(rInt .i64) w p c0 x.fID∧rStr w p c1 x.fName∧(jap jet) w p c2 x.fColumns∧(jap (rInt .i64)) w p c3 x.fKey
theorem wGTable_lawful:Lawful jeM 4:=
  ⟨fun⟨c0,c1,c2,c3,h,h0,h1,h2,h3⟩=>by rw[h];simp only[List.flatten_cons,List.flatten_nil,List.append_nil,List.length_append,(jab _).len h0,rStr_lawful.len h1,(jac wGColumn_lawful).len h2,(jac (jab _)).len h3],
   fun⟨c0,c1,c2,c3,h,h0,h1,h2,h3⟩ k hs=>⟨c0,c1,c2,c3,h,(jab _).keep h0 k hs,rStr_lawful.keep h1 k hs,(jac wGColumn_lawful).keep h2 k hs,(jac (jab _)).keep h3 k hs⟩,
   fun⟨c0,c1,c2,c3,h,h0,h1,h2,h3⟩ hq=>⟨c0,c1,c2,c3,h,(jab _).mono h0 hq,rStr_lawful.mono h1 hq,(jac wGColumn_lawful).mono h2 hq,(jac (jab _)).mono h3 hq⟩⟩
theorem jmg{w:World}{p:Nat→Prop}{cs:List Value}{x:GTable}(h:jeM w p cs x):jaG w p cs x:=by
  obtain⟨c0,c1,c2,c3,h,h0,h1,h2,h3⟩:=h
  exact⟨c0,c1,c2,c3,h,h0,h1,(jdz jkP) h2,(jdz (fun h=>h)) h3⟩
def jeJ:RD GIndex:=fun w p cs x=>∃c0 c1 c2 c3 c4 c5 c6:List Value,cs=List.flatten [c0,c1,c2,c3,c4,c5,c6]∧(rInt .i64) w p c0 x.fID∧(rInt .i64) w p c1 x.fTable∧rStr w p c2 x.fName∧(jap (rInt .i64)) w p c3 x.fColumns∧jdg w p c4 x.fUnique∧(rInt .i64) w p c5 x.fState∧jdg w p c6 x.fBad
theorem wGIndex_lawful:Lawful jeJ 7:=
  ⟨fun⟨c0,c1,c2,c3,c4,c5,c6,h,h0,h1,h2,h3,h4,h5,h6⟩=>by rw[h];simp only[List.flatten_cons,List.flatten_nil,List.append_nil,List.length_append,(jab _).len h0,(jab _).len h1,rStr_lawful.len h2,(jac (jab _)).len h3,rBool_lawful.len h4,(jab _).len h5,rBool_lawful.len h6],
   fun⟨c0,c1,c2,c3,c4,c5,c6,h,h0,h1,h2,h3,h4,h5,h6⟩ k hs=>⟨c0,c1,c2,c3,c4,c5,c6,h,(jab _).keep h0 k hs,(jab _).keep h1 k hs,rStr_lawful.keep h2 k hs,(jac (jab _)).keep h3 k hs,rBool_lawful.keep h4 k hs,(jab _).keep h5 k hs,rBool_lawful.keep h6 k hs⟩,
   fun⟨c0,c1,c2,c3,c4,c5,c6,h,h0,h1,h2,h3,h4,h5,h6⟩ hq=>⟨c0,c1,c2,c3,c4,c5,c6,h,(jab _).mono h0 hq,(jab _).mono h1 hq,rStr_lawful.mono h2 hq,(jac (jab _)).mono h3 hq,rBool_lawful.mono h4 hq,(jab _).mono h5 hq,rBool_lawful.mono h6 hq⟩⟩
theorem jmd{w:World}{p:Nat→Prop}{cs:List Value}{x:GIndex}(h:jeJ w p cs x):jaZ w p cs x:=by
  obtain⟨c0,c1,c2,c3,c4,c5,c6,h,h0,h1,h2,h3,h4,h5,h6⟩:=h
  exact⟨c0,c1,c2,c3,c4,c5,c6,h,h0,h1,h2,(jdz (fun h=>h)) h3,h4,h5,h6⟩
def jd1:RD GCatalog:=fun w p cs x=>∃c0 c1 c2 c3:List Value,cs=List.flatten [c0,c1,c2,c3]∧(rInt .i64) w p c0 x.fVersion∧(rInt .i64) w p c1 x.fNext∧(jap jeM) w p c2 x.fTables∧(jap jeJ) w p c3 x.fIndexes
theorem wGCatalog_lawful:Lawful jd1 4:=
  ⟨fun⟨c0,c1,c2,c3,h,h0,h1,h2,h3⟩=>by rw[h];simp only[List.flatten_cons,List.flatten_nil,List.append_nil,List.length_append,(jab _).len h0,(jab _).len h1,(jac wGTable_lawful).len h2,(jac wGIndex_lawful).len h3],
   fun⟨c0,c1,c2,c3,h,h0,h1,h2,h3⟩ k hs=>⟨c0,c1,c2,c3,h,(jab _).keep h0 k hs,(jab _).keep h1 k hs,(jac wGTable_lawful).keep h2 k hs,(jac wGIndex_lawful).keep h3 k hs⟩,
   fun⟨c0,c1,c2,c3,h,h0,h1,h2,h3⟩ hq=>⟨c0,c1,c2,c3,h,(jab _).mono h0 hq,(jab _).mono h1 hq,(jac wGTable_lawful).mono h2 hq,(jac wGIndex_lawful).mono h3 hq⟩⟩
theorem jgs{w:World}{p:Nat→Prop}{cs:List Value}{x:GCatalog}(h:jd1 w p cs x):jat w p cs x:=by
  obtain⟨c0,c1,c2,c3,h,h0,h1,h2,h3⟩:=h
  exact⟨c0,c1,c2,c3,h,h0,h1,(jdz jmg) h2,(jdz jmd) h3⟩
def jf7:RD GPair:=fun w p cs x=>∃c0 c1 c2:List Value,cs=List.flatten [c0,c1,c2]∧jdp w p c0 x.fKey∧jdp w p c1 x.fValue∧(rInt .i64) w p c2 x.fVersion
theorem wGPair_lawful:Lawful jf7 3:=
  ⟨fun⟨c0,c1,c2,h,h0,h1,h2⟩=>by rw[h];simp only[List.flatten_cons,List.flatten_nil,List.append_nil,List.length_append,rBytesW_lawful.len h0,rBytesW_lawful.len h1,(jab _).len h2],
   fun⟨c0,c1,c2,h,h0,h1,h2⟩ k hs=>⟨c0,c1,c2,h,rBytesW_lawful.keep h0 k hs,rBytesW_lawful.keep h1 k hs,(jab _).keep h2 k hs⟩,
   fun⟨c0,c1,c2,h,h0,h1,h2⟩ hq=>⟨c0,c1,c2,h,rBytesW_lawful.mono h0 hq,rBytesW_lawful.mono h1 hq,(jab _).mono h2 hq⟩⟩
theorem jn0{w:World}{p:Nat→Prop}{cs:List Value}{x:GPair}(h:jf7 w p cs x):jdj w p cs x:=by
  obtain⟨c0,c1,c2,h,h0,h1,h2⟩:=h
  exact⟨c0,c1,c2,h,jeF h0,jeF h1,h2⟩
def jeK:RD GOwner:=fun w p cs x=>∃c0 c1:List Value,cs=List.flatten [c0,c1]∧(rInt .i64) w p c0 x.fGroup∧jdp w p c1 x.fFrom
theorem wGOwner_lawful:Lawful jeK 2:=
  ⟨fun⟨c0,c1,h,h0,h1⟩=>by rw[h];simp only[List.flatten_cons,List.flatten_nil,List.append_nil,List.length_append,(jab _).len h0,rBytesW_lawful.len h1],
   fun⟨c0,c1,h,h0,h1⟩ k hs=>⟨c0,c1,h,(jab _).keep h0 k hs,rBytesW_lawful.keep h1 k hs⟩,
   fun⟨c0,c1,h,h0,h1⟩ hq=>⟨c0,c1,h,(jab _).mono h0 hq,rBytesW_lawful.mono h1 hq⟩⟩
theorem jme{w:World}{p:Nat→Prop}{cs:List Value}{x:GOwner}(h:jeK w p cs x):jbv w p cs x:=by
  obtain⟨c0,c1,h,h0,h1⟩:=h
  exact⟨c0,c1,h,h0,jeF h1⟩
def jfd:RD GRoutes:=fun w p cs x=>∃c0 c1 c2 c3 c4:List Value,cs=List.flatten [c0,c1,c2,c3,c4]∧(rInt .i64) w p c0 x.fEpoch∧(rInt .i64) w p c1 x.fBase∧(jap jeK) w p c2 x.fSpans∧(rInt .i64) w p c3 x.fMoving∧jdp w p c4 x.fCut
theorem wGRoutes_lawful:Lawful jfd 5:=
  ⟨fun⟨c0,c1,c2,c3,c4,h,h0,h1,h2,h3,h4⟩=>by rw[h];simp only[List.flatten_cons,List.flatten_nil,List.append_nil,List.length_append,(jab _).len h0,(jab _).len h1,(jac wGOwner_lawful).len h2,(jab _).len h3,rBytesW_lawful.len h4],
   fun⟨c0,c1,c2,c3,c4,h,h0,h1,h2,h3,h4⟩ k hs=>⟨c0,c1,c2,c3,c4,h,(jab _).keep h0 k hs,(jab _).keep h1 k hs,(jac wGOwner_lawful).keep h2 k hs,(jab _).keep h3 k hs,rBytesW_lawful.keep h4 k hs⟩,
   fun⟨c0,c1,c2,c3,c4,h,h0,h1,h2,h3,h4⟩ hq=>⟨c0,c1,c2,c3,c4,h,(jab _).mono h0 hq,(jab _).mono h1 hq,(jac wGOwner_lawful).mono h2 hq,(jab _).mono h3 hq,rBytesW_lawful.mono h4 hq⟩⟩
theorem jkQ{w:World}{p:Nat→Prop}{cs:List Value}{x:GRoutes}(h:jfd w p cs x):jaz w p cs x:=by
  obtain⟨c0,c1,c2,c3,c4,h,h0,h1,h2,h3,h4⟩:=h
  exact⟨c0,c1,c2,c3,c4,h,h0,h1,(jdz jme) h2,h3,jeF h4⟩
def jeL:RD GReply:=fun w p cs x=>∃c0 c1 c2 c3 c4 c5 c6 c7:List Value,cs=List.flatten [c0,c1,c2,c3,c4,c5,c6,c7]∧(rInt .i64) w p c0 x.fErr∧(rInt .u64) w p c1 x.fTxn∧(rInt .i64) w p c2 x.fN∧jdg w p c3 x.fFlag∧(jap jf7) w p c4 x.fPairs∧(jap (rInt .u64)) w p c5 x.fTxns∧jd1 w p c6 x.fCatalog∧jfd w p c7 x.fRoutes
theorem wGReply_lawful:Lawful jeL 15:=
  ⟨fun⟨c0,c1,c2,c3,c4,c5,c6,c7,h,h0,h1,h2,h3,h4,h5,h6,h7⟩=>by rw[h];simp only[List.flatten_cons,List.flatten_nil,List.append_nil,List.length_append,(jab _).len h0,(jab _).len h1,(jab _).len h2,rBool_lawful.len h3,(jac wGPair_lawful).len h4,(jac (jab _)).len h5,wGCatalog_lawful.len h6,wGRoutes_lawful.len h7],
   fun⟨c0,c1,c2,c3,c4,c5,c6,c7,h,h0,h1,h2,h3,h4,h5,h6,h7⟩ k hs=>⟨c0,c1,c2,c3,c4,c5,c6,c7,h,(jab _).keep h0 k hs,(jab _).keep h1 k hs,(jab _).keep h2 k hs,rBool_lawful.keep h3 k hs,(jac wGPair_lawful).keep h4 k hs,(jac (jab _)).keep h5 k hs,wGCatalog_lawful.keep h6 k hs,wGRoutes_lawful.keep h7 k hs⟩,
   fun⟨c0,c1,c2,c3,c4,c5,c6,c7,h,h0,h1,h2,h3,h4,h5,h6,h7⟩ hq=>⟨c0,c1,c2,c3,c4,c5,c6,c7,h,(jab _).mono h0 hq,(jab _).mono h1 hq,(jab _).mono h2 hq,rBool_lawful.mono h3 hq,(jac wGPair_lawful).mono h4 hq,(jac (jab _)).mono h5 hq,wGCatalog_lawful.mono h6 hq,wGRoutes_lawful.mono h7 hq⟩⟩
theorem jmf{w:World}{p:Nat→Prop}{cs:List Value}{x:GReply}(h:jeL w p cs x):jc4 w p cs x:=by
  obtain⟨c0,c1,c2,c3,c4,c5,c6,c7,h,h0,h1,h2,h3,h4,h5,h6,h7⟩:=h
  exact⟨c0,c1,c2,c3,c4,c5,c6,c7,h,h0,h1,h2,h3,(jdz jn0) h4,(jdz (fun h=>h)) h5,jgs h6,jkQ h7⟩
section
/-! ### plainly -/
abbrev Ps(α:Type):=RdS→α×RdS
def pNum:Ps Int:=fun s=>(((numS maxU s).1:Int),(numS maxU s).2)
def pInt:Ps Int:=fun s=>(zag (numS maxU s).1,(numS maxU s).2)
def jbZ:Ps Bool:=fun s=>(decide (((numS 1 s).1:Int)=1),(numS 1 s).2)
def jaF:Ps (List UInt8):=ja4 65536
def jan{α:Type}(f:Ps α):Nat→RdS→List α×RdS
 | 0,s=>([],s)
 | n+1,s=>if s.e=0 then((f s).1 :: (jan f n (f s).2).1,(jan f n (f s).2).2) else([],s)
def jaA{α:Type}(f:Ps α):Ps (List α):=fun s=>jan f (numS 5000 s).1 (numS 5000 s).2
def jfi{α:Type}(R:RD α)(T rd:Nat)(p:Nat→Prop)(w:World)(y:α×RdS)(e:Ending)(w':World):Prop:=∃v,e=.returned v∧R w' (jai w w') [v] y.1∧IsRd w' T rd p y.2∧Keep (·=rd) w w'
def jfh{α:Type}(R:RD α)(T rd:Nat)(p:Nat→Prop)(w:World)(y:α×RdS)(e:Ending)(w':World):Prop:=∃cs:List Value,e=.returned (.agg cs.toArray)∧R w' (jai w w') cs y.1∧ones cs=true∧IsRd w' T rd p y.2∧Keep (·=rd) w w'
theorem jc9{v:Nat}(h:v<2 ^ 64):(Lit.int .i64 (zag v)).wf=true:=by
 refine Go.WalkArith.wf_i64 ?_
 unfold zag;split <;> omega
theorem jmP{v:Nat}(h:v<2 ^ 64):(Lit.int .u64 (v:Int)).wf=true:=Go.WalkArith.wf_u64 (by omega)
theorem jdU(m:Nat)(s:RdS):(ja4 m s).1.length≤m:=by
 unfold ja4
 split
 ·simp
 ·split
  ·simp
  ·split
   ·simp
   ·have:=jcc m s;simp;omega
section
variable (rd : Nat) (p : Nat → Prop) (s : RdS) (w : World) (h : IsRd w 151 rd p s)
include h
theorem jne:Calls Tryz.prog 131 #[.agg #[.pointer (some ⟨rd,0,none⟩)]] w fun e w'=>e=.returned (.int .u64 (pNum s).1)∧IsRd w' 151 rd p (pNum s).2∧Keep (·=rd) w w':=by
 have h0:=h.nix ((Keep.refl Nix w).alloc (.cells #[.pointer (some ⟨rd,0,none⟩)] 154))
 clear h
 go_enter Tryz.func131,Tryz.ntmps131
 go_wp2_with fail
 go_fit (jhl rd p s _ h0)
 rintro e w1 ⟨rfl,h1,k1⟩
 have k2:=((Keep.refl (·=rd) w).alloc (.cells #[.pointer (some ⟨rd,0,none⟩)] 154)).trans (k1.mono fun _ h=>h)
 clear k1 h0
 go_wp2
 go_ret
 exact⟨rfl,h1,k2⟩
theorem jc8:Calls Tryz.prog 130 #[.agg #[.pointer (some ⟨rd,0,none⟩)]] w fun e w'=>e=.returned (.int .i64 (pInt s).1)∧IsRd w' 151 rd p (pInt s).2∧Keep (·=rd) w w':=by
 have h0:=h.nix ((Keep.refl Nix w).alloc (.cells #[.pointer (some ⟨rd,0,none⟩)] 154))
 clear h
 go_enter Tryz.func130,Tryz.ntmps130
 go_wp2_with fail
 go_fit (Int_rd rd p s _ h0)
 rintro e w1 ⟨rfl,h1,k1⟩
 have k2:=((Keep.refl (·=rd) w).alloc (.cells #[.pointer (some ⟨rd,0,none⟩)] 154)).trans (k1.mono fun _ h=>h)
 clear k1 h0
 go_wp2
 go_ret
 exact⟨rfl,h1,k2⟩
theorem jg9:Calls Tryz.prog 132 #[.agg #[.pointer (some ⟨rd,0,none⟩)]] w fun e w'=>e=.returned (.bool (jbZ s).1)∧IsRd w' 151 rd p (jbZ s).2∧Keep (·=rd) w w':=by
 have h0:=h.nix ((Keep.refl Nix w).alloc (.cells #[.pointer (some ⟨rd,0,none⟩)] 154))
 clear h
 go_enter Tryz.func132,Tryz.ntmps132
 go_wp2_with fail
 go_fit (jci rd p s _ h0 1 (by unfold jae;omega))
 rintro e w1 ⟨rfl,h1,k1⟩
 have k2:=((Keep.refl (·=rd) w).alloc (.cells #[.pointer (some ⟨rd,0,none⟩)] 154)).trans (k1.mono fun _ h=>h)
 clear k1 h0
 go_wp2
 go_ret
 refine⟨jam ?_,h1,k2⟩
 unfold jbZ
 rw[Bool.eq_iff_iff];simp
theorem jeY:Calls Tryz.prog 145 #[.agg #[.pointer (some ⟨rd,0,none⟩)]] w (jfi jdp 151 rd p w (jaF s)):=by
 have h0:=h.nix ((Keep.refl Nix w).alloc (.cells #[.pointer (some ⟨rd,0,none⟩)] 154))
 have hl:=Lib.hid (jdU 65536 s)
 clear h
 go_enter Tryz.func145,Tryz.ntmps145
 go_wp2_with fail
 go_fit (jhV rd p s _ h0 65536 (by unfold jae;omega))
 rintro e w1 ⟨a,cap,rfl,own,h1,k1⟩
 have k2:=((Keep.refl (·=rd) w).alloc (.cells #[.pointer (some ⟨rd,0,none⟩)] 154)).trans (k1.mono fun _ h=>h)
 have hb:=jbu own
 have hr:jdp w1 (jai w w1) [.slice a (ja4 65536 s).1.length cap] (ja4 65536 s).1:=by
  refine⟨a,cap,rfl,fun hx=>?_,hb.2.1,by have:=hl.out;unfold far;omega⟩
  obtain⟨b,off,ha,hp,hb,hc⟩:=LiesW.of_owned own hx
  exact⟨b,off,ha,⟨by simp at hp;omega,hb⟩,hb,hc⟩
 have hh:Hid (ja4 (65536:Int).toNat s=jaF s):=rfl
 clear k1 h0 own hl hb
 go_wp2
 go_ret
 exact⟨_,rfl,hr,h1,k2⟩
end
theorem jip(rd:Nat)(p:Nat→Prop)(s:RdS)(w:World)(h:IsRd w 151 rd p s):Calls Tryz.prog 153 #[.agg #[.pointer (some ⟨rd,0,none⟩)]] w fun e w'=>e=.returned (.string (strB (jaF s).1))∧IsRd w' 151 rd p (jaF s).2∧Keep (·=rd) w w':=by
 have h0:=h.nix ((Keep.refl Nix w).alloc (.cells #[.pointer (some ⟨rd,0,none⟩)] 154))
 clear h
 go_enter Tryz.func153,Tryz.ntmps153
 go_wp2_with fail
 go_fit (jeY rd p s _ h0)
 rintro e w1 ⟨v,rfl,⟨a,cap,hv,hl,-,-⟩,h1,k1⟩
 simp only[List.cons.injEq,and_true]at hv
 subst hv
 have k2:=((Keep.refl (·=rd) w).alloc (.cells #[.pointer (some ⟨rd,0,none⟩)] 154)).trans (k1.mono fun _ h=>h)
 have hcv:=jdX (P:=Tryz.prog) Tryz.underlying30 Tryz.underlying5 Tryz.underlying9 (cap:=cap) rfl hl.lies
 clear k1 h0 hl
 go_wp2
 go_ret
 exact⟨rfl,h1,k2⟩
theorem IsRd.lt{w:World}{T rd:Nat}{p:Nat→Prop}{s:RdS}(h:IsRd w T rd p s):rd<w.heap.size:=by
 obtain⟨a,cap,h1,-⟩:=h.row
 exact RowIs.lt h1
end
section
structure Sees(s s0:RdS)(bad:Int):Prop where
 B:s.B=s0.B
 e:s.e=if bad≠0 then bad else s0.e
 pos:s.e=0→s.pos=s0.pos
theorem jeb{s:RdS}(he:s.e≠0)(m:Nat):numS m s=(0,s):=by unfold numS;rw[if_pos he]
theorem jgR{s:RdS}(he:s.e≠0)(m:Nat):ja4 m s=([],s):=by unfold ja4;rw[if_pos he]
section
variable (x : Nat) (p : Nat → Prop) (s : RdS) (w : World)
end
end
def endP{α:Type}(z:α)(y:α×RdS):α×Int:=if endS y.2=0 then(y.1,0) else(z,endS y.2)
theorem jie{α:Type}{z:α}{y:α×RdS}(h:endS y.2=0):endP z y=(y.1,0):=by unfold endP;rw[if_pos h]
theorem jlg{α:Type}{z:α}{y:α×RdS}(h:endS y.2≠0):endP z y=(z,endS y.2):=by unfold endP;rw[if_neg h]
def jcP{α:Type}(f:Ps α)(z:α)(l:List UInt8):α×Int:=endP z (f ⟨l,0,0,[]⟩)
set_option maxRecDepth 100000 in
set_option maxHeartbeats 4000000 in
theorem jll(rd:Nat)(p:Nat→Prop)(s:RdS)(w:World)(h:IsRd w 151 rd p s)(hpl:∀b,p b→b<w.heap.size) :
  Calls Tryz.prog 197 #[.agg #[.pointer (some ⟨rd,0,none⟩)],.func (.func 130) #[.agg #[.pointer (some ⟨rd,0,none⟩)]] #[]] w (jfi (jap (rInt .i64)) 151 rd p w (jaA pInt s)):=by
 have hlt:=h.lt
 have h0:=h.nix ((Keep.refl Nix w).alloc (.cells #[.pointer (some ⟨rd,0,none⟩)] 154))
 have row0:RowIs (w.alloc (.cells #[.pointer (some ⟨rd,0,none⟩)] 154)) w.heap.size 154 [.pointer (some ⟨rd,0,none⟩)]:=RowIs.alloc w _ _
 have hle:=jcc 5000 s
 clear h
 go_enter Tryz.func197,Tryz.ntmps197
 go_wp2_with fail
 go_fit (jci rd p s _ h0 5000 (by unfold jae;omega))
 rintro e w1 ⟨rfl,h1,k1⟩
 have row1:=row0.keep k1 (by omega)
 have kk1:Keep (·=rd) w w1:=((Keep.refl (·=rd) w).alloc (.cells #[.pointer (some ⟨rd,0,none⟩)] 154)).trans (k1.mono fun _ h=>h)
 have HP:Hid (jaA pInt s=jan pInt (numS (5000:Int).toNat s).1 (numS (5000:Int).toNat s).2):=rfl
 have hle':(numS (5000:Int).toNat s).1≤5000:=hle
 clear h0 row0 k1 hle
 generalize numS (5000:Int).toNat s=N at h1 HP hle' ⊢
 go_wp2_with fail
 go_loopw [5,6] (fun l n wr=>∃(xs:List Int) (css:List (List Value)) (m:Nat) (s':RdS) (a:Option Addr) (cap:Nat),l=.slice a xs.length cap∧n=.int .i64 m∧Hid (jan pInt N.1 N.2=(xs ++ (jan pInt m s').1,(jan pInt m s').2))∧
   wr.ownsRow (w.heap.size+1) 3 1 (.slice a xs.length cap) xs.length css.flatten∧Els (rInt .i64) wr (fun b=>jai w wr b∧¬OwnB (.slice a xs.length cap) b) css xs∧IsRd wr 151 rd p s'∧RowIs wr w.heap.size 154 [.pointer (some ⟨rd,0,none⟩)]∧Keep (·=rd) w wr∧xs.length+m≤5000) (fun _ n _=>(intOf n).toNat)
 case atStart=>exact⟨[],[],N.1,N.2,none,0,rfl,rfl,rfl,World.ownsRow_nil _ _ _ _,Els.nil _ _ _,h1,row1,kk1,by simpa using hle'⟩
 case round=>
  clear h1 row1 kk1 hle'
  obtain⟨xs,css,m,s',a,cap,rfl,rfl,hp,own,els,hr,row,kk,hm⟩:=hrel
  have x0:wr.cell? ⟨w.heap.size,0,none⟩=some (.pointer (some ⟨rd,0,none⟩)):=row.cell 0
  have hfar:xs.length≤far:=by unfold far;omega
  by_cases hm0:m=0
  ·subst hm0
   clear hm
   go_wp2_with fail
   go_ret
   refine⟨_,rfl,?_,?_,kk⟩
   ·rw[HP.out,hp.out];exact Els.list (Nat.le_succ _) own els (jab _) (by simp[jan]) hfar
   ·rw[HP.out,hp.out];exact hr
  ·obtain⟨m,rfl⟩:∃m',m=m'+1:=⟨m - 1,by omega⟩
   have hpos:(0:Int)<((m+1:Nat):Int):=by omega
   clear hm0
   go_wp2_with fail
   go_fit (jey rd p s' wr hr)
   rintro e w2 ⟨rfl,k2⟩
   have own2:=jad own k2 (fun _ _ h=>h)
   have els2:=(els.keep (jab _) (k2.nix (S:=(·=rd))) (fun b hb e=>by have:=hb.1.1;omega)).mono (q:=fun b=>jai w w2 b∧¬OwnB (.slice a xs.length cap) b) (jab _) (fun b hb=>⟨⟨hb.1.1,Nat.lt_of_lt_of_le hb.1.2 k2.size⟩,hb.2⟩)
   have hr2:=hr.nix k2
   have row2:=row.keep k2 (fun h=>h)
   have kk2:Keep (·=rd) w w2:=kk.trans (k2.nix)
   have hwr:=kk.size
   have hsz2:=k2.size
   clear own els hr row kk x0
   have x0:w2.cell? ⟨w.heap.size,0,none⟩=some (.pointer (some ⟨rd,0,none⟩)):=row2.cell 0
   rcases jbH s'.e 0 with⟨ht,he⟩ | ⟨ht,he⟩
   ·go_wp2_with fail
    go_fit (jc8 rd p s' w2 hr2)
    rintro e w3 ⟨rfl,hr3,k3⟩
    have hc:(rInt .i64) w3 (jai w2 w3) [.int .i64 (pInt s').1] (pInt s').1:=⟨rfl,jc9 (jbt maxU s')⟩
    have own3:=jad own2 k3 (fun b hb e=>by have:=(own2.lt b hb).1;omega)
    have row3:=row2.keep k3 (by omega)
    have kk3:=kk2.trans k3
    have hB:=row3.lt
    have hsz3:=k3.size
    have hol:∀b,OwnB (.slice a xs.length cap) b→b<w2.heap.size:=fun b hb=>(own2.lt b hb).2
    have hlen:=xs.length
    have hHP:Hid (jan pInt (m+1) s'=((pInt s').1 :: (jan pInt m (pInt s').2).1,(jan pInt m (pInt s').2).2)):=by show _=_;rw[jan,if_pos he.out]
    clear own2 hr2 row2 kk2 x0 hlen
    go_wp2_with (at_builtin;refine jbi jjv rfl (.tmp 20) (.tmp 23) rfl (w.heap.size+1) rfl own3 rfl ?c0 ?c1 ?c2 ?c3 ?c4 ?_)
    case c0=>rfl
    case c1=>first | rfl | (intro u hu;simp at hu;subst hu;rfl)
    case c2=>unfold maxLen;omega
    case c3=>omega
    case c4=>omega
    intro a' cap' w4 own4 k4 jax
    have els4:=els2.push (jab _) hc k3 k4 hlt (by omega) hol jax
    have row4:RowIs w4 w.heap.size 154 [.pointer (some ⟨rd,0,none⟩)]:=row3.keep k4 (fun hb=>by have:=hol _ hb;have:=(own3.lt _ hb).1;omega)
    have hr4:IsRd w4 151 rd p (pInt s').2:=hr3.keep k4 (fun hb=>by have:=(own3.lt _ hb).1;omega) (fun b hb hb2=>by have:=(own3.lt _ hb2).1;have:=hpl b hb;omega)
    have kk4:Keep (·=rd) w w4:=kk3.then k4 (fun i hi hb=>by have:=(own3.lt _ hb).1;omega)
    clear own3 els2 row3 hr3 kk3 k3 k4 jax
    go_wp2
    go_roundw
    case rel=>exact⟨xs ++ [(pInt s').1],css ++ [[.int .i64 (pInt s').1]],m,(pInt s').2,a',cap',by simp,by go_num,by show _=_;rw[hp.out,hHP.out];simp,by simpa using own4,by simpa using els4,hr4,row4,kk4,by simp;omega⟩
    case measure=>simp[intOf] <;> omega
   ·go_wp2_with fail
    go_ret
    have hHP:jan pInt (m+1) s'=([],s'):=by rw[jan,if_neg he]
    refine⟨_,rfl,?_,?_,kk2⟩
    ·rw[HP.out,hp.out,hHP];exact Els.list (Nat.le_succ _) own2 els2 (jab _) (by simp) hfar
    ·rw[HP.out,hp.out,hHP];exact hr2
theorem T_lnum:SliceT Tryz.prog 46 28 1 8:=SliceT.mk' Tryz.underlying46 (z:=.int .u64 0) (by kernel_rfl) rfl (by decide)
set_option maxRecDepth 100000 in
set_option maxHeartbeats 4000000 in
theorem jpu(rd:Nat)(p:Nat→Prop)(s:RdS)(w:World)(h:IsRd w 151 rd p s)(hpl:∀b,p b→b<w.heap.size) :
  Calls Tryz.prog 135 #[.agg #[.pointer (some ⟨rd,0,none⟩)],.func (.func 131) #[.agg #[.pointer (some ⟨rd,0,none⟩)]] #[]] w (jfi (jap (rInt .u64)) 151 rd p w (jaA pNum s)):=by
 have hlt:=h.lt
 have h0:=h.nix ((Keep.refl Nix w).alloc (.cells #[.pointer (some ⟨rd,0,none⟩)] 154))
 have row0:RowIs (w.alloc (.cells #[.pointer (some ⟨rd,0,none⟩)] 154)) w.heap.size 154 [.pointer (some ⟨rd,0,none⟩)]:=RowIs.alloc w _ _
 have hle:=jcc 5000 s
 clear h
 go_enter Tryz.func135,Tryz.ntmps135
 go_wp2_with fail
 go_fit (jci rd p s _ h0 5000 (by unfold jae;omega))
 rintro e w1 ⟨rfl,h1,k1⟩
 have row1:=row0.keep k1 (by omega)
 have kk1:Keep (·=rd) w w1:=((Keep.refl (·=rd) w).alloc (.cells #[.pointer (some ⟨rd,0,none⟩)] 154)).trans (k1.mono fun _ h=>h)
 have HP:Hid (jaA pNum s=jan pNum (numS (5000:Int).toNat s).1 (numS (5000:Int).toNat s).2):=rfl
 have hle':(numS (5000:Int).toNat s).1≤5000:=hle
 clear h0 row0 k1 hle
 generalize numS (5000:Int).toNat s=N at h1 HP hle' ⊢
 go_wp2_with fail
 go_loopw [5,6] (fun l n wr=>∃(xs:List Int) (css:List (List Value)) (m:Nat) (s':RdS) (a:Option Addr) (cap:Nat),l=.slice a xs.length cap∧n=.int .i64 m∧Hid (jan pNum N.1 N.2=(xs ++ (jan pNum m s').1,(jan pNum m s').2))∧
   wr.ownsRow (w.heap.size+1) 28 1 (.slice a xs.length cap) xs.length css.flatten∧Els (rInt .u64) wr (fun b=>jai w wr b∧¬OwnB (.slice a xs.length cap) b) css xs∧IsRd wr 151 rd p s'∧RowIs wr w.heap.size 154 [.pointer (some ⟨rd,0,none⟩)]∧Keep (·=rd) w wr∧xs.length+m≤5000) (fun _ n _=>(intOf n).toNat)
 case atStart=>exact⟨[],[],N.1,N.2,none,0,rfl,rfl,rfl,World.ownsRow_nil _ _ _ _,Els.nil _ _ _,h1,row1,kk1,by simpa using hle'⟩
 case round=>
  clear h1 row1 kk1 hle'
  obtain⟨xs,css,m,s',a,cap,rfl,rfl,hp,own,els,hr,row,kk,hm⟩:=hrel
  have x0:wr.cell? ⟨w.heap.size,0,none⟩=some (.pointer (some ⟨rd,0,none⟩)):=row.cell 0
  have hfar:xs.length≤far:=by unfold far;omega
  by_cases hm0:m=0
  ·subst hm0
   clear hm
   go_wp2_with fail
   go_ret
   refine⟨_,rfl,?_,?_,kk⟩
   ·rw[HP.out,hp.out];exact Els.list (Nat.le_succ _) own els (jab _) (by simp[jan]) hfar
   ·rw[HP.out,hp.out];exact hr
  ·obtain⟨m,rfl⟩:∃m',m=m'+1:=⟨m - 1,by omega⟩
   have hpos:(0:Int)<((m+1:Nat):Int):=by omega
   clear hm0
   go_wp2_with fail
   go_fit (jey rd p s' wr hr)
   rintro e w2 ⟨rfl,k2⟩
   have own2:=jad own k2 (fun _ _ h=>h)
   have els2:=(els.keep (jab _) (k2.nix (S:=(·=rd))) (fun b hb e=>by have:=hb.1.1;omega)).mono (q:=fun b=>jai w w2 b∧¬OwnB (.slice a xs.length cap) b) (jab _) (fun b hb=>⟨⟨hb.1.1,Nat.lt_of_lt_of_le hb.1.2 k2.size⟩,hb.2⟩)
   have hr2:=hr.nix k2
   have row2:=row.keep k2 (fun h=>h)
   have kk2:Keep (·=rd) w w2:=kk.trans (k2.nix)
   have hwr:=kk.size
   have hsz2:=k2.size
   clear own els hr row kk x0
   have x0:w2.cell? ⟨w.heap.size,0,none⟩=some (.pointer (some ⟨rd,0,none⟩)):=row2.cell 0
   rcases jbH s'.e 0 with⟨ht,he⟩ | ⟨ht,he⟩
   ·go_wp2_with fail
    go_fit (jne rd p s' w2 hr2)
    rintro e w3 ⟨rfl,hr3,k3⟩
    have hc:(rInt .u64) w3 (jai w2 w3) [.int .u64 (pNum s').1] (pNum s').1:=⟨rfl,jmP (jbt maxU s')⟩
    have own3:=jad own2 k3 (fun b hb e=>by have:=(own2.lt b hb).1;omega)
    have row3:=row2.keep k3 (by omega)
    have kk3:=kk2.trans k3
    have hB:=row3.lt
    have hsz3:=k3.size
    have hol:∀b,OwnB (.slice a xs.length cap) b→b<w2.heap.size:=fun b hb=>(own2.lt b hb).2
    have hlen:=xs.length
    have hHP:Hid (jan pNum (m+1) s'=((pNum s').1 :: (jan pNum m (pNum s').2).1,(jan pNum m (pNum s').2).2)):=by show _=_;rw[jan,if_pos he.out]
    clear own2 hr2 row2 kk2 x0 hlen
    go_wp2_with (at_builtin;refine jbi T_lnum rfl (.tmp 20) (.tmp 23) rfl (w.heap.size+1) rfl own3 rfl ?c0 ?c1 ?c2 ?c3 ?c4 ?_)
    case c0=>rfl
    case c1=>first | rfl | (intro u hu;simp at hu;subst hu;rfl)
    case c2=>unfold maxLen;omega
    case c3=>omega
    case c4=>omega
    intro a' cap' w4 own4 k4 jax
    have els4:=els2.push (jab _) hc k3 k4 hlt (by omega) hol jax
    have row4:RowIs w4 w.heap.size 154 [.pointer (some ⟨rd,0,none⟩)]:=row3.keep k4 (fun hb=>by have:=hol _ hb;have:=(own3.lt _ hb).1;omega)
    have hr4:IsRd w4 151 rd p (pNum s').2:=hr3.keep k4 (fun hb=>by have:=(own3.lt _ hb).1;omega) (fun b hb hb2=>by have:=(own3.lt _ hb2).1;have:=hpl b hb;omega)
    have kk4:Keep (·=rd) w w4:=kk3.then k4 (fun i hi hb=>by have:=(own3.lt _ hb).1;omega)
    clear own3 els2 row3 hr3 kk3 k3 k4 jax
    go_wp2
    go_roundw
    case rel=>exact⟨xs ++ [(pNum s').1],css ++ [[.int .u64 (pNum s').1]],m,(pNum s').2,a',cap',by simp,by go_num,by show _=_;rw[hp.out,hHP.out];simp,by simpa using own4,by simpa using els4,hr4,row4,kk4,by simp;omega⟩
    case measure=>simp[intOf] <;> omega
   ·go_wp2_with fail
    go_ret
    have hHP:jan pNum (m+1) s'=([],s'):=by rw[jan,if_neg he]
    refine⟨_,rfl,?_,?_,kk2⟩
    ·rw[HP.out,hp.out,hHP];exact Els.list (Nat.le_succ _) own2 els2 (jab _) (by simp) hfar
    ·rw[HP.out,hp.out,hHP];exact hr2
end Go.Proofs.YtibaehlfpgipfaaGreat
