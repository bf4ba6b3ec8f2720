/- THE STRUCTS: their cells written out, their rows in the table. Printed by gen16.py. -/
import Derived.Test.YtibaehlfpgipfaaGreatQZG2
import Derived.Test.YtibaehlfpgipfaaGreatQZArgs
import Derived.Laws.IdiomStrings
import Derived.Deep.RegionLaw
import Derived.Deep.AppendLies
namespace Go.Proofs.YtibaehlfpgipfaaGreat
open Go.RowKit
set_option maxRecDepth 100000
set_option maxHeartbeats 400000
theorem jbd{n:Int}(h:jae n):(Lit.int .i64 n).wf=true:=Go.WalkArith.wf_i64 h
theorem jgS{n:Int}(h:jaw n):(Lit.int .u64 n).wf=true:=Go.WalkArith.wf_u64 h
theorem jca{w:World}{p:Nat→Prop}{cs:List Value}{x:GOwner}(h:jbv w p cs x):∃jbx jby,cs=[.int .i64 x.fGroup,.slice jbx x.fFrom.length jby]∧jae x.fGroup∧(Lies w p jbx (x.fFrom.map bv)∧x.fFrom.length≤jby∧x.fFrom.length≤far)∧True:=by
 obtain⟨k0,k1,rfl,h0,h1⟩:=h
 obtain⟨rfl,f0⟩:=h0
 obtain⟨jbx,jby,rfl,f1⟩:=h1
 exact⟨jbx,jby,rfl,jaO f0,f1,trivial⟩
theorem jfJ(w:World)(p:Nat→Prop){x:GOwner}{jbx:Option Addr}{jby:Nat}(h0:jae x.fGroup)(h1:(Lies w p jbx (x.fFrom.map bv)∧x.fFrom.length≤jby∧x.fFrom.length≤far)):jbv w p [.int .i64 x.fGroup,.slice jbx x.fFrom.length jby] x:=
 ⟨[.int .i64 x.fGroup],[.slice jbx x.fFrom.length jby],rfl,⟨rfl,jbd h0⟩,⟨_,_,rfl,h1⟩⟩
theorem S_Owner:StructT Tryz.prog 97 2:=⟨⟨_,Tryz.underlying97⟩,by kernel_rfl⟩
theorem joT:BuildT Tryz.prog 97 [1,1]:=by
 obtain⟨i,hi,hz,-,-⟩:=info_parts (by kernel_rfl:(Tryz.prog.info? 97).map (fun i=>(i.zero,i.size,i.bytes))=some (some (.agg #[.int .i64 0,.slice none 0 0]),2,32))
 exact⟨_,i,_,[(0,1),(1,1)],Tryz.underlying97,hi,hz,rfl,by kernel_rfl,rfl,by decide⟩
theorem jmG(a:Act)(dst:Option Tmp)(x:Operand)(ty:TypeId)(pos:String)(after:Array Edge)(guard:Option (Nat×Bool)):execOp a.eval {dst:=dst,op:=.load 97 x,type:=ty,pos:=pos,after:=after,guard:=guard}=ja1 97 (a.eval x):=rfl
theorem T_lOwner:SliceT Tryz.prog 51 97 2 32:=SliceT.mk' Tryz.underlying51 (z:=.agg #[.int .i64 0,.slice none 0 0]) (by kernel_rfl) rfl (by decide)
theorem jav{w:World}{p:Nat→Prop}{cs:List Value}{x:GRoutes}(h:jaz w p cs x):∃aSpans cSpans aCut cCut,cs=[.int .i64 x.fEpoch,.int .i64 x.fBase,.slice aSpans x.fSpans.length cSpans,.int .i64 x.fMoving,.slice aCut x.fCut.length cCut]∧jae x.fEpoch∧jae x.fBase∧jap jbv w p [.slice aSpans x.fSpans.length cSpans] x.fSpans∧jae x.fMoving∧(Lies w p aCut (x.fCut.map bv)∧x.fCut.length≤cCut∧x.fCut.length≤far)∧True:=by
 obtain⟨k0,k1,k2,k3,k4,rfl,h0,h1,h2,h3,h4⟩:=h
 obtain⟨rfl,f0⟩:=h0
 obtain⟨rfl,f1⟩:=h1
 obtain⟨aSpans,cSpans,rfl,f2⟩:=jba h2
 obtain⟨rfl,f3⟩:=h3
 obtain⟨aCut,cCut,rfl,f4⟩:=h4
 exact⟨aSpans,cSpans,aCut,cCut,rfl,jaO f0,jaO f1,f2,jaO f3,f4,trivial⟩
theorem jc1(w:World)(p:Nat→Prop){x:GRoutes}{aSpans aCut:Option Addr}{cSpans cCut:Nat}(h0:jae x.fEpoch)(h1:jae x.fBase)(h2:jap jbv w p [.slice aSpans x.fSpans.length cSpans] x.fSpans)(h3:jae x.fMoving)(h4:(Lies w p aCut (x.fCut.map bv)∧x.fCut.length≤cCut∧x.fCut.length≤far)):jaz w p [.int .i64 x.fEpoch,.int .i64 x.fBase,.slice aSpans x.fSpans.length cSpans,.int .i64 x.fMoving,.slice aCut x.fCut.length cCut] x:=
 ⟨[.int .i64 x.fEpoch],[.int .i64 x.fBase],[.slice aSpans x.fSpans.length cSpans],[.int .i64 x.fMoving],[.slice aCut x.fCut.length cCut],rfl,⟨rfl,jbd h0⟩,⟨rfl,jbd h1⟩,h2,⟨rfl,jbd h3⟩,⟨_,_,rfl,h4⟩⟩
theorem S_Routes:StructT Tryz.prog 53 5:=⟨⟨_,Tryz.underlying53⟩,by kernel_rfl⟩
theorem jn9:BuildT Tryz.prog 53 [1,1,1,1,1]:=by
 obtain⟨i,hi,hz,-,-⟩:=info_parts (by kernel_rfl:(Tryz.prog.info? 53).map (fun i=>(i.zero,i.size,i.bytes))=some (some (.agg #[.int .i64 0,.int .i64 0,.slice none 0 0,.int .i64 0,.slice none 0 0]),5,72))
 exact⟨_,i,_,[(0,1),(1,1),(2,1),(3,1),(4,1)],Tryz.underlying53,hi,hz,rfl,by kernel_rfl,rfl,by decide⟩
theorem jbC(a:Act)(dst:Option Tmp)(x:Operand)(ty:TypeId)(pos:String)(after:Array Edge)(guard:Option (Nat×Bool)):execOp a.eval {dst:=dst,op:=.load 53 x,type:=ty,pos:=pos,after:=after,guard:=guard}=ja1 53 (a.eval x):=rfl
theorem jhP(a:Act)(dst:Option Tmp)(x y:Operand)(ty:TypeId)(pos:String)(after:Array Edge)(guard:Option (Nat×Bool)):execOp a.eval {dst:=dst,op:=.store 53 x y,type:=ty,pos:=pos,after:=after,guard:=guard}=jbm 53 (a.eval x) (a.eval y):=rfl
theorem jcE{w:World}{p:Nat→Prop}{cs:List Value}{x:GColumn}(h:jbl w p cs x):cs=[.string (strB x.fName),.int .i64 x.fKind,.bool x.fNull]∧x.fName.length≤far∧jae x.fKind∧True:=by
 obtain⟨k0,k1,k2,rfl,h0,h1,h2⟩:=h
 obtain⟨rfl,f0⟩:=h0
 obtain⟨rfl,f1⟩:=h1
 obtain rfl:=h2
 exact⟨rfl,f0,jaO f1,trivial⟩
theorem jje{w:World}{p:Nat→Prop}{cs:List Value}{x:GColumn}(h:jbl w p cs x):ones cs=true:=by
 obtain⟨rfl,-⟩:=jcE h
 rfl
theorem S_Column:StructT Tryz.prog 148 3:=⟨⟨_,Tryz.underlying148⟩,by kernel_rfl⟩
theorem jn8:BuildT Tryz.prog 148 [1,1,1]:=by
 obtain⟨i,hi,hz,-,-⟩:=info_parts (by kernel_rfl:(Tryz.prog.info? 148).map (fun i=>(i.zero,i.size,i.bytes))=some (some (.agg #[.string ByteArray.empty,.int .i64 0,.bool false]),3,32))
 exact⟨_,i,_,[(0,1),(1,1),(2,1)],Tryz.underlying148,hi,hz,rfl,by kernel_rfl,rfl,by decide⟩
theorem jfC(a:Act)(dst:Option Tmp)(x:Operand)(ty:TypeId)(pos:String)(after:Array Edge)(guard:Option (Nat×Bool)):execOp a.eval {dst:=dst,op:=.load 148 x,type:=ty,pos:=pos,after:=after,guard:=guard}=ja1 148 (a.eval x):=rfl
theorem jhO(a:Act)(dst:Option Tmp)(x y:Operand)(ty:TypeId)(pos:String)(after:Array Edge)(guard:Option (Nat×Bool)):execOp a.eval {dst:=dst,op:=.store 148 x y,type:=ty,pos:=pos,after:=after,guard:=guard}=jbm 148 (a.eval x) (a.eval y):=rfl
theorem T_lColumn:SliceT Tryz.prog 36 148 3 32:=SliceT.mk' Tryz.underlying36 (z:=.agg #[.string {data:=#[]},.int .i64 0,.bool false]) (by kernel_rfl) rfl (by decide)
theorem jbw{w:World}{p:Nat→Prop}{cs:List Value}{x:GTable}(h:jaG w p cs x):∃jaj jak aKey cKey,cs=[.int .i64 x.fID,.string (strB x.fName),.slice jaj x.fColumns.length jak,.slice aKey x.fKey.length cKey]∧jae x.fID∧x.fName.length≤far∧jap jbl w p [.slice jaj x.fColumns.length jak] x.fColumns∧jap (rInt .i64) w p [.slice aKey x.fKey.length cKey] x.fKey∧True:=by
 obtain⟨k0,k1,k2,k3,rfl,h0,h1,h2,h3⟩:=h
 obtain⟨rfl,f0⟩:=h0
 obtain⟨rfl,f1⟩:=h1
 obtain⟨jaj,jak,rfl,f2⟩:=jba h2
 obtain⟨aKey,cKey,rfl,f3⟩:=jba h3
 exact⟨jaj,jak,aKey,cKey,rfl,jaO f0,f1,f2,f3,trivial⟩
theorem jef{w:World}{p:Nat→Prop}{cs:List Value}{x:GTable}(h:jaG w p cs x):ones cs=true:=by
 obtain⟨_,_,_,_,rfl,-⟩:=jbw h
 rfl
theorem jhF(w:World)(p:Nat→Prop){x:GTable}{jaj aKey:Option Addr}{jak cKey:Nat}(h0:jae x.fID)(h1:x.fName.length≤far)(h2:jap jbl w p [.slice jaj x.fColumns.length jak] x.fColumns)(h3:jap (rInt .i64) w p [.slice aKey x.fKey.length cKey] x.fKey):jaG w p [.int .i64 x.fID,.string (strB x.fName),.slice jaj x.fColumns.length jak,.slice aKey x.fKey.length cKey] x:=
 ⟨[.int .i64 x.fID],[.string (strB x.fName)],[.slice jaj x.fColumns.length jak],[.slice aKey x.fKey.length cKey],rfl,⟨rfl,jbd h0⟩,⟨rfl,h1⟩,h2,h3⟩
theorem S_Table:StructT Tryz.prog 39 4:=⟨⟨_,Tryz.underlying39⟩,by kernel_rfl⟩
theorem joV:BuildT Tryz.prog 39 [1,1,1,1]:=by
 obtain⟨i,hi,hz,-,-⟩:=info_parts (by kernel_rfl:(Tryz.prog.info? 39).map (fun i=>(i.zero,i.size,i.bytes))=some (some (.agg #[.int .i64 0,.string ByteArray.empty,.slice none 0 0,.slice none 0 0]),4,72))
 exact⟨_,i,_,[(0,1),(1,1),(2,1),(3,1)],Tryz.underlying39,hi,hz,rfl,by kernel_rfl,rfl,by decide⟩
theorem jcd(a:Act)(dst:Option Tmp)(x:Operand)(ty:TypeId)(pos:String)(after:Array Edge)(guard:Option (Nat×Bool)):execOp a.eval {dst:=dst,op:=.load 39 x,type:=ty,pos:=pos,after:=after,guard:=guard}=ja1 39 (a.eval x):=rfl
theorem jc2(a:Act)(dst:Option Tmp)(x y:Operand)(ty:TypeId)(pos:String)(after:Array Edge)(guard:Option (Nat×Bool)):execOp a.eval {dst:=dst,op:=.store 39 x y,type:=ty,pos:=pos,after:=after,guard:=guard}=jbm 39 (a.eval x) (a.eval y):=rfl
theorem T_lTable:SliceT Tryz.prog 47 39 4 72:=SliceT.mk' Tryz.underlying47 (z:=.agg #[.int .i64 0,.string {data:=#[]},.slice none 0 0,.slice none 0 0]) (by kernel_rfl) rfl (by decide)
theorem ji9(a:Act)(dst:Option Tmp)(parts:Array (Nat×Operand))(ty:TypeId)(pos:String)(after:Array Edge)(guard:Option (Nat×Bool)):execOp a.eval {dst:=dst,op:=.buildSlice 47 1 parts,type:=ty,pos:=pos,after:=after,guard:=guard}=jcC 47 1 (parts.map fun x=>(x.1,a.eval x.2)):=rfl
theorem jbA{w:World}{p:Nat→Prop}{cs:List Value}{x:GIndex}(h:jaZ w p cs x):∃jaj jak,cs=[.int .i64 x.fID,.int .i64 x.fTable,.string (strB x.fName),.slice jaj x.fColumns.length jak,.bool x.fUnique,.int .i64 x.fState,.bool x.fBad]∧jae x.fID∧jae x.fTable∧x.fName.length≤far∧jap (rInt .i64) w p [.slice jaj x.fColumns.length jak] x.fColumns∧jae x.fState∧True:=by
 obtain⟨k0,k1,k2,k3,k4,k5,k6,rfl,h0,h1,h2,h3,h4,h5,h6⟩:=h
 obtain⟨rfl,f0⟩:=h0
 obtain⟨rfl,f1⟩:=h1
 obtain⟨rfl,f2⟩:=h2
 obtain⟨jaj,jak,rfl,f3⟩:=jba h3
 obtain rfl:=h4
 obtain⟨rfl,f5⟩:=h5
 obtain rfl:=h6
 exact⟨jaj,jak,rfl,jaO f0,jaO f1,f2,f3,jaO f5,trivial⟩
theorem jgj{w:World}{p:Nat→Prop}{cs:List Value}{x:GIndex}(h:jaZ w p cs x):ones cs=true:=by
 obtain⟨_,_,rfl,-⟩:=jbA h
 rfl
theorem S_Index:StructT Tryz.prog 41 7:=⟨⟨_,Tryz.underlying41⟩,by kernel_rfl⟩
theorem joS:BuildT Tryz.prog 41 [1,1,1,1,1,1,1]:=by
 obtain⟨i,hi,hz,-,-⟩:=info_parts (by kernel_rfl:(Tryz.prog.info? 41).map (fun i=>(i.zero,i.size,i.bytes))=some (some (.agg #[.int .i64 0,.int .i64 0,.string ByteArray.empty,.slice none 0 0,.bool false,.int .i64 0,.bool false]),7,80))
 exact⟨_,i,_,[(0,1),(1,1),(2,1),(3,1),(4,1),(5,1),(6,1)],Tryz.underlying41,hi,hz,rfl,by kernel_rfl,rfl,by decide⟩
theorem jc0(a:Act)(dst:Option Tmp)(x:Operand)(ty:TypeId)(pos:String)(after:Array Edge)(guard:Option (Nat×Bool)):execOp a.eval {dst:=dst,op:=.load 41 x,type:=ty,pos:=pos,after:=after,guard:=guard}=ja1 41 (a.eval x):=rfl
theorem jdc(a:Act)(dst:Option Tmp)(x y:Operand)(ty:TypeId)(pos:String)(after:Array Edge)(guard:Option (Nat×Bool)):execOp a.eval {dst:=dst,op:=.store 41 x y,type:=ty,pos:=pos,after:=after,guard:=guard}=jbm 41 (a.eval x) (a.eval y):=rfl
theorem T_lIndex:SliceT Tryz.prog 48 41 7 80:=SliceT.mk' Tryz.underlying48 (z:=.agg #[.int .i64 0,.int .i64 0,.string {data:=#[]},.slice none 0 0,.bool false,.int .i64 0,.bool false]) (by kernel_rfl) rfl (by decide)
theorem ji8(a:Act)(dst:Option Tmp)(parts:Array (Nat×Operand))(ty:TypeId)(pos:String)(after:Array Edge)(guard:Option (Nat×Bool)):execOp a.eval {dst:=dst,op:=.buildSlice 48 1 parts,type:=ty,pos:=pos,after:=after,guard:=guard}=jcC 48 1 (parts.map fun x=>(x.1,a.eval x.2)):=rfl
theorem jau{w:World}{p:Nat→Prop}{cs:List Value}{x:GCatalog}(h:jat w p cs x):∃jaU jaW jaI jaJ,cs=[.int .i64 x.fVersion,.int .i64 x.fNext,.slice jaU x.fTables.length jaW,.slice jaI x.fIndexes.length jaJ]∧jae x.fVersion∧jae x.fNext∧jap jaG w p [.slice jaU x.fTables.length jaW] x.fTables∧jap jaZ w p [.slice jaI x.fIndexes.length jaJ] x.fIndexes∧True:=by
 obtain⟨k0,k1,k2,k3,rfl,h0,h1,h2,h3⟩:=h
 obtain⟨rfl,f0⟩:=h0
 obtain⟨rfl,f1⟩:=h1
 obtain⟨jaU,jaW,rfl,f2⟩:=jba h2
 obtain⟨jaI,jaJ,rfl,f3⟩:=jba h3
 exact⟨jaU,jaW,jaI,jaJ,rfl,jaO f0,jaO f1,f2,f3,trivial⟩
theorem jay{w:World}{p:Nat→Prop}{cs:List Value}{x:GCatalog}(h:jat w p cs x):ones cs=true:=by
 obtain⟨_,_,_,_,rfl,-⟩:=jau h
 rfl
theorem jcs(w:World)(p:Nat→Prop){x:GCatalog}{jaU jaI:Option Addr}{jaW jaJ:Nat}(h0:jae x.fVersion)(h1:jae x.fNext)(h2:jap jaG w p [.slice jaU x.fTables.length jaW] x.fTables)(h3:jap jaZ w p [.slice jaI x.fIndexes.length jaJ] x.fIndexes):jat w p [.int .i64 x.fVersion,.int .i64 x.fNext,.slice jaU x.fTables.length jaW,.slice jaI x.fIndexes.length jaJ] x:=
 ⟨[.int .i64 x.fVersion],[.int .i64 x.fNext],[.slice jaU x.fTables.length jaW],[.slice jaI x.fIndexes.length jaJ],rfl,⟨rfl,jbd h0⟩,⟨rfl,jbd h1⟩,h2,h3⟩
theorem S_Catalog:StructT Tryz.prog 50 4:=⟨⟨_,Tryz.underlying50⟩,by kernel_rfl⟩
theorem jmj:BuildT Tryz.prog 50 [1,1,1,1]:=by
 obtain⟨i,hi,hz,-,-⟩:=info_parts (by kernel_rfl:(Tryz.prog.info? 50).map (fun i=>(i.zero,i.size,i.bytes))=some (some (.agg #[.int .i64 0,.int .i64 0,.slice none 0 0,.slice none 0 0]),4,64))
 exact⟨_,i,_,[(0,1),(1,1),(2,1),(3,1)],Tryz.underlying50,hi,hz,rfl,by kernel_rfl,rfl,by decide⟩
theorem jbB(a:Act)(dst:Option Tmp)(x:Operand)(ty:TypeId)(pos:String)(after:Array Edge)(guard:Option (Nat×Bool)):execOp a.eval {dst:=dst,op:=.load 50 x,type:=ty,pos:=pos,after:=after,guard:=guard}=ja1 50 (a.eval x):=rfl
theorem jcp(a:Act)(dst:Option Tmp)(x y:Operand)(ty:TypeId)(pos:String)(after:Array Edge)(guard:Option (Nat×Bool)):execOp a.eval {dst:=dst,op:=.store 50 x y,type:=ty,pos:=pos,after:=after,guard:=guard}=jbm 50 (a.eval x) (a.eval y):=rfl
theorem jbL:SliceT Tryz.prog 76 50 4 64:=SliceT.mk' Tryz.underlying76 (z:=.agg #[.int .i64 0,.int .i64 0,.slice none 0 0,.slice none 0 0]) (by kernel_rfl) rfl (by decide)
theorem jgH(a:Act)(dst:Option Tmp)(parts:Array (Nat×Operand))(ty:TypeId)(pos:String)(after:Array Edge)(guard:Option (Nat×Bool)):execOp a.eval {dst:=dst,op:=.buildSlice 76 1 parts,type:=ty,pos:=pos,after:=after,guard:=guard}=jcC 76 1 (parts.map fun x=>(x.1,a.eval x.2)):=rfl
theorem jgL{w:World}{p:Nat→Prop}{cs:List Value}{x:GSpan}(h:jdH w p cs x):∃jbx jby aTo cTo,cs=[.slice jbx x.fFrom.length jby,.slice aTo x.fTo.length cTo]∧(Lies w p jbx (x.fFrom.map bv)∧x.fFrom.length≤jby∧x.fFrom.length≤far)∧(Lies w p aTo (x.fTo.map bv)∧x.fTo.length≤cTo∧x.fTo.length≤far)∧True:=by
 obtain⟨k0,k1,rfl,h0,h1⟩:=h
 obtain⟨jbx,jby,rfl,f0⟩:=h0
 obtain⟨aTo,cTo,rfl,f1⟩:=h1
 exact⟨jbx,jby,aTo,cTo,rfl,f0,f1,trivial⟩
theorem jmX(w:World)(p:Nat→Prop){x:GSpan}{jbx aTo:Option Addr}{jby cTo:Nat}(h0:(Lies w p jbx (x.fFrom.map bv)∧x.fFrom.length≤jby∧x.fFrom.length≤far))(h1:(Lies w p aTo (x.fTo.map bv)∧x.fTo.length≤cTo∧x.fTo.length≤far)):jdH w p [.slice jbx x.fFrom.length jby,.slice aTo x.fTo.length cTo] x:=
 ⟨[.slice jbx x.fFrom.length jby],[.slice aTo x.fTo.length cTo],rfl,⟨_,_,rfl,h0⟩,⟨_,_,rfl,h1⟩⟩
theorem jgK{w:World}{p:Nat→Prop}{cs:List Value}{x:GPair}(h:jdj w p cs x):∃aKey cKey jbO jbP,cs=[.slice aKey x.fKey.length cKey,.slice jbO x.fValue.length jbP,.int .i64 x.fVersion]∧(Lies w p aKey (x.fKey.map bv)∧x.fKey.length≤cKey∧x.fKey.length≤far)∧(Lies w p jbO (x.fValue.map bv)∧x.fValue.length≤jbP∧x.fValue.length≤far)∧jae x.fVersion∧True:=by
 obtain⟨k0,k1,k2,rfl,h0,h1,h2⟩:=h
 obtain⟨aKey,cKey,rfl,f0⟩:=h0
 obtain⟨jbO,jbP,rfl,f1⟩:=h1
 obtain⟨rfl,f2⟩:=h2
 exact⟨aKey,cKey,jbO,jbP,rfl,f0,f1,jaO f2,trivial⟩
theorem S_Pair:StructT Tryz.prog 114 3:=⟨⟨_,Tryz.underlying114⟩,by kernel_rfl⟩
theorem B_Pair:BuildT Tryz.prog 114 [1,1,1]:=by
 obtain⟨i,hi,hz,-,-⟩:=info_parts (by kernel_rfl:(Tryz.prog.info? 114).map (fun i=>(i.zero,i.size,i.bytes))=some (some (.agg #[.slice none 0 0,.slice none 0 0,.int .i64 0]),3,56))
 exact⟨_,i,_,[(0,1),(1,1),(2,1)],Tryz.underlying114,hi,hz,rfl,by kernel_rfl,rfl,by decide⟩
theorem jkU:SliceT Tryz.prog 33 114 3 56:=SliceT.mk' Tryz.underlying33 (z:=.agg #[.slice none 0 0,.slice none 0 0,.int .i64 0]) (by kernel_rfl) rfl (by decide)
theorem jen{w:World}{p:Nat→Prop}{cs:List Value}{x:GCommand}(h:jdb w p cs x):∃aKey cKey jfj jfl jgv jgx jbz jb0 jhn jho jgw jgy jdK jdM jfk jfm jdJ jdL,cs=[.int .i64 x.fKind,.int .i64 x.fEpoch,.int .u64 x.fTxn,.int .i64 x.fN,.int .i64 x.fFrom,.int .i64 x.fTo,.bool x.fFlag,.slice aKey x.fKey.length cKey,.slice jfj x.fSpan.fFrom.length jfl,.slice jgv x.fSpan.fTo.length jgx,.slice jbz x.fPairs.length jb0,.slice jhn x.fSeens.length jho,.slice jgw x.fWrites.length jgy,.int .i64 x.fTable.fID,.string (strB x.fTable.fName),.slice jdK x.fTable.fColumns.length jdM,.slice jfk x.fTable.fKey.length jfm,.int .i64 x.fIndex.fID,.int .i64 x.fIndex.fTable,.string (strB x.fIndex.fName),.slice jdJ x.fIndex.fColumns.length jdL,.bool x.fIndex.fUnique,.int .i64 x.fIndex.fState,.bool x.fIndex.fBad,.string (strB x.fName)]∧jae x.fKind∧jae x.fEpoch∧jaw x.fTxn∧jae x.fN∧jae x.fFrom∧jae x.fTo∧(Lies w p aKey (x.fKey.map bv)∧x.fKey.length≤cKey∧x.fKey.length≤far)∧jdH w p [.slice jfj x.fSpan.fFrom.length jfl,.slice jgv x.fSpan.fTo.length jgx] x.fSpan∧jap jdj w p [.slice jbz x.fPairs.length jb0] x.fPairs∧jap jhE w p [.slice jhn x.fSeens.length jho] x.fSeens∧jap jg8 w p [.slice jgw x.fWrites.length jgy] x.fWrites∧jaG w p [.int .i64 x.fTable.fID,.string (strB x.fTable.fName),.slice jdK x.fTable.fColumns.length jdM,.slice jfk x.fTable.fKey.length jfm] x.fTable∧jaZ w p [.int .i64 x.fIndex.fID,.int .i64 x.fIndex.fTable,.string (strB x.fIndex.fName),.slice jdJ x.fIndex.fColumns.length jdL,.bool x.fIndex.fUnique,.int .i64 x.fIndex.fState,.bool x.fIndex.fBad] x.fIndex∧x.fName.length≤far∧True:=by
 obtain⟨k0,k1,k2,k3,k4,k5,k6,k7,k8,k9,k10,k11,k12,k13,k14,rfl,h0,h1,h2,h3,h4,h5,h6,h7,h8,h9,h10,h11,h12,h13,h14⟩:=h
 obtain⟨rfl,f0⟩:=h0
 obtain⟨rfl,f1⟩:=h1
 obtain⟨rfl,f2⟩:=h2
 obtain⟨rfl,f3⟩:=h3
 obtain⟨rfl,f4⟩:=h4
 obtain⟨rfl,f5⟩:=h5
 obtain rfl:=h6
 obtain⟨aKey,cKey,rfl,f7⟩:=h7
 have f8:=h8
 obtain⟨jfj,jfl,jgv,jgx,rfl,-⟩:=jgL h8
 obtain⟨jbz,jb0,rfl,f9⟩:=jba h9
 obtain⟨jhn,jho,rfl,f10⟩:=jba h10
 obtain⟨jgw,jgy,rfl,f11⟩:=jba h11
 have f12:=h12
 obtain⟨jdK,jdM,jfk,jfm,rfl,-⟩:=jbw h12
 have f13:=h13
 obtain⟨jdJ,jdL,rfl,-⟩:=jbA h13
 obtain⟨rfl,f14⟩:=h14
 exact⟨aKey,cKey,jfj,jfl,jgv,jgx,jbz,jb0,jhn,jho,jgw,jgy,jdK,jdM,jfk,jfm,jdJ,jdL,rfl,jaO f0,jaO f1,jeS f2,jaO f3,jaO f4,jaO f5,f7,f8,f9,f10,f11,f12,f13,f14,trivial⟩
theorem jfZ:StructT Tryz.prog 43 25:=⟨⟨_,Tryz.underlying43⟩,by kernel_rfl⟩
theorem jgG(a:Act)(dst:Option Tmp)(x:Operand)(ty:TypeId)(pos:String)(after:Array Edge)(guard:Option (Nat×Bool)):execOp a.eval {dst:=dst,op:=.load 43 x,type:=ty,pos:=pos,after:=after,guard:=guard}=ja1 43 (a.eval x):=rfl
theorem jee{w:World}{p:Nat→Prop}{cs:List Value}{x:GReply}(h:jc4 w p cs x):∃jbz jb0 jcj jck ja6 ja7 ja2 ja3 jaC jaD jaT jaV,cs=[.int .i64 x.fErr,.int .u64 x.fTxn,.int .i64 x.fN,.bool x.fFlag,.slice jbz x.fPairs.length jb0,.slice jcj x.fTxns.length jck,.int .i64 x.fCatalog.fVersion,.int .i64 x.fCatalog.fNext,.slice ja6 x.fCatalog.fTables.length ja7,.slice ja2 x.fCatalog.fIndexes.length ja3,.int .i64 x.fRoutes.fEpoch,.int .i64 x.fRoutes.fBase,.slice jaC x.fRoutes.fSpans.length jaD,.int .i64 x.fRoutes.fMoving,.slice jaT x.fRoutes.fCut.length jaV]∧jae x.fErr∧jaw x.fTxn∧jae x.fN∧jap jdj w p [.slice jbz x.fPairs.length jb0] x.fPairs∧jap (rInt .u64) w p [.slice jcj x.fTxns.length jck] x.fTxns∧jat w p [.int .i64 x.fCatalog.fVersion,.int .i64 x.fCatalog.fNext,.slice ja6 x.fCatalog.fTables.length ja7,.slice ja2 x.fCatalog.fIndexes.length ja3] x.fCatalog∧jaz w p [.int .i64 x.fRoutes.fEpoch,.int .i64 x.fRoutes.fBase,.slice jaC x.fRoutes.fSpans.length jaD,.int .i64 x.fRoutes.fMoving,.slice jaT x.fRoutes.fCut.length jaV] x.fRoutes∧True:=by
 obtain⟨k0,k1,k2,k3,k4,k5,k6,k7,rfl,h0,h1,h2,h3,h4,h5,h6,h7⟩:=h
 obtain⟨rfl,f0⟩:=h0
 obtain⟨rfl,f1⟩:=h1
 obtain⟨rfl,f2⟩:=h2
 obtain rfl:=h3
 obtain⟨jbz,jb0,rfl,f4⟩:=jba h4
 obtain⟨jcj,jck,rfl,f5⟩:=jba h5
 have f6:=h6
 obtain⟨ja6,ja7,ja2,ja3,rfl,-⟩:=jau h6
 have f7:=h7
 obtain⟨jaC,jaD,jaT,jaV,rfl,-⟩:=jav h7
 exact⟨jbz,jb0,jcj,jck,ja6,ja7,ja2,ja3,jaC,jaD,jaT,jaV,rfl,jaO f0,jeS f1,jaO f2,f4,f5,f6,f7,trivial⟩
theorem jcU{w:World}{p:Nat→Prop}{cs:List Value}{x:GReply}(h:jc4 w p cs x):ones cs=true:=by
 obtain⟨_,_,_,_,_,_,_,_,_,_,_,_,rfl,-⟩:=jee h
 rfl
theorem jd8(w:World)(p:Nat→Prop){x:GReply}{jbz jcj ja6 ja2 jaC jaT:Option Addr}{jb0 jck ja7 ja3 jaD jaV:Nat}(h0:jae x.fErr)(h1:jaw x.fTxn)(h2:jae x.fN)(h4:jap jdj w p [.slice jbz x.fPairs.length jb0] x.fPairs)(h5:jap (rInt .u64) w p [.slice jcj x.fTxns.length jck] x.fTxns)(h6:jat w p [.int .i64 x.fCatalog.fVersion,.int .i64 x.fCatalog.fNext,.slice ja6 x.fCatalog.fTables.length ja7,.slice ja2 x.fCatalog.fIndexes.length ja3] x.fCatalog)(h7:jaz w p [.int .i64 x.fRoutes.fEpoch,.int .i64 x.fRoutes.fBase,.slice jaC x.fRoutes.fSpans.length jaD,.int .i64 x.fRoutes.fMoving,.slice jaT x.fRoutes.fCut.length jaV] x.fRoutes):jc4 w p [.int .i64 x.fErr,.int .u64 x.fTxn,.int .i64 x.fN,.bool x.fFlag,.slice jbz x.fPairs.length jb0,.slice jcj x.fTxns.length jck,.int .i64 x.fCatalog.fVersion,.int .i64 x.fCatalog.fNext,.slice ja6 x.fCatalog.fTables.length ja7,.slice ja2 x.fCatalog.fIndexes.length ja3,.int .i64 x.fRoutes.fEpoch,.int .i64 x.fRoutes.fBase,.slice jaC x.fRoutes.fSpans.length jaD,.int .i64 x.fRoutes.fMoving,.slice jaT x.fRoutes.fCut.length jaV] x:=
 ⟨[.int .i64 x.fErr],[.int .u64 x.fTxn],[.int .i64 x.fN],[.bool x.fFlag],[.slice jbz x.fPairs.length jb0],[.slice jcj x.fTxns.length jck],[.int .i64 x.fCatalog.fVersion,.int .i64 x.fCatalog.fNext,.slice ja6 x.fCatalog.fTables.length ja7,.slice ja2 x.fCatalog.fIndexes.length ja3],[.int .i64 x.fRoutes.fEpoch,.int .i64 x.fRoutes.fBase,.slice jaC x.fRoutes.fSpans.length jaD,.int .i64 x.fRoutes.fMoving,.slice jaT x.fRoutes.fCut.length jaV],rfl,⟨rfl,jbd h0⟩,⟨rfl,jgS h1⟩,⟨rfl,jbd h2⟩,rfl,h4,h5,h6,h7⟩
theorem S_Reply:StructT Tryz.prog 55 15:=⟨⟨_,Tryz.underlying55⟩,by kernel_rfl⟩
theorem joU:BuildT Tryz.prog 55 [1,1,1,1,1,1,4,5]:=by
 obtain⟨i,hi,hz,-,-⟩:=info_parts (by kernel_rfl:(Tryz.prog.info? 55).map (fun i=>(i.zero,i.size,i.bytes))=some (some (.agg #[.int .i64 0,.int .u64 0,.int .i64 0,.bool false,.slice none 0 0,.slice none 0 0,.int .i64 0,.int .i64 0,.slice none 0 0,.slice none 0 0,.int .i64 0,.int .i64 0,.slice none 0 0,.int .i64 0,.slice none 0 0]),15,216))
 exact⟨_,i,_,[(0,1),(1,1),(2,1),(3,1),(4,1),(5,1),(6,4),(10,5)],Tryz.underlying55,hi,hz,rfl,by kernel_rfl,rfl,by decide⟩
theorem jct(a:Act)(dst:Option Tmp)(x y:Operand)(ty:TypeId)(pos:String)(after:Array Edge)(guard:Option (Nat×Bool)):execOp a.eval {dst:=dst,op:=.store 55 x y,type:=ty,pos:=pos,after:=after,guard:=guard}=jbm 55 (a.eval x) (a.eval y):=rfl
theorem jmY{k:IntKind}{w:World}{p:Nat→Prop}{cs:List Value}{x:Int}(h:rInt k w p cs x):ones cs=true:=by rw[h.1];rfl
theorem jjv:SliceT Tryz.prog 37 3 1 8:=SliceT.mk' Tryz.underlying37 (z:=.int .i64 0) (by kernel_rfl) rfl (by decide)
theorem T_bytes:SliceT Tryz.prog 30 5 1 1:=SliceT.mk' Tryz.underlying30 (z:=.int .u8 0) (by kernel_rfl) rfl (by decide)
theorem bv_at(l:List UInt8)(k:Nat)(h:k<l.length):(l.map bv)[k]?=some (.int .u8 (l[k].toNat:Int)):=by simp[bv,h]
theorem jhY{p q:Nat→Prop}(a b:Option Addr)(n ca m cb:Nat)(la lb:List UInt8)(w:World)(hn:la.length=n)(hm:lb.length=m)(ha:Lies w p a (la.map bv))(hb:Lies w q b (lb.map bv)) :
  Calls Tryz.prog 11 #[.slice a n ca,.slice b m cb] w fun e w'=>e=.returned (.bool (decide (la=lb)))∧w=w':=by
 have h1:=jdX (P:=Tryz.prog) Tryz.underlying30 Tryz.underlying5 Tryz.underlying9 (cap:=ca) hn ha
 have h2:=jdX (P:=Tryz.prog) Tryz.underlying30 Tryz.underlying5 Tryz.underlying9 (cap:=cb) hm hb
 clear ha hb hn hm
 go_enter Tryz.func11,Tryz.ntmps11
 go_wp2
 go_ret
 exact⟨jam (jes _ _),rfl⟩
theorem joP(n:Nat)(h:n<2 ^ 64):bits BinOp.xor IntKind.u64 (n:Int) 18446744073709551615=((2 ^ 64 - 1 - n:Nat):Int):=by
  show IntKind.u64.wrap (((BitVec.ofInt 64 (n:Int) ^^^ BitVec.ofInt 64 18446744073709551615:BitVec 64).toNat:Nat):Int)=_
  have e:BitVec.ofInt 64 18446744073709551615=BitVec.allOnes 64:=by decide +kernel
  rw[IntKind.wrap_u64,e,BitVec.xor_allOnes]
  simp only[BitVec.toNat_not,BitVec.ofInt_natCast,BitVec.toNat_ofNat,Nat.mod_eq_of_lt h]
  omega
theorem xor_zero(n:Nat)(h:n<2 ^ 64):bits BinOp.xor IntKind.u64 (n:Int) 0=(n:Int):=by
  show IntKind.u64.wrap (((BitVec.ofInt 64 (n:Int) ^^^ BitVec.ofInt 64 0:BitVec 64).toNat:Nat):Int)=_
  have e:BitVec.ofInt 64 0=0#64:=by decide +kernel
  rw[IntKind.wrap_u64,e,BitVec.xor_zero,BitVec.ofInt_natCast,BitVec.toNat_ofNat,Nat.mod_eq_of_lt h]
  omega
def zig(i:Int):Int:=if i<0 then -(i+1)*2+1 else i*2
theorem jlw{i:Int}(h:jae i):jaw (zig i):=by unfold jae jaw zig at *;split <;> omega
theorem joR{i:Int}(h:jae i):bits BinOp.xor IntKind.u64 (IntKind.u64.wrap (IntKind.u64.wrap i*2)) (IntKind.u64.wrap (i / 9223372036854775808))=zig i:=by
  obtain⟨h1,h2⟩:=h
  simp only[IntKind.wrap_u64]
  by_cases hi:i<0
  · have e:i / 9223372036854775808 % 18446744073709551616=18446744073709551615:=by omega
    obtain⟨n,hn⟩:=Int.eq_ofNat_of_zero_le (show 0≤i % 18446744073709551616*2 % 18446744073709551616 by omega)
    rw[e,hn,joP n (by omega)]
    unfold zig;rw[if_pos hi];omega
  · have e:i / 9223372036854775808 % 18446744073709551616=0:=by omega
    obtain⟨n,hn⟩:=Int.eq_ofNat_of_zero_le (show 0≤i % 18446744073709551616*2 % 18446744073709551616 by omega)
    rw[e,hn,xor_zero n (by omega)]
    unfold zig;rw[if_neg hi];omega
def numF:Nat→Nat→List UInt8
  | 0,v=>[UInt8.ofNat v]
  | f+1,v=>if v<128 then[UInt8.ofNat v] else UInt8.ofNat (v % 128+128) :: numF f (v / 128)
def numB(v:Nat):List UInt8:=numF 9 v
def Fits(k v:Nat):Prop:=v<2 ^ (64 - 7*k)
theorem Fits.next{k v:Nat}(h:Fits k v)(hk:k≤9)(hv:128≤v):k+1≤9∧Fits (k+1) (v / 128):=by
  unfold Fits at *
  by_cases h9:k=9
  · subst h9;simp at h;omega
  · refine⟨by omega,?_⟩
    have e:64 - 7*k=(64 - 7*(k+1))+7:=by omega
    rw[e,Nat.pow_add]at h
    exact Nat.div_lt_of_lt_mul (by rw[Nat.mul_comm];simpa using h)
theorem jfF(f v:Nat)(h:128≤v):numF (f+1) v=UInt8.ofNat (v % 128+128) :: numF f (v / 128):=by simp only[numF];rw[if_neg (by omega)]
theorem jeC(f v:Nat)(h:v<128):numF f v=[UInt8.ofNat v]:=by cases f <;> simp[numF,h]
theorem joq(f v:Nat):(numF f v).length≤f+1∧1≤(numF f v).length:=by
  induction f generalizing v with
  | zero=>simp[numF]
  | succ f ih=>simp only[numF];split <;> simp;exact(ih _).1
theorem jaP(v:Nat):(numB v).length≤10∧1≤(numB v).length:=joq 9 v
theorem or128(v:Nat):bits BinOp.or IntKind.u8 ((v:Int) % 256) 128=((UInt8.ofNat (v % 128+128)).toNat:Int):=by
  have h:(v:Int) % 256=((v % 256:Nat):Int):=by omega
  rw[h]
  have hlt:v % 256<256:=Nat.mod_lt _ (by decide)
  have e:v % 128+128=v % 256 % 128+128:=by omega
  rw[e]
  generalize v % 256=m at hlt
  revert m
  decide +kernel
theorem jjS(l:List UInt8)(c:UInt8)(x:Int)(h:x=(c.toNat:Int)):l.map bv ++ [Value.int .u8 x]=(l ++ [c]).map bv:=by subst h;simp[bv]
theorem small8(v:Nat)(h:v<128):(v:Int)=((UInt8.ofNat v).toNat:Int):=by simp;omega
theorem jhb{α:Type}(l:List α)(c:α):(l ++ [c]).length=l.length+1:=by simp
theorem jlN(v:Nat)(w:World)(h1:Fits 0 v) :
    Calls Tryz.prog 28 #[.int .u64 v] w fun e w'=>∃a cap,e=.returned (.slice a (numB v).length cap)∧w'.ownsRow w.heap.size 5 1 (.slice a (numB v).length cap) (numB v).length ((numB v).map bv)∧Keep Nix w w':=by
  go_enter Tryz.func28,Tryz.ntmps28
  go_wp2
  go_loopw [0,3] (fun t b wr=>∃(v':Nat) (k:Nat) (l:List UInt8) (a:Option Addr) (cap:Nat),t=.int .u64 v'∧b=.slice a l.length cap∧Hid (l.length=k)∧k≤9∧Fits k v'∧Hid (numB v=l ++ numF (9 - k) v')∧
      wr.ownsRow w.heap.size 5 1 (.slice a l.length cap) l.length (l.map bv)∧Keep Nix w wr) (fun t _ _=>(intOf t).toNat)
  case atStart=>exact⟨v,0,[],_,_,rfl,rfl,rfl,by omega,h1,rfl,World.ownsRow_nil _ _ _ _,Keep.refl _ _⟩
  case round=>
    obtain⟨v',k,l,a,cap,rfl,rfl,hlk,hk,hf,hn,hown,hb⟩:=hrel
    go_wp2_with (first
      | (at_builtin;refine jgT T_bytes rfl (.tmp 8) (.tmp 12) rfl w.heap.size rfl hown rfl rfl ?c1 ?c2 ?c3 hb.size ?_)
      | (at_builtin;refine jgT T_bytes rfl (.tmp 14) (.tmp 17) rfl w.heap.size rfl hown rfl rfl ?d1 ?d2 ?d3 hb.size ?_))
    case c1 | d1=>simp[Value.oneCell']
    case c2 | d2=>have:=hlk.out;unfold maxLen;omega
    case c3 | d3=>have:=hlk.out;omega
    · intro a' cap' w' hown' hk'
      have hbig:128≤v':=by omega
      have hnew:∀i,OwnB (.slice a l.length cap) i→w.heap.size≤i:=fun i h=>(hown.lt i h).1
      clear hown
      go_wp2
      go_roundw
      case rel=>
        have hx:=hf.next hk hbig
        refine⟨v' / 128,k+1,l ++ [UInt8.ofNat (v' % 128+128)],a',cap',rfl,by simp,by simp[Hid,hlk.out],hx.1,hx.2,?_,?_,hb.then hk' ?_⟩
        · show numB v=_
          rw[hn.out,show 9 - k=(9 - (k+1))+1 by omega,jfF _ _ hbig,List.append_assoc];rfl
        · rw[jhb,←jjS _ _ _ (or128 v')];exact hown'
        · exact fun i hi h=>absurd (hnew i h) (by omega)
      case measure=>simp[intOf];omega
    · intro a' cap' w' hown' hk'
      have hnew:∀i,OwnB (.slice a l.length cap) i→w.heap.size≤i:=fun i h=>(hown.lt i h).1
      have hsm:v'<128:=by omega
      clear hown
      go_wp2
      go_ret
      have e:numB v=l ++ [UInt8.ofNat v']:=by rw[hn.out,jeC _ _ hsm]
      refine⟨a',cap',by rw[e,jhb];rfl,?_,hb.then hk' fun i hi h=>absurd (hnew i h) (by omega)⟩
      rw[e,jhb,←jjS _ _ _ (small8 v' hsm)];exact hown'
theorem jlB{z:Int}(h:jaw z):Fits 0 z.toNat:=by unfold jaw at h;unfold Fits;omega
theorem jfG(z:Int)(w:World)(h:jaw z) :
    Calls Tryz.prog 28 #[.int .u64 z] w fun e w'=>∃a cap,e=.returned (.slice a (numB z.toNat).length cap)∧w'.ownsRow w.heap.size 5 1 (.slice a (numB z.toNat).length cap) (numB z.toNat).length ((numB z.toNat).map bv)∧Keep Nix w w':=by
  have e:z=(z.toNat:Int):=by have:=h.1;omega
  have:=jlN z.toNat w (jlB h)
  rw[←e]at this
  exact this
theorem int_i(i:Int)(w:World)(h:jae i) :
    Calls Tryz.prog 173 #[.int .i64 i] w fun e w'=>∃a cap,e=.returned (.slice a (numB (zig i).toNat).length cap)∧w'.ownsRow w.heap.size 5 1 (.slice a (numB (zig i).toNat).length cap) (numB (zig i).toNat).length ((numB (zig i).toNat).map bv)∧Keep Nix w w':=by
  go_enter Tryz.func173,Tryz.ntmps173
  go_wp2_with fail
  rw[joR h]
  refine(jfG _ _ (jlw h)).mono ?_
  rintro e w1 ⟨a,cap,rfl,hown,hk⟩
  go_wp2
  go_ret
  exact⟨a,cap,rfl,hown,hk⟩
theorem jem{w:World}{base:Nat}{e sz:Nat}{a:Option Addr}{n m cap:Nat}{xs:List Value}(h:w.ownsRow base e sz (.slice a n cap) m xs)(hx:xs≠[]):∃b,a=some ⟨b,0,none⟩∧base≤b∧b<w.heap.size∧∀j u,xs[j]?=some u→w.cell? ⟨b,j,none⟩=some u:=by
  rcases h.2 with⟨h1,rfl⟩ | ⟨g,cap',cur,h1,hb,hg,_⟩
  · exact absurd (List.eq_nil_of_length_eq_zero (by simpa using h.1)) hx
  · cases h1
    refine⟨g,rfl,hb,(Array.getElem?_eq_some_iff.1 hg).1,fun j u hu=>?_⟩
    have:=h.cells (g:=g) rfl j u hu
    rw[Addr.add_lit,Nat.zero_add]at this
    exact this
def jas(l:List UInt8):List UInt8:=numB l.length ++ l
theorem jkp{p:Nat→Prop}(a:Option Addr)(n ca:Nat)(l:List UInt8)(w:World)(hn:l.length=n)(ha:Lies w p a (l.map bv))(hr:n≤140737488351232) :
    Calls Tryz.prog 29 #[.slice a n ca] w fun e w'=>∃a' cap',e=.returned (.slice a' (jas l).length cap')∧w'.ownsRow w.heap.size 5 1 (.slice a' (jas l).length cap') (jas l).length ((jas l).map bv)∧Keep Nix w w':=by
  subst hn
  go_enter Tryz.func29,Tryz.ntmps29
  go_wp2_with fail
  refine(jfG _ _ (by unfold jaw;omega)).mono ?_
  rintro e w1 ⟨a1,cap1,rfl,own1,k1⟩
  have hlen:=(jaP l.length).1
  rw[Int.toNat_natCast]at own1 ⊢
  go_wp2_with (at_builtin;refine jcy T_bytes rfl (.tmp 6) (.tmp 7) rfl w.heap.size rfl own1 (l.map bv) rfl (by simp) (ha.keep k1 (fun _ _ h=>h)) (jdW l) (by unfold maxLen;omega) (by omega) k1.size ?_)
  intro a' cap' w2 own2 hg
  have kk:=k1.grown hg (fun k hk hlt=>absurd (own1.lt k hk).1 (by omega))
  clear own1 hg k1 hlen
  go_wp2
  go_ret
  have e:(jas l).length=(numB l.length).length+l.length:=by simp[jas]
  refine⟨a',cap',by rw[e];rfl,?_,kk⟩
  rw[e,jas,List.map_append];exact own2
section
structure Wr(w:World)(T:TypeId)(r:Nat)(g:Option Nat)(out:List UInt8)(p:Nat→Prop):Prop where
  row:∃a cap,RowIs w r T [.slice a out.length cap]∧w.ownsRow 0 5 1 (.slice a out.length cap) out.length (out.map bv)∧(Value.slice a out.length cap).ownBlock=g
  ne:g≠some r
  hp:∀b,p b→b<w.heap.size∧b≠r∧g≠some b
def WS(r:Nat)(g:Option Nat):Nat→Prop:=fun b=>b=r∨g=some b
structure Chain(r:Nat)(w:World)(g:Option Nat)(w':World)(g':Option Nat):Prop where
  keep:Keep (WS r g) w w'
  new:∀b,g'=some b→g=some b∨w.heap.size≤b
theorem Chain.refl(r:Nat)(w:World)(g:Option Nat):Chain r w g w g:=⟨Keep.refl _ _,fun _ h=>.inl h⟩
theorem Chain.trans{r:Nat}{w1 w2 w3:World}{g1 g2 g3:Option Nat}(h:Chain r w1 g1 w2 g2)(k:Chain r w2 g2 w3 g3):Chain r w1 g1 w3 g3:=
  ⟨h.keep.then k.keep (fun i hi hs=>by
    rcases hs with hs | hs
    · exact .inl hs
    · rcases h.new i hs with h1 | h1
      · exact .inr h1
      · omega),
   fun b hb=>by
    rcases k.new b hb with h1 | h1
    · exact h.new b h1
    · exact .inr (Nat.le_trans h.keep.size h1)⟩
theorem Chain.alloc{r:Nat}{w1 w2:World}{g1 g2:Option Nat}(h:Chain r w1 g1 w2 g2)(o:Obj):Chain r w1 g1 (w2.alloc o) g2:=⟨h.keep.alloc o,h.new⟩
theorem Chain.nix{r:Nat}{w1 w2 w3:World}{g1 g2:Option Nat}(h:Chain r w1 g1 w2 g2)(k:Keep Nix w2 w3):Chain r w1 g1 w3 g2:=⟨h.keep.trans k.nix,h.new⟩
section
variable {w w' : World} {T : TypeId} {r : Nat} {g g' : Option Nat} {out : List UInt8} {p q : Nat → Prop}
theorem Wr.free(h:Wr w T r g out p):∀b,p b→¬WS r g b:=fun b hb hs=>by
  obtain⟨-,h1,h2⟩:=h.hp b hb
  rcases hs with hs | hs
  · exact h1 hs
  · exact h2 hs
theorem Wr.lt(h:Wr w T r g out p):r<w.heap.size:=by obtain⟨a,cap,h1,-⟩:=h.row;exact h1.lt
theorem Wr.mono(h:Wr w T r g out p)(hq:∀b,q b→p b):Wr w T r g out q:=⟨h.row,h.ne,fun b hb=>h.hp b (hq b hb)⟩
theorem Wr.keep(h:Wr w T r g out p){S:Nat→Prop}(k:Keep S w w')(h1:¬S r)(h2:∀b,g=some b→¬S b):Wr w' T r g out p:=by
  obtain⟨a,cap,e1,e2,e3⟩:=h.row
  exact⟨⟨a,cap,e1.keep k h1,jad e2 k (fun b hb=>h2 b (e3.symm.trans hb)),e3⟩,h.ne,fun b hb=>⟨Nat.lt_of_lt_of_le (h.hp b hb).1 k.size,(h.hp b hb).2⟩⟩
theorem Wr.glt(h:Wr w T r g out p):∀b,g=some b→b<w.heap.size:=by
  obtain⟨a,cap,-,e2,e3⟩:=h.row
  exact fun b hb=>(e2.lt b (e3.trans hb)).2
theorem Wr.cell(h:Wr w T r g out p):∃a cap,w.cell? ⟨r,0,none⟩=some (.slice a out.length cap)∧w.frozen? ⟨r,0,none⟩=false∧w.ownsRow 0 5 1 (.slice a out.length cap) out.length (out.map bv)∧(Value.slice a out.length cap).ownBlock=g∧RowIs w r T [.slice a out.length cap]:=by
  obtain⟨a,cap,e1,e2,e3⟩:=h.row
  exact⟨a,cap,e1.cell 0,e1.frozen 0,e2,e3,e1⟩
theorem Wr.grow(h:Wr w T r g out p){S:Nat→Prop}(k:Keep S w w')(h1:¬S r)(h2:∀b,g=some b→¬S b)(hq:∀b,q b→b<w'.heap.size∧(p b∨w.heap.size≤b)):Wr w' T r g out q:=by
  refine⟨(h.keep k h1 h2).row,h.ne,fun b hb=>?_⟩
  obtain⟨h3,h4⟩:=hq b hb
  have hr:=h.lt
  rcases h4 with h4 | h4
  · exact⟨h3,(h.hp b h4).2⟩
  · exact⟨h3,by omega,fun e=>by have:=h.glt b e;omega⟩
theorem Wr.new(w:World)(T:TypeId)(p:Nat→Prop)(hp:∀b,p b→b<w.heap.size):Wr (w.alloc (.cells #[.slice none 0 0] T)) T w.heap.size none [] p:=by
  refine⟨⟨none,0,RowIs.alloc w _ T,⟨rfl,.inl ⟨rfl,rfl⟩⟩,rfl⟩,(fun h=>nomatch h),fun b hb=>?_⟩
  have:=hp b hb
  exact⟨by simp;omega,by omega,(fun h=>nomatch h)⟩
end
def Puts(T:TypeId)(r:Nat)(p:Nat→Prop)(w:World)(g:Option Nat)(out:List UInt8)(e:Ending)(w':World):Prop:=e=.returned (.tuple #[])∧∃g',Wr w' T r g' out p∧Chain r w g w' g'
theorem jnR{P:Program}{src dst e:TypeId}(hs:P.underlying src=some .string)(hd:P.underlying dst=some (.slice e))(he:P.underlying e=some (.int .u8))(w:World)(l:List UInt8) :
    ∃w1 cap,(convert src dst (.string (strB l))).run P w=.ok (.slice (some ⟨w.heap.size,0,none⟩) l.length cap) w1∧Keep Nix w w1∧Lies w1 (·=w.heap.size) (some ⟨w.heap.size,0,none⟩) (l.map bv)∧w1.heap.size=w.heap.size+1:=by
  refine⟨_,_,by rw[run_bytes_of_string w src dst e (strB l) hs hd he,jiM],?_,?_,by simp⟩
  · exact((Keep.refl _ _).same (c:=w.drew)).alloc _
  · intro _
    refine⟨w.heap.size,0,rfl,rfl,by simp,fun j u hu=>?_⟩
    rw[Nat.zero_add,cell_of_row _ w.heap.size j _ e _ (by rw[show w.heap.size=w.drew.heap.size from rfl];exact heap_alloc_new _ _)]
    have hj:=(List.getElem?_eq_some_iff.1 hu).1
    rw[List.length_map]at hj
    simp only[bytesRow,strB]
    rw[Array.getElem?_append_left (by simpa using hj)]
    simp only[List.map_toArray,List.getElem?_toArray]
    rw[←hu]
    rfl
/-! ### the bytes -/
abbrev encI(i:Int):List UInt8:=numB (zig i).toNat
abbrev encU(i:Int):List UInt8:=numB i.toNat
abbrev encF(b:Bool):List UInt8:=numB (if b then 1 else 0)
def encL{α:Type}(f:α→List UInt8)(l:List α):List UInt8:=numB l.length ++ l.flatMap f
theorem jbI(i:Int):(encI i).length≤10:=(jaP _).1
theorem jjH(i:Int):(encU i).length≤10:=(jaP _).1
theorem jf8(b:Bool):(encF b).length≤10:=(jaP _).1
theorem jd0(l:List UInt8):(jas l).length≤10*(l.length+1):=by
  have:=(jaP l.length).1
  simp only[jas,List.length_append];omega
theorem jdv{α:Type}(f:α→List UInt8)(s:α→Nat)(h:∀x,(f x).length≤10*s x)(l:List α):(encL f l).length≤10*jbF s l:=by
  have h1:=(jaP l.length).1
  have h2:(l.flatMap f).length≤10*(l.map s).sum:=by
    clear h1
    induction l with
    | nil=>simp
    | cons x l ih=>have:=h x;simp only[List.flatMap_cons,List.length_append,List.map_cons,List.sum_cons];omega
  simp only[encL,List.length_append,jbF];omega
end
def jaK(x:GColumn):List UInt8:=jas x.fName ++ encI x.fKind ++ encF x.fNull
theorem jib(x:GColumn):(jaK x).length≤10*x.size:=by
 simp only[jaK,List.length_append,GColumn.size]
 have h0:=jd0 x.fName
 have h1:=jbI x.fKind
 have h2:=jf8 x.fNull
 omega
def jaN(x:GTable):List UInt8:=encI x.fID ++ jas x.fName ++ encL jaK x.fColumns ++ encL encI x.fKey
theorem jiU(x:GTable):(jaN x).length≤10*x.size:=by
 simp only[jaN,List.length_append,GTable.size]
 have h0:=jbI x.fID
 have h1:=jd0 x.fName
 have h2:=jdv jaK GColumn.size (jib) x.fColumns
 have h3:=jdv encI (fun _=>1) (fun x=>by have:=jbI x;omega) x.fKey
 omega
def jaM(x:GIndex):List UInt8:=encI x.fID ++ encI x.fTable ++ jas x.fName ++ encL encI x.fColumns ++ encF x.fUnique ++ encI x.fState ++ encF x.fBad
theorem jiR(x:GIndex):(jaM x).length≤10*x.size:=by
 simp only[jaM,List.length_append,GIndex.size]
 have h0:=jbI x.fID
 have h1:=jbI x.fTable
 have h2:=jd0 x.fName
 have h3:=jdv encI (fun _=>1) (fun x=>by have:=jbI x;omega) x.fColumns
 have h4:=jf8 x.fUnique
 have h5:=jbI x.fState
 have h6:=jf8 x.fBad
 omega
def jaq(x:GCatalog):List UInt8:=encI x.fVersion ++ encI x.fNext ++ encL jaN x.fTables ++ encL jaM x.fIndexes
theorem jdY(x:GCatalog):(jaq x).length≤10*x.size:=by
 simp only[jaq,List.length_append,GCatalog.size]
 have h0:=jbI x.fVersion
 have h1:=jbI x.fNext
 have h2:=jdv jaN GTable.size (jiU) x.fTables
 have h3:=jdv jaM GIndex.size (jiR) x.fIndexes
 omega
def jaX(x:GPair):List UInt8:=jas x.fKey ++ jas x.fValue ++ encI x.fVersion
theorem jjG(x:GPair):(jaX x).length≤10*x.size:=by
 simp only[jaX,List.length_append,GPair.size]
 have h0:=jd0 x.fKey
 have h1:=jd0 x.fValue
 have h2:=jbI x.fVersion
 omega
def jaQ(x:GOwner):List UInt8:=encI x.fGroup ++ jas x.fFrom
theorem jiS(x:GOwner):(jaQ x).length≤10*x.size:=by
 simp only[jaQ,List.length_append,GOwner.size]
 have h0:=jbI x.fGroup
 have h1:=jd0 x.fFrom
 omega
def jbV(x:GRoutes):List UInt8:=encI x.fEpoch ++ encI x.fBase ++ encL jaQ x.fSpans ++ encI x.fMoving ++ jas x.fCut
theorem jic(x:GRoutes):(jbV x).length≤10*x.size:=by
 simp only[jbV,List.length_append,GRoutes.size]
 have h0:=jbI x.fEpoch
 have h1:=jbI x.fBase
 have h2:=jdv jaQ GOwner.size (jiS) x.fSpans
 have h3:=jbI x.fMoving
 have h4:=jd0 x.fCut
 omega
def ja5(x:GReply):List UInt8:=encI x.fErr ++ encU x.fTxn ++ encI x.fN ++ encF x.fFlag ++ encL jaX x.fPairs ++ encL encU x.fTxns ++ jaq x.fCatalog ++ jbV x.fRoutes
theorem jiT(x:GReply):(ja5 x).length≤10*x.size:=by
 simp only[ja5,List.length_append,GReply.size]
 have h0:=jbI x.fErr
 have h1:=jjH x.fTxn
 have h2:=jbI x.fN
 have h3:=jf8 x.fFlag
 have h4:=jdv jaX GPair.size (jjG) x.fPairs
 have h5:=jdv encU (fun _=>1) (fun x=>by have:=jjH x;omega) x.fTxns
 have h6:=jdY x.fCatalog
 have h7:=jic x.fRoutes
 omega
theorem Wr.put{w w1 w2:World}{T:TypeId}{r:Nat}{g:Option Nat}{out news:List UInt8}{p:Nat→Prop}{a:Option Addr}{cap cap2 gg n:Nat}(h:Wr w T r g out p)(hn:out.length+news.length=n)
    (row:RowIs w r T [.slice a out.length cap]) (hg:(Value.slice a out.length cap).ownBlock=g) (k1:Keep Nix w w1)
    (own2:w2.ownsRow 0 5 1 (.slice (some ⟨gg,0,none⟩) n cap2) n (out.map bv ++ news.map bv))
    (hgrow:w1.grownBy w2 (Value.slice a out.length cap).ownBlock) (hat:(Value.slice a out.length cap).ownBlock=some gg∨gg=w1.heap.size) :
    ∃g',Wr (w2.setCell ⟨r,0,none⟩ (.slice (some ⟨gg,0,none⟩) n cap2)) T r g' (out ++ news) p∧Chain r w g (w2.setCell ⟨r,0,none⟩ (.slice (some ⟨gg,0,none⟩) n cap2)) g':=by
  subst hn
  rw[hg]at hgrow hat
  have hr:=h.lt
  have hne:gg≠r:=by
    rcases hat with e | e
    · intro e';subst e';exact h.ne e
    · have:=k1.size;omega
  have k2:Keep (fun b=>g=some b) w w2:=k1.nix.grown hgrow (fun b hb _=>hb)
  have row2:=(row.keep k2 (fun e=>h.ne e)).set 0 (.slice (some ⟨gg,0,none⟩) (out.length+news.length) cap2)
  have kset:Keep (·=r) w2 (w2.setCell ⟨r,0,none⟩ (.slice (some ⟨gg,0,none⟩) (out.length+news.length) cap2)):=Keep.setCell (S:=(·=r)) (p:=⟨r,0,none⟩) (Keep.refl _ _) (fun _=>rfl) _
  refine⟨some gg,⟨⟨some ⟨gg,0,none⟩,cap2,by simpa using row2,?_,rfl⟩,fun e=>hne (by cases e;rfl),fun b hb=>?_⟩,⟨k2.mono (fun _ e=>.inr e) |>.then kset (fun i _ e=>.inl e),fun b hb=>?_⟩⟩
  · have:=jad own2 kset (fun b hb e=>by cases hb;exact hne e)
    rw[List.length_append,List.map_append];exact this
  · obtain⟨h1,h2,h3⟩:=h.hp b hb
    have:=k2.size
    refine⟨by simpa [World.setCell] using by omega,h2,fun e=>?_⟩
    cases e
    rcases hat with e | e
    · exact h3 e
    · have:=k1.size;omega
  · cases hb
    rcases hat with e | e
    · exact .inl e
    · have:=k1.size;exact .inr (by omega)
theorem Addr.add_lit0(b j:Nat):(⟨b,0,none⟩:Addr).add j=⟨b,j,none⟩:=by rw[Addr.add_lit,Nat.zero_add]
theorem jgt(w:World)(r:Nat)(g:Option Nat)(out:List UInt8)(p:Nat→Prop)(v:Int)(hw:Wr w 141 r g out p)(hv:jaw v)(hb:out.length+(numB v.toNat).length≤far) :
    Calls Tryz.prog 94 #[.pointer (some ⟨r,0,none⟩),.int .u64 v] w (Puts 141 r p w g (out ++ numB v.toNat)):=by
  obtain⟨a,cap,hc,hf,own,hg,row⟩:=hw.cell
  have HB:Hid (out.length+(numB v.toNat).length≤far):=hb
  have hpos:0<(numB v.toNat).length:=by have:=jaP (v.toNat);omega
  have hne1:(numB v.toNat).map bv≠[]:=by intro e;rw[List.map_eq_nil_iff]at e;rw[e]at hpos;simp at hpos
  have hne0:some r≠(Value.slice a out.length cap).ownBlock:=by rw[hg];exact fun e=>hw.ne e.symm
  obtain⟨i0,z0,hi0,hz0,hz1,hz2,hz3⟩:=T_bytes.info
  clear hb
  go_enter Tryz.func94,Tryz.ntmps94
  go_wp2_with fail
  go_region_law (first
    | (refine step_append_lies _ (by rfl) _ _ _ (by rfl) 0 _ i0 _ 1 1 Tryz.underlying30 hi0 hz0 hz1 hz2 hz3 (by omega) _ _ _ (by rfl) own1' _ _ _ ((numB v.toNat).map bv) (by rfl) (by simp) hb2 (jdW _)
        hpos (by have:=HB.out;have:=far_len;omega) (by have:=HB.out;have:=far_len;omega) (by omega) _ rfl ?_;intro gg cap2 w2 own2 hgrow hat hlt;have hc2:=(hgrow.cell_far ⟨r,0,none⟩ hlt1 hne0).trans hc1;have hf2:=(hgrow.frozen_far ⟨r,0,none⟩ hlt1 hne0).trans hf1)
    | (go_simp;go_at_call 28;go_fit (jfG v _ hv);rintro e w1 ⟨a1,c1,rfl,own1,k0⟩;have k1:=(Keep.same (Keep.refl Nix w) (c:=w.drew)).trans k0;clear k0
       obtain⟨b1,rfl,hb1⟩:=jem own1 hne1
       have hb2:∀j u,((numB v.toNat).map bv)[j]?=some u→w1.cell? ((⟨b1,0,none⟩:Addr).add j)=some u:=fun j u hu=>by rw[Addr.add_lit0];exact hb1.2.2 j u hu
       clear hb1
       have own1':=jad own k1 (fun _ _=>id);have hlt1:=Nat.lt_of_lt_of_le hw.lt k1.size;have hc1:=(k1.cell (p:=⟨r,0,none⟩) hw.lt id).trans hc;have hf1:=(k1.frozen (p:=⟨r,0,none⟩) hw.lt id).trans hf
       go_wp2))
  all_goals
    obtain⟨g',wr',ch'⟩:=hw.put rfl row hg k1 own2 hgrow hat
    clear own2 own1 own hgrow hat hb2 k1 row hw hc hf own1'
    go_wp2
    go_end0
    exact⟨rfl,g',wr',ch'⟩
theorem jfe(w:World)(r:Nat)(g:Option Nat)(out:List UInt8)(p:Nat→Prop)(a0:Option Addr)(n ca:Nat)(l:List UInt8)(hw:Wr w 141 r g out p)(hn:l.length=n)(ha:Lies w p a0 (l.map bv))(hr:n≤140737488351232)(hb:out.length+(jas l).length≤far) :
    Calls Tryz.prog 154 #[.pointer (some ⟨r,0,none⟩),.slice a0 n ca] w (Puts 141 r p w g (out ++ jas l)):=by
  obtain⟨a,cap,hc,hf,own,hg,row⟩:=hw.cell
  have HB:Hid (out.length+(jas l).length≤far):=hb
  have hpos:0<(jas l).length:=by have:=jaP l.length;simp only[jas,List.length_append];omega
  have hne1:(jas l).map bv≠[]:=by intro e;rw[List.map_eq_nil_iff]at e;rw[e]at hpos;simp at hpos
  have hne0:some r≠(Value.slice a out.length cap).ownBlock:=by rw[hg];exact fun e=>hw.ne e.symm
  obtain⟨i0,z0,hi0,hz0,hz1,hz2,hz3⟩:=T_bytes.info
  clear hb
  go_enter Tryz.func154,Tryz.ntmps154
  go_wp2_with fail
  go_region_law (first
    | (refine step_append_lies _ (by rfl) _ _ _ (by rfl) 0 _ i0 _ 1 1 Tryz.underlying30 hi0 hz0 hz1 hz2 hz3 (by omega) _ _ _ (by rfl) own1' _ _ _ ((jas l).map bv) (by rfl) (by simp) hb2 (jdW _)
        hpos (by have:=HB.out;have:=far_len;omega) (by have:=HB.out;have:=far_len;omega) (by omega) _ rfl ?_;intro gg cap2 w2 own2 hgrow hat hlt;have hc2:=(hgrow.cell_far ⟨r,0,none⟩ hlt1 hne0).trans hc1;have hf2:=(hgrow.frozen_far ⟨r,0,none⟩ hlt1 hne0).trans hf1)
    | (go_simp;go_at_call 29;go_fit (jkp a0 n ca l _ hn (ha.same (w':=w.drew)) hr);rintro e w1 ⟨a1,c1,rfl,own1,k0⟩;have k1:=(Keep.same (Keep.refl Nix w) (c:=w.drew)).trans k0;clear k0
       obtain⟨b1,rfl,hb1⟩:=jem own1 hne1
       have hb2:∀j u,((jas l).map bv)[j]?=some u→w1.cell? ((⟨b1,0,none⟩:Addr).add j)=some u:=fun j u hu=>by rw[Addr.add_lit0];exact hb1.2.2 j u hu
       clear hb1
       have own1':=jad own k1 (fun _ _=>id);have hlt1:=Nat.lt_of_lt_of_le hw.lt k1.size;have hc1:=(k1.cell (p:=⟨r,0,none⟩) hw.lt id).trans hc;have hf1:=(k1.frozen (p:=⟨r,0,none⟩) hw.lt id).trans hf
       go_wp2))
  all_goals
    obtain⟨g',wr',ch'⟩:=hw.put rfl row hg k1 own2 hgrow hat
    clear own2 own1 own hgrow hat hb2 k1 row hw hc hf own1'
    go_wp2
    go_end0
    exact⟨rfl,g',wr',ch'⟩
theorem jgA(w:World)(r:Nat)(g:Option Nat)(out:List UInt8)(p:Nat→Prop)(v:Bool)(hw:Wr w 141 r g out p)(hb:out.length+(encF v).length≤far) :
    Calls Tryz.prog 95 #[.pointer (some ⟨r,0,none⟩),.bool v] w (Puts 141 r p w g (out ++ encF v)):=by
  cases v
  · go_enter Tryz.func95,Tryz.ntmps95
    go_wp2_with fail
    go_fit (jgt w r g out p 0 hw (by unfold jaw;omega) hb)
    rintro e w1 ⟨rfl,g1,wr1,ch1⟩
    go_wp2
    go_end0
    exact⟨rfl,g1,wr1,ch1⟩
  · go_enter Tryz.func95,Tryz.ntmps95
    go_wp2_with fail
    go_fit (jgt w r g out p 1 hw (by unfold jaw;omega) hb)
    rintro e w1 ⟨rfl,g1,wr1,ch1⟩
    go_wp2
    go_end0
    exact⟨rfl,g1,wr1,ch1⟩
theorem jit(w:World)(r:Nat)(g:Option Nat)(out:List UInt8)(p:Nat→Prop)(l:List UInt8)(hw:Wr w 141 r g out p)(hr:l.length≤far)(hb:out.length+(jas l).length≤far) :
    Calls Tryz.prog 174 #[.pointer (some ⟨r,0,none⟩),.string (strB l)] w (Puts 141 r p w g (out ++ jas l)):=by
  obtain⟨w1,cap,hcv,k1,hl,hs⟩:=jnR (P:=Tryz.prog) Tryz.underlying9 Tryz.underlying30 Tryz.underlying5 w l
  have hw1:Wr w1 141 r g out (fun b=>p b∨b=w.heap.size):=hw.grow k1 id (fun _ _=>id) (fun b hb=>by
    rcases hb with hb | rfl
    · exact⟨Nat.lt_of_lt_of_le (hw.hp b hb).1 k1.size,.inl hb⟩
    · exact⟨by omega,.inr (Nat.le_refl _)⟩)
  have ch1:Chain r w g w1 g:=(Chain.refl r w g).nix k1
  have hl':=hl.mono (q:=fun b=>p b∨b=w.heap.size) (fun b hb=>.inr hb)
  have HR:=Lib.hid hr
  have HB:=Lib.hid hb
  clear hr hb hl hs k1 hw
  go_enter Tryz.func174,Tryz.ntmps174
  go_wp2_with fail
  go_fit (jfe w1 r g out _ _ l.length cap l hw1 rfl hl' (by have:=HR.out;have:=far_len;omega) HB.out)
  rintro e w2 ⟨rfl,g2,wr2,ch2⟩
  have wr3:=wr2.mono (q:=p) (fun b hb=>.inl hb)
  have ch3:=ch1.trans ch2
  clear wr2 ch2 ch1 hw1 hl' hcv
  go_wp2
  go_end0
  exact⟨rfl,g2,wr3,ch3⟩
theorem jgk{k:IntKind}{w w':World}{p:Nat→Prop}{a:Option Addr}{n cap:Nat}{l:List Int}{S:Nat→Prop}(h:jap (rInt k) w p [.slice a n cap] l)(kk:Keep S w w')(hp:∀b,p b→¬S b)(i:Nat)(hi:i<l.length) :
    ∃b off,a=some ⟨b,off,none⟩∧w'.cell? ⟨b,off+i,none⟩=some (.int k l[i])∧(Lit.int k l[i]).wf=true:=by
  obtain⟨b,off,cap',c,h1,h2,h3,⟨rfl,h4⟩,h5⟩:=jaY (jab k) (by decide) h i hi
  simp only[List.cons.injEq,Value.slice.injEq,and_true]at h1
  have:=h5 0 _ rfl
  rw[Nat.mul_one,Nat.add_zero]at this
  exact⟨b,off,h1.1,(kk.cell (p:=⟨b,off+i,none⟩) h3 (hp b h2)).trans this,h4⟩
theorem jcI{α:Type}(f:α→List UInt8)(l:List α)(k:Nat)(h:k<l.length):(l.take (k+1)).flatMap f=(l.take k).flatMap f ++ f l[k]:=by
  rw[List.take_succ_eq_append_getElem h,List.flatMap_append];simp
theorem jcg{α:Type}(f:α→List UInt8)(l:List α)(k:Nat)(h:k<l.length):((l.take k).flatMap f).length+(f l[k]).length≤(l.flatMap f).length:=by
  conv=>rhs;rw[←List.take_append_drop (k+1) l]
  rw[List.flatMap_append,jcI f l k h];simp only[List.length_append];omega
theorem jgB(w:World)(r:Nat)(g:Option Nat)(out0:List UInt8)(p:Nat→Prop)(a0:Option Addr)(n ca:Nat)(l:List Int)(hl:jap (rInt .i64) w p [.slice a0 n ca] l)(hw:Wr w 141 r g out0 p)(hb:out0.length+(l.flatMap encI).length≤far) :
    Calls Tryz.prog 115 #[.pointer (some ⟨r,0,none⟩),.slice a0 n ca] w (Puts 141 r p w g (out0 ++ l.flatMap encI)):=by
  obtain⟨hn,hnc,hnf⟩:=ja0 hl
  have hnm:n≤9223372036854775807:=by have:=far_len;unfold maxLen at this;omega
  have HB:=Lib.hid hb
  have HF:=Lib.hid hnf
  have HN:=Lib.hid hn
  clear hb hnf hn
  go_enter Tryz.func115,Tryz.ntmps115
  go_wp2_with fail
  go_loopw [8] (fun i wr=>∃(k:Nat) (g':Option Nat),k≤n∧i=.int .i64 k∧Wr wr 141 r g' (out0 ++ (l.take k).flatMap encI) p∧Chain r w g wr g') (fun i _=>n - (intOf i).toNat)
  case atStart=>exact⟨0,g,by omega,rfl,by simpa using hw,Chain.refl _ _ _⟩
  case round=>
    obtain⟨k,gk,hk,rfl,wk,ck⟩:=hrel
    by_cases hlt:k<n
    · have hll:k<l.length:=by rw[←HN.out];exact hlt
      obtain⟨b,off,rfl,hcell,hv0⟩:=jgk hl ck.keep hw.free k hll
      have hv:=jaO hv0
      have hst:=jcI encI l k hll
      have hbk:(out0 ++ (l.take k).flatMap encI).length+(numB (zig l[k]).toNat).length≤far:=by
        have h1:=jcg encI l k hll
        have h2:=HB.out
        simp only[List.length_append];unfold encI at h1 ⊢;unfold encI at h2;omega
      have hst':out0 ++ (l.take (k+1)).flatMap encI=out0 ++ (l.take k).flatMap encI ++ numB (zig l[k]).toNat:=by rw[hst,List.append_assoc];try rfl
      have HS:=Lib.hid hst'
      clear hst hst' hv0
      generalize l[k]=v at hcell hv hbk HS
      generalize hout:out0 ++ (l.take k).flatMap encI=out at wk hbk HS
      clear hout
      obtain⟨a,cap,hc,hf,own,hg,row⟩:=wk.cell
      have HB:Hid (out.length+(numB (zig v).toNat).length≤far):=hbk
      have hpos:0<(numB (zig v).toNat).length:=by have:=jaP (zig v).toNat;omega
      have hne1:(numB (zig v).toNat).map bv≠[]:=by intro e;rw[List.map_eq_nil_iff]at e;rw[e]at hpos;simp at hpos
      have hne0:some r≠(Value.slice a out.length cap).ownBlock:=by rw[hg];exact fun e=>wk.ne e.symm
      obtain⟨i0,z0,hi0,hz0,hz1,hz2,hz3⟩:=T_bytes.info
      have HV:=Lib.hid hv
      have hi1:IntKind.i64.wrap v=v:=by rw[IntKind.wrap_i64];have:=HV.out;unfold jae at this;omega
      clear hbk hv hl
      go_wp2_with fail
      go_region_law (first
        | (refine step_append_lies _ (by rfl) _ _ _ (by rfl) 0 _ i0 _ 1 1 Tryz.underlying30 hi0 hz0 hz1 hz2 hz3 (by omega) _ _ _ (by rfl) own1' _ _ _ ((numB (zig v).toNat).map bv) (by rfl) (by simp) hb2 (jdW _)
            hpos (by have:=HB.out;have:=far_len;omega) (by have:=HB.out;have:=far_len;omega) (by omega) _ rfl ?_;intro gg cap2 w2 own2 hgrow hat hlt;have hc2:=(hgrow.cell_far ⟨r,0,none⟩ hlt1 hne0).trans hc1;have hf2:=(hgrow.frozen_far ⟨r,0,none⟩ hlt1 hne0).trans hf1)
        | (go_simp;go_at_call 173;go_fit (int_i v _ HV.out);rintro e w1 ⟨a1,c1,rfl,own1,k0⟩;have k1:=(Keep.same (Keep.refl Nix wr) (c:=wr.drew)).trans k0;clear k0
           obtain⟨b1,rfl,hb1⟩:=jem own1 hne1
           have hb2:∀j u,((numB (zig v).toNat).map bv)[j]?=some u→w1.cell? ((⟨b1,0,none⟩:Addr).add j)=some u:=fun j u hu=>by rw[Addr.add_lit0];exact hb1.2.2 j u hu
           clear hb1
           have own1':=jad own k1 (fun _ _=>id);have hlt1:=Nat.lt_of_lt_of_le wk.lt k1.size;have hc1:=(k1.cell (p:=⟨r,0,none⟩) wk.lt id).trans hc;have hf1:=(k1.frozen (p:=⟨r,0,none⟩) wk.lt id).trans hf
           go_wp2))
      all_goals
        obtain⟨g',wr',ch'⟩:=wk.put rfl row hg k1 own2 hgrow hat
        clear own2 own1 own hgrow hat hb2 k1 row wk hc hf own1'
        go_wp2
        go_roundw
        case rel=>exact⟨k+1,g',by omega,by go_num,by rw[HS.out];exact wr',ck.trans ch'⟩
        case measure=>simp[intOf];omega
    · obtain rfl:k=n:=by omega
      have e:l.take k=l:=List.take_of_length_le (by rw[←HN.out];omega)
      rw[e]at wk
      go_wp2_with fail
      go_end0
      exact⟨rfl,gk,wk,ck⟩
theorem jn3(w:World)(r:Nat)(g:Option Nat)(out:List UInt8)(p:Nat→Prop)(v:Int)(hw:Wr w 141 r g out p)(hv:jae v)(hb:out.length+(numB (zig v).toNat).length≤far) :
    Calls Tryz.prog 93 #[.pointer (some ⟨r,0,none⟩),.int .i64 v] w (Puts 141 r p w g (out ++ numB (zig v).toNat)):=by
  have k1:Keep Nix w (w.alloc (.cells #[.int .i64 v] 3)):=(Keep.refl _ _).alloc _
  have hw1:Wr (w.alloc (.cells #[.int .i64 v] 3)) 141 r g out (fun b=>p b∨b=w.heap.size):=hw.grow k1 id (fun _ _=>id) (fun b hb=>by
    rcases hb with hb | rfl
    · exact⟨Nat.lt_of_lt_of_le (hw.hp b hb).1 k1.size,.inl hb⟩
    · exact⟨by simp,.inr (Nat.le_refl _)⟩)
  have ch1:Chain r w g (w.alloc (.cells #[.int .i64 v] 3)) g:=(Chain.refl r w g).nix k1
  have hl:jap (rInt .i64) (w.alloc (.cells #[.int .i64 v] 3)) (fun b=>p b∨b=w.heap.size) [.slice (some ⟨w.heap.size,0,none⟩) 1 1] [v]:=by
    refine⟨_,1,[[.int .i64 v]],rfl,rfl,Lies.block w #[.int .i64 v] _ _ (.inr rfl),Nat.le_refl _,(show 1≤far by decide),fun i c x hc hx=>?_⟩
    match i,hc,hx with
    | 0,hc,hx=>
      simp at hc hx;subst hc hx
      refine⟨rfl,?_⟩
      exact Go.WalkArith.wf_i64 hv
  have HB:Hid (out.length+([v].flatMap encI).length≤far):=by
    show _≤_
    simpa [encI] using hb
  clear hb hv k1 hw
  go_enter Tryz.func93,Tryz.ntmps93
  go_wp2_with fail
  go_fit (jgB _ r g out _ _ 1 1 [v] hl hw1 HB.out)
  rintro e w2 ⟨rfl,g2,wr2,ch2⟩
  have wr3:=wr2.mono (q:=p) (fun b hb=>.inl hb)
  have ch3:=ch1.trans ch2
  rw[show[v].flatMap encI=numB (zig v).toNat by simp[encI]]at wr3
  clear wr2 ch2 ch1 hw1 hl
  go_wp2
  go_end0
  exact⟨rfl,g2,wr3,ch3⟩
section
def PB(p:Nat→Prop)(n:Nat):Nat→Prop:=fun b=>p b∨b=n
theorem PB.of{p:Nat→Prop}{n:Nat}:∀b,p b→PB p n b:=fun _ h=>.inl h
theorem Wr.box{w:World}{T:TypeId}{r:Nat}{g:Option Nat}{out:List UInt8}{p:Nat→Prop}(h:Wr w T r g out p)(o:Obj):Wr (w.alloc o) T r g out (PB p w.heap.size):=
 h.grow ((Keep.refl Nix w).alloc o) id (fun _ _=>id) (fun b hb=>by
  rcases hb with hb | rfl
  ·have:=(h.hp b hb).1
   exact⟨by simp;omega,.inl hb⟩
  ·exact⟨by simp,.inr (Nat.le_refl _)⟩)
theorem Lawful.box{α:Type}{R:RD α}{sz:Nat}(L:Lawful R sz){w:World}{p:Nat→Prop}{cs:List Value}{x:α}(h:R w p cs x)(o:Obj):R (w.alloc o) (PB p w.heap.size) cs x:=
 L.mono (L.nix h ((Keep.refl Nix w).alloc o)) PB.of
theorem Lies.box{w:World}{p:Nat→Prop}{a:Option Addr}{xs:List Value}(h:Lies w p a xs)(o:Obj):Lies (w.alloc o) (PB p w.heap.size) a xs:=(h.keep ((Keep.refl Nix w).alloc o) (fun _ _ h=>h)).mono PB.of
section
variable {w w' : World} {T : TypeId} {r : Nat} {g g' : Option Nat} {out : List UInt8} {p : Nat → Prop}
theorem Lawful.go{α:Type}{R:RD α}{sz:Nat}(L:Lawful R sz){cs:List Value}{x:α}(h:R w p cs x)(hw:Wr w T r g out p)(c:Chain r w g w' g'):R w' p cs x:=L.keep h c.keep hw.free
theorem Lies.go{a:Option Addr}{xs:List Value}(h:Lies w p a xs)(hw:Wr w T r g out p)(c:Chain r w g w' g'):Lies w' p a xs:=h.keep c.keep hw.free
theorem RowIs.go{b:Nat}{e:TypeId}{cs:List Value}(h:RowIs w b e cs)(hw:Wr w T r g out p)(c:Chain r w g w' g')(hp:p b):RowIs w' b e cs:=h.keep c.keep (hw.free b hp)
end
theorem jfS(w:World)(r:Nat)(g:Option Nat)(out:List UInt8)(p:Nat→Prop)(n:Nat)(hw:Wr w 141 r g out p)(hv:jaw (n:Int))(hb:out.length+(numB n).length≤far) :
  Calls Tryz.prog 94 #[.pointer (some ⟨r,0,none⟩),.int .u64 (n:Int)] w (Puts 141 r p w g (out ++ numB n)):=jgt w r g out p n hw hv hb
theorem je6(w:World)(r:Nat)(g:Option Nat)(out:List UInt8)(p:Nat→Prop)(v:Int)(hw:Wr w 141 r g out p)(hv:jae v)(hb:out.length+(encI v).length≤far) :
  Calls Tryz.prog 93 #[.pointer (some ⟨r,0,none⟩),.int .i64 v] w (Puts 141 r p w g (out ++ encI v)):=jn3 w r g out p v hw hv hb
theorem wnum_e(w:World)(r:Nat)(g:Option Nat)(out:List UInt8)(p:Nat→Prop)(v:Int)(hw:Wr w 141 r g out p)(hv:jaw v)(hb:out.length+(encU v).length≤far) :
  Calls Tryz.prog 94 #[.pointer (some ⟨r,0,none⟩),.int .u64 v] w (Puts 141 r p w g (out ++ encU v)):=jgt w r g out p v hw hv hb
theorem jha(w:World)(l:List Int)(h:∀v∈l,jae v)(hl:l.length≤far)(t:TypeId)(p:Nat→Prop)(hp:p w.heap.size)(N:Nat)(hN:w.heap.size=N) :
  jap (rInt .i64) (w.alloc (.cells (l.map (Value.int .i64)).toArray t)) p [.slice (some ⟨N,0,none⟩) l.length l.length] l:=by
 subst hN
 refine⟨_,l.length,l.map fun v=>[.int .i64 v],rfl,by simp,?_,Nat.le_refl _,hl,fun i c x hc hx=>?_⟩
 ·have e:(l.map fun v=>[Value.int .i64 v]).flatten=(l.map (Value.int .i64)).toArray.toList:=by
   clear h hl
   induction l with
   | nil=>rfl
   | cons v l ih=>simp[ih]
  rw[e];exact Lies.block w _ _ _ hp
 ·rw[List.getElem?_map,hx]at hc
  simp only[Option.map_some,Option.some.injEq]at hc
  subst hc
  exact⟨rfl,Go.WalkArith.wf_i64 (h x (List.mem_of_getElem? hx))⟩
end
end Go.Proofs.YtibaehlfpgipfaaGreat
