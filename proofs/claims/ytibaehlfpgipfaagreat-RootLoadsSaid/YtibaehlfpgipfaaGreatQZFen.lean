/- REGIONS IN A ROUND OF A RANGE OVER A FUNCTION: walked as everywhere, where no operation defers. Of our own making. -/
import Derived.Test.YtibaehlfpgipfaaGreatQZBase
import Derived.RangeFuncCalls
import Derived.OrdersIn
import Derived.OwnWalkIn
import Derived.TacticsInMore
import Derived.Deep.RegionHeld3
namespace Go.Proofs.YtibaehlfpgipfaaGreat
open Go.RowKit
def jim(ops:Array Oper):Bool:=ops.toList.all fun o=>match o.op with | .defer _=>false | _=>true
theorem jlL{ops:Array Oper}(h:jim ops=true){i:Nat}{o:Oper}(hi:ops[i]?=some o):∀c,o.op≠.defer c:=by
 intro c hc
 have:=List.all_eq_true.1 h o (by rw[←Array.getElem?_toList]at hi;exact List.mem_of_getElem? hi)
 rw[hc]at this
 cases this
section
variable {P : Program} {l n : Nat} {Q : Exit → Act → World → Prop} {a : Act} {w : World}
theorem jp2{o:Oper}{K:Act→World→Prop}(hd:∀c,o.op≠.defer c)(h:o.wp P a w K Q):o.wpIn (Fence.wide.inRound l) n P a w K Q:=by
 unfold Oper.wp at h
 unfold Oper.wpIn
 refine⟨fun _ _=>trivial,?_⟩
 rw[show(Fence.wide.inRound l).round=some l from rfl,Oper.semAt_some l _ _ hd]
 generalize (execOp a.eval o).run P w=r at *
 cases r with
 | ok x w'=>
  cases x <;> simp only[Oper.upon,Oper.uponIn]at h ⊢
  case value=>exact h
  case skip=>exact h
  case defer=>exact h
  case enter f args=>exact⟨fun h=>by simp[Fence.wide,Fence.inRound]at h,CallsIn.inRound l (callsIn_wide.2 h)⟩
  case row row args=>
   refine⟨fun h=>by simp[Fence.wide,Fence.inRound]at h,fun c cs _=>?_⟩
   obtain⟨v,w2,h1,h2⟩:=h c cs
   exact⟨v,w2,h1,stepsIn_wide.2 h2⟩
 | halt x w'=>
  cases x <;> simp only[Oper.upon,Oper.uponIn]at h ⊢ <;> exact h
theorem jh7{ops:Array Oper}(hd:jim ops=true)(hL:∀a w,¬Q .outgrown a w):∀(is:List Nat) (a:Act) (w:World),wpOps P ops Q is a w→wpOpsIn (Fence.wide.inRound l) n P ops Q is a w
 | [],_,_,h=>h
 | i :: is,a,w,h=>by
  unfold wpOps at h
  unfold wpOpsIn
  cases ho:ops[i]? with
  | none=>
   simp only[ho]at h ⊢
   exact jh7 hd hL is a w h
  | some o=>
   simp only[ho]at h ⊢
   split
   ·rename_i hw
    rw[if_pos hw]at h
    rcases h with h | ⟨_,a',w',h⟩
    ·exact jp2 (jlL hd ho) (Oper.wp_mono (fun a w=>jh7 hd hL is a w) h)
    ·exact absurd h (hL _ _)
   ·rename_i hw
    rw[if_neg hw]at h
    exact⟨fun _ _=>trivial,jh7 hd hL is _ _ h⟩
theorem jiG{id:Nat}{ops:List Oper}(hd:jim ops.toArray=true)(hL:∀a w,¬Q .outgrown a w)(h:wpList P ops.toArray Q ops a w):(Code.region id ops.toArray false).wpIn (Fence.wide.inRound l) n P Q a w:=
 wpIn_region (jh7 hd hL _ _ _ (by rw[List.range_eq_range',←Array.length_toList,wpOps_eq_wpList ops.toArray.toList 0 (by simp)];exact h))
end
end Go.Proofs.YtibaehlfpgipfaaGreat
