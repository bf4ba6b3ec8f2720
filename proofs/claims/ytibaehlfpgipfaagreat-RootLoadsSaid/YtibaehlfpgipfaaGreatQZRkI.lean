/- SORTED KEYS: maps.Keys and its iterator. Printed by mac.py. -/
import Derived.Test.YtibaehlfpgipfaaGreatQZRkH
import Derived.Sort.MapsRangeIn
namespace Go.Proofs.YtibaehlfpgipfaaGreat
open Go.RowKit Go.Shelf
set_option maxRecDepth 100000
set_option maxHeartbeats 1000000
attribute [local go_sem] Oper.semAt_some
theorem jk1{i:Int}(h:(Lit.int .u64 i).wf=true):jaw i:=jeS h
theorem jk9{w w':World}{b r n:Nat}{D:DataW Value}{left:Lit→Bool}{cnt:Nat}(h:w.ranges Tryz.prog 28 jcm b r n D left cnt){S:Nat→Prop}(k:Keep S w w')(hsb:¬S b)(hsr:¬S r):w'.ranges Tryz.prog 28 jcm b r n D left cnt:=by
  have h1:=h.owns.lt
  have h2:=h.lt
  obtain⟨es,clock,since,seen,c0,hb,F,hs,hD,hr,rest⟩:=h
  exact⟨es,clock,since,seen,c0,(k.block b h1 hsb).trans hb,F,hs,hD,(k.block r h2 hsr).trans hr,rest⟩
def KeysOf(D:DataW Value)(left:Lit→Bool)(ss:List Int):Prop:=ss.Nodup∧∀k,k∈ss↔(jaw k∧Maps.has D (keyU k)=true∧left (keyU k)=false)
theorem KeysOf.step{D:DataW Value}{left:Lit→Bool}{ss:List Int}(h:KeysOf D left ss){x:Int}(hx:jaw x)(hh:Maps.has D (keyU x)=true)(hl:left (keyU x)=true):KeysOf D (fun z=>left z && !z.sameKey (keyU x)) (ss ++ [x]):=by
  refine⟨List.nodup_append.2 ⟨h.1,by simp,fun a ha b hb e=>?_⟩,fun k=>?_⟩
  · simp only[List.mem_singleton]at hb
    subst hb
    subst e
    have:=((h.2 a).1 ha).2.2
    rw[hl]at this
    cases this
  · rw[List.mem_append,List.mem_singleton,h.2 k]
    constructor
    · rintro(⟨h1,h2,h3⟩ | rfl)
      · exact⟨h1,h2,by show(left _ && _)=false;rw[h3];rfl⟩
      · exact⟨hx,hh,by show(left _ && _)=false;rw[WideAt.sameKey_self (jij hx)];simp⟩
    · rintro⟨h1,h2,h3⟩
      have h3:(left (keyU k) && !(keyU k).sameKey (keyU x))=false:=h3
      by_cases e:k=x
      · exact .inr e
      · rw[Maps.sameKey_ne (jik e)]at h3
        exact .inl ⟨h1,h2,by simpa using h3⟩
theorem jlD(c bM n:Nat)(D:DataW Value)(w:World)(row:RowIs w c 77 [.map (some bM)])(own:w.ownsMap Tryz.prog 28 jcm bM n D) :
    jfz 75 #[.pointer (some ⟨c,0,none⟩)] (fun ss=>KeysOf D (fun _=>false) ss) n bM w:=by
  intro l J W hW hJ hY h0
  have x0:=(row.keep hW id).cell 0
  (try simp only[List.getElem?_cons_zero]at x0)
  have own1:=jec own hW id
  have HYY:=Lib.hid hY
  have HJJ:=Lib.hid hJ
  have HW:=hW.size
  have hbl:=own.lt
  have hsn:=own.size_le
  clear hY hJ row hW own
  refine callsIn_of_wp Tryz.func75 rfl trivial ?_
  simp only[Tryz.ntmps75,List.size_toArray,List.length_cons,List.length_nil,Nat.reduceAdd,Nat.reduceSub,Array.replicate_succ,Array.replicate_zero,List.push_toArray,List.append_toArray,List.nil_append,List.cons_append]
  gi_wp2_with (first
    | (gi_at_range;refine wpListIn_range_own _ rfl _ 77 rfl 28 3 uK Tryz.underlying77 jcm bM n _ rfl own1 ?_;intro w0 hrg0 hg0 hs0)
    | gi_in)
  go_frame
  have hJ0:J [] w0:=HJJ.out [] W w0 h0 ((Keep.refl _ W).grown hg0 (fun _ h=>by cases h))
  have hrb:bM≠W.heap.size:=by omega
  clear x0 own1 hg0
  gi_loopw [3] (fun _ wr=>∃(left:Lit→Bool) (cnt:Nat) (ss:List Int),wr.ranges Tryz.prog 28 jcm bM W.heap.size n D left cnt∧KeysOf D left ss∧J ss wr∧W.heap.size<wr.heap.size∧ss.length+cnt≤n) (fun _ wr=>wr.rangeLeft bM W.heap.size)
  case atStart=>exact⟨_,_,[],hrg0,⟨List.nodup_nil,fun k=>⟨fun h=>(by cases h),fun h=>by rw[h.2.1]at h;cases h.2.2⟩⟩,hJ0,by omega,by simpa using hsn⟩
  case round=>
    clear hrg0 hJ0
    obtain⟨left,cnt,ss,hrg,hC,hJs,hsz,hcl⟩:=hrel
    gi_wp2_with (first
      | (gi_at_next;refine wpListIn_next_ranges _ rfl _ rfl 28 uK jcm (Value.int .u64) id (fun key kl hk=>by obtain⟨x,hx,_⟩:=Maps.keyOf_int_inv Tryz.underlying28 hk;exact⟨x,hx⟩) (fun v _ _=>⟨v,rfl⟩) bM W.heap.size n _ _ _ rfl hrg ?_ ?_)
      | gi_in)
    · intro hc0 hl0
      gi_wp2
      go_end0
      refine⟨⟨_,rfl⟩,ss,⟨hC.1,fun k=>?_⟩,hJs⟩
      rw[hC.2 k,hl0]
    · intro x c2 kl yd yp w2 cnt2 hkey hlk hv hat hrg2 hlt hg2 hs2 hen
      obtain⟨x',ex,rfl,hwx⟩:=Maps.keyOf_int_inv Tryz.underlying28 hkey
      cases ex
      have hux:=jk1 hwx
      have hhas:Maps.has D (keyU x)=true:=Maps.has_true_of_atKey hat
      have hJ2:J ss w2:=HJJ.out ss wr w2 hJs ((Keep.refl _ wr).grown hg2 (fun _ h _=>(Option.some.inj h).symm))
      obtain⟨fn,tmps,assign,body,hy,hR⟩:=HYY.out ss x w2 hJ2 hux (by omega) (by omega)
      have hC2:=Lib.hid (hC.step hux hhas hlk)
      have hsz2:W.heap.size<w2.heap.size:=by omega
      clear hs2 hC hJs
      gi_wp2
      refine hR.mono ?_
      rintro e W3 ⟨rfl,hJ3,hk3⟩
      have hrg3:=jk9 hrg2 hk3 (fun h=>h.1 rfl) (fun h=>h.2 rfl)
      have hs3:=hk3.size
      clear hR hy
      gi_wp2
      go_roundw
      case rel=>exact⟨_,cnt2,ss ++ [x],hrg3,hC2.out,hJ3,by omega,by simp;omega⟩
      case measure=>rw[hrg3.left_eq,hrg.left_eq];exact hlt
end Go.Proofs.YtibaehlfpgipfaaGreat
