/- FAULTS: errors.As, the target a fault. Printed by mac.py. -/
import Derived.Test.YtnfjplchliehcaaDoorFt6
namespace Go.Proofs.YtnfjplchliehcaaDoor
open Go.RowKit Go.Extern.Stop Go.Stop Go.Extern

namespace AsG
theorem valueOfP (t : Addr) (w : World) : (ReflectliteValue.unpack (.iface 31 (.pointer (some t)))).run Tryd.prog w
    = .ok (.agg #[.pointer (some ⟨1, 31, none⟩), .pointer (some ⟨w.heap.size, 0, none⟩), .int .u64 150]) (w.alloc (.cells #[.pointer (some t)] 31)) := by kernel_rfl
theorem typeP (a : Addr) (w : World) : (ReflectliteValue.methodAny (ReflectliteValue.valueError "reflectlite.Value.Type" 0) (fun t _ _ _ => ReflectliteType.toType t) #[.agg #[.pointer (some ⟨1, 31, none⟩), .pointer (some a), .int .u64 150]]).run Tryd.prog w
    = .ok (.iface 78 (.agg #[.pointer (some ⟨1, 31, none⟩)])) w := by kernel_rfl
theorem kindP (w : World) : ((ReflectliteType.abiMethod fun t => (fun a : Nat => Value.int IntKind.u8 (a : Int)) <$> Rtype.kind t) #[.pointer (some ⟨1, 31, none⟩)]).run Tryd.prog w = .ok (.int .u8 22) w := by kernel_rfl
theorem kindE (w : World) : ((ReflectliteType.abiMethod fun t => (fun a : Nat => Value.int IntKind.u8 (a : Int)) <$> Rtype.kind t) #[.pointer (some ⟨1, 29, none⟩)]).run Tryd.prog w = .ok (.int .u8 22) w := by kernel_rfl
theorem partsP (a : Addr) (w : World) : (ReflectliteValue.parts (.agg #[.pointer (some ⟨1, 31, none⟩), .pointer (some a), .int .u64 150])).run Tryd.prog w = .ok (some (31, a, 150)) w := by kernel_rfl
theorem isNilP (a p : Addr) (W : World) (ha : W.cell? a = some (.pointer (some p))) :
    (ReflectliteValue.method (ReflectliteValue.valueError "reflectlite.Value.IsNil" 0) ReflectliteValue.isNil #[.agg #[.pointer (some ⟨1, 31, none⟩), .pointer (some a), .int .u64 150]]).run Tryd.prog W = .ok (.bool false) W := by
  rw [AsE.rlm]
  simp only [Sem.run_bind, partsP, Result.andThen]
  simp [ReflectliteValue.isNil, loadVar, isAgg, underlying, Tryd.underlying31, ha, Result.andThen]
theorem elemP (w : World) : (ReflectliteType.method ReflectliteType.elem #[.agg #[.pointer (some ⟨1, 31, none⟩)]]).run Tryd.prog w = .ok (.iface 78 (.agg #[.pointer (some ⟨1, 29, none⟩)])) w := by kernel_rfl
theorem implementsE (w : World) : (ReflectliteType.relation "Implements" ReflectliteType.implements_ #[.agg #[.pointer (some ⟨1, 29, none⟩)], .iface 78 (.agg #[.pointer (some ⟨1, 26, none⟩)])]).run Tryd.prog w = .ok (.bool true) w := by kernel_rfl
theorem assignE (w : World) : (ReflectliteType.relation "AssignableTo" ReflectliteType.assignableTo #[.agg #[.pointer (some ⟨1, 29, none⟩)], .iface 78 (.agg #[.pointer (some ⟨1, 29, none⟩)])]).run Tryd.prog w = .ok (.bool true) w := by kernel_rfl
theorem valueOfE (c : Addr) (w : World) : (ReflectliteValue.unpack (.iface 29 (.pointer (some c)))).run Tryd.prog w
    = .ok (.agg #[.pointer (some ⟨1, 29, none⟩), .pointer (some ⟨w.heap.size, 0, none⟩), .int .u64 150]) (w.alloc (.cells #[.pointer (some c)] 29)) := by kernel_rfl
theorem elemOfP (w : World) : (Rtype.elem? 31).run Tryd.prog w = .ok (some 29) w := by kernel_rfl
theorem mkE (p : Addr) (w : World) : (ReflectliteValue.mk 29 p ReflectliteValue.flagAddr).run Tryd.prog w = .ok (.agg #[.pointer (some ⟨1, 29, none⟩), .pointer (some p), .int .u64 406]) w := by kernel_rfl
theorem elemVP (a p : Addr) (W : World) (ha : W.cell? a = some (.pointer (some p))) :
    (ReflectliteValue.method (ReflectliteValue.valueError "reflectlite.Value.Elem" 0) ReflectliteValue.elem #[.agg #[.pointer (some ⟨1, 31, none⟩), .pointer (some a), .int .u64 150]]).run Tryd.prog W
      = .ok (.agg #[.pointer (some ⟨1, 29, none⟩), .pointer (some p), .int .u64 406]) W := by
  rw [AsE.rlm]
  simp only [Sem.run_bind, partsP, Result.andThen]
  simp [ReflectliteValue.elem, loadVar, isAgg, underlying, Tryd.underlying31, ha, Result.andThen, elemOfP, mkE]
theorem partsEa (a : Addr) (w : World) : (ReflectliteValue.parts (.agg #[.pointer (some ⟨1, 29, none⟩), .pointer (some a), .int .u64 406])).run Tryd.prog w = .ok (some (29, a, 406)) w := by kernel_rfl
theorem partsE (a : Addr) (w : World) : (ReflectliteValue.parts (.agg #[.pointer (some ⟨1, 29, none⟩), .pointer (some a), .int .u64 150])).run Tryd.prog w = .ok (some (29, a, 150)) w := by kernel_rfl
theorem directE (w : World) : (Rtype.directlyAssignable 29 29).run Tryd.prog w = .ok true w := by kernel_rfl
theorem setE (ta b c : Addr) (old : Value) (W : World) (hb : W.cell? b = some (.pointer (some c))) (ht : W.cell? ta = some old) (hf : W.frozen? ta = false) :
    (ReflectliteValue.set #[.agg #[.pointer (some ⟨1, 29, none⟩), .pointer (some ta), .int .u64 406], .agg #[.pointer (some ⟨1, 29, none⟩), .pointer (some b), .int .u64 150]]).run Tryd.prog W
      = .ok (.tuple #[]) (W.setCell ta (.pointer (some c))) := by
  rw [AsE.rls]
  simp only [Sem.run_bind, partsEa, partsE, Result.andThen]
  simp [ReflectliteValue.flagAddr, loadVar, isAgg, underlying, Tryd.underlying29, hb, Result.andThen, directE, storeVar, Value.cells, storeCells, Addr.add]
  rw [run_store Tryd.prog W ta _ _ (by rfl)]
  simp [ht, hf]
end AsG
def AsPostG (b : Addr) (tb : Nat) (w : World) (e : Ending) (w' : World) : Prop := e = .returned (.bool true) ∧ RowIs w' tb 29 [.pointer (some b)] ∧ Keep (· = tb) w w'
set_option maxRecDepth 100000 in
set_option maxHeartbeats 4000000 in
theorem asG_c (b : Addr) (tb va : Nat) (old : Value) (w : World) (hv : w.cell? ⟨va, 0, none⟩ = some (.pointer (some ⟨tb, 0, none⟩))) (hva : va < w.heap.size) (ht : RowIs w tb 29 [old]) :
    Calls Tryd.prog 29 #[.iface 29 (.pointer (some b)), .iface 31 (.pointer (some ⟨tb, 0, none⟩)), .agg #[.pointer (some ⟨1, 31, none⟩), .pointer (some ⟨va, 0, none⟩), .int .u64 150], .iface 78 (.agg #[.pointer (some ⟨1, 29, none⟩)])] w (AsPostG b tb w) := by
  have h26 := @run_callFunc_extern Tryd.prog 26 _ (fun args => ReflectliteValue.unpack (args.getD 0 (.tuple #[]))) Tryd.func26 (by kernel_rfl) (by kernel_rfl) (by kernel_rfl) (by kernel_rfl)
  have h32 := @run_callFunc_extern Tryd.prog 32 _ ReflectliteType.typeOf Tryd.func32 (by kernel_rfl) (by kernel_rfl) (by kernel_rfl) (by kernel_rfl)
  have h58 := @run_callFunc_extern Tryd.prog 58 _ (ReflectliteType.relation "AssignableTo" ReflectliteType.assignableTo) Tryd.func58 (by kernel_rfl) (by kernel_rfl) (by kernel_rfl) (by kernel_rfl)
  have h34 := @run_callFunc_extern Tryd.prog 34 _ (ReflectliteValue.method (ReflectliteValue.valueError "reflectlite.Value.Elem" 0) ReflectliteValue.elem) Tryd.func34 (by kernel_rfl) (by kernel_rfl) (by kernel_rfl) (by kernel_rfl)
  have h35 := @run_callFunc_extern Tryd.prog 35 _ ReflectliteValue.set Tryd.func35 (by kernel_rfl) (by kernel_rfl) (by kernel_rfl) (by kernel_rfl)
  have mA := AsE.methodAssignableTo
  have k0 : Keep Nix w (w.alloc (.cells #[.pointer (some ⟨1, 31, none⟩), .pointer (some ⟨va, 0, none⟩), .int .u64 150] 58)) := (Keep.refl Nix w).alloc _
  have rowV := RowIs.alloc w #[.pointer (some ⟨1, 31, none⟩), .pointer (some ⟨va, 0, none⟩), .int .u64 150] 58
  have ht1 := ht.keep k0 id
  have hv1 := (k0.cell (p := ⟨va, 0, none⟩) hva id).trans hv
  have hva1 := Nat.lt_of_lt_of_le hva k0.size
  clear ht hv hva
  go_enter Tryd.func29, Tryd.ntmps29
  go_wp2_with fail
  generalize hw1 : w.alloc (.cells #[.pointer (some ⟨1, 31, none⟩), .pointer (some ⟨va, 0, none⟩), .int .u64 150] 58) = w1 at *
  generalize hbx : w.heap.size = bx at *
  have tO := AsE.typeOfF
  have aE := AsG.assignE
  have vO := AsG.valueOfE b
  have el := AsG.elemVP ⟨va, 0, none⟩ ⟨tb, 0, none⟩ w1 hv1
  have y0 := rowV.cell 0
  (try simp only [List.getElem?_cons_succ] at y0); (try simp only [List.getElem?_cons_zero] at y0)
  have y1 := rowV.cell 1
  (try simp only [List.getElem?_cons_succ] at y1); (try simp only [List.getElem?_cons_zero] at y1)
  have y2 := rowV.cell 2
  (try simp only [List.getElem?_cons_succ] at y2); (try simp only [List.getElem?_cons_zero] at y2)
  have kB : Keep Nix w1 (w1.alloc (.cells #[.pointer (some b)] 29)) := (Keep.refl Nix w1).alloc _
  have ht2 := ht1.keep kB id
  have st := AsG.setE ⟨tb, 0, none⟩ ⟨w1.heap.size, 0, none⟩ b old (w1.alloc (.cells #[.pointer (some b)] 29)) ((RowIs.alloc w1 #[.pointer (some b)] 29).cell 0) (ht2.cell 0) (ht2.frozen 0)
  have HR : Hid (AsPostG b tb w (.returned (.bool true)) ((w1.alloc (.cells #[.pointer (some b)] 29)).setCell ⟨tb, 0, none⟩ (.pointer (some b)))) := (by
    show AsPostG b tb w _ _
    unfold AsPostG
    exact ⟨rfl, ht2.set 0 _, ((k0.trans kB).nix (S := (· = tb))).setCell (p := ⟨tb, 0, none⟩) (fun _ => rfl) _⟩)
  clear ht2 kB ht1 rowV
  refine wp_loop_rounds 1 ?_
  rw [rounds_succ]
  go_wp2
  go_ret
  exact HR.out
set_option maxRecDepth 100000 in
set_option maxHeartbeats 4000000 in
theorem asF_c (b : Addr) (tb : Nat) (old : Value) (w : World) (ht : RowIs w tb 29 [old]) (hg : w.cell? ⟨0, 0, none⟩ = some (.iface 78 (.agg #[.pointer (some ⟨1, 26, none⟩)]))) :
    Calls Tryd.prog 11 #[.iface 29 (.pointer (some b)), .iface 31 (.pointer (some ⟨tb, 0, none⟩))] w (AsPostG b tb w) := by
  have h26 := @run_callFunc_extern Tryd.prog 26 _ (fun args => ReflectliteValue.unpack (args.getD 0 (.tuple #[]))) Tryd.func26 (by kernel_rfl) (by kernel_rfl) (by kernel_rfl) (by kernel_rfl)
  have h27 := @run_callFunc_extern Tryd.prog 27 _ (ReflectliteValue.methodAny (ReflectliteValue.valueError "reflectlite.Value.Type" 0) (fun t _ _ _ => ReflectliteType.toType t)) Tryd.func27 (by kernel_rfl) (by kernel_rfl) (by kernel_rfl) (by kernel_rfl)
  have h28 := @run_callFunc_extern Tryd.prog 28 _ (ReflectliteValue.method (ReflectliteValue.valueError "reflectlite.Value.IsNil" 0) ReflectliteValue.isNil) Tryd.func28 (by kernel_rfl) (by kernel_rfl) (by kernel_rfl) (by kernel_rfl)
  have h50 := @run_callFunc_extern Tryd.prog 50 _ (ReflectliteType.abiMethod fun t => do pure (.int .u8 (← Rtype.kind t))) Tryd.func50 (by kernel_rfl) (by kernel_rfl) (by kernel_rfl) (by kernel_rfl)
  have h60 := @run_callFunc_extern Tryd.prog 60 _ (ReflectliteType.method ReflectliteType.elem) Tryd.func60 (by kernel_rfl) (by kernel_rfl) (by kernel_rfl) (by kernel_rfl)
  have h61 := @run_callFunc_extern Tryd.prog 61 _ (ReflectliteType.relation "Implements" ReflectliteType.implements_) Tryd.func61 (by kernel_rfl) (by kernel_rfl) (by kernel_rfl) (by kernel_rfl)
  have f6 := AsG.valueOfP
  have f7 := AsG.typeP
  have mK := AsE.methodKind
  have mE := AsE.methodElem
  have mI := AsE.methodImplements
  have kP := AsG.kindP
  have kE := AsG.kindE
  have eP := AsG.elemP
  have iE := AsG.implementsE
  obtain ⟨w1, hw1⟩ : ∃ w1, w1 = w.alloc (.cells #[.pointer (some ⟨tb, 0, none⟩)] 31) := ⟨_, rfl⟩
  have k1 : Keep Nix w w1 := hw1 ▸ (Keep.refl Nix w).alloc _
  obtain ⟨va, hva⟩ : ∃ va, va = w.heap.size := ⟨_, rfl⟩
  have rowP : RowIs w1 va 31 [.pointer (some ⟨tb, 0, none⟩)] := by rw [hw1, hva]; exact RowIs.alloc w _ _
  obtain ⟨w2, hw2⟩ : ∃ w2, w2 = w1.alloc (.cells #[.pointer (some ⟨1, 31, none⟩), .pointer (some ⟨va, 0, none⟩), .int .u64 150] 58) := ⟨_, rfl⟩
  have k2 : Keep Nix w1 w2 := hw2 ▸ (Keep.refl Nix w1).alloc _
  have rowV : RowIs w2 w1.heap.size 58 [.pointer (some ⟨1, 31, none⟩), .pointer (some ⟨va, 0, none⟩), .int .u64 150] := by rw [hw2]; exact RowIs.alloc w1 _ _
  have hs1 : w1.heap.size = w.heap.size + 1 := by rw [hw1]; simp
  rw [hs1] at rowV
  have rowP2 := rowP.keep k2 id
  have n28 := AsG.isNilP ⟨va, 0, none⟩ ⟨tb, 0, none⟩ w2 (rowP2.cell 0)
  have hg2 := ((k1.trans k2).cell (p := ⟨0, 0, none⟩) (by
    rcases Nat.eq_zero_or_pos w.heap.size with h0 | h0
    · simp [World.cell?, h0] at hg
    · exact h0) id).trans hg
  have y0 := rowV.cell 0
  (try simp only [List.getElem?_cons_succ] at y0); (try simp only [List.getElem?_cons_zero] at y0)
  have y1 := rowV.cell 1
  (try simp only [List.getElem?_cons_succ] at y1); (try simp only [List.getElem?_cons_zero] at y1)
  have y2 := rowV.cell 2
  (try simp only [List.getElem?_cons_succ] at y2); (try simp only [List.getElem?_cons_zero] at y2)
  have hlt := ht.lt
  have HC := asG_c b tb va old w2 (rowP2.cell 0) rowP2.lt (ht.keep (k1.trans k2) id)
  have HCC := Lib.hid HC
  have KK := Lib.hid (k1.trans k2)
  clear HC k1 k2 rowP rowP2 rowV ht hlt hs1
  subst hw2 hw1 hva
  go_enter Tryd.func11, Tryd.ntmps11
  go_wp2_with fail
  go_fit HCC.out
  rintro e w' ⟨rfl, r, k⟩
  clear HCC
  replace k := Lib.hid ((KK.out.nix (S := (· = tb))).trans k)
  replace r := Lib.hid r
  clear KK
  go_wp2_with fail
  go_ret
  exact ⟨rfl, r.out, k.out⟩
end Go.Proofs.YtnfjplchliehcaaDoor
