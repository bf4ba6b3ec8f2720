/- FAULTS: errors.as, errors.As, fault.Code. Printed by mac.py. -/
import Derived.Test.YtnfjplchliehcaaDoorFt5
namespace Go.Proofs.YtnfjplchliehcaaDoor
open Go.RowKit Go.Extern.Stop Go.Stop Go.Extern

def AsPost (E : Er) (tb : Nat) (old : Value) (w : World) (e : Ending) (w' : World) : Prop := e = .returned (.bool E.isCode) ∧ RowIs w' tb 22 [if E.isCode then .int .i64 E.codeOf else old] ∧ Keep (· = tb) w w'
set_option maxRecDepth 100000 in
set_option maxHeartbeats 4000000 in
theorem as_c (E : Er) (v : Value) (tb va : Nat) (old : Value) (w : World) (h : IsEr w E v) (hv : w.cell? ⟨va, 0, none⟩ = some (.pointer (some ⟨tb, 0, none⟩))) (hva : va < w.heap.size) (ht : RowIs w tb 22 [old]) :
    Calls Tryd.prog 29 #[v, .iface 51 (.pointer (some ⟨tb, 0, none⟩)), .agg #[.pointer (some ⟨1, 51, none⟩), .pointer (some ⟨va, 0, none⟩), .int .u64 150], .iface 78 (.agg #[.pointer (some ⟨1, 22, none⟩)])] w (AsPost E tb old w) := by
  have h26 := @run_callFunc_extern Tryd.prog 26 _ (fun args => ReflectliteValue.unpack (args.getD 0 (.tuple #[]))) Tryd.func26 (by kernel_rfl) (by kernel_rfl) (by kernel_rfl) (by kernel_rfl)
  have h32 := @run_callFunc_extern Tryd.prog 32 _ ReflectliteType.typeOf Tryd.func32 (by kernel_rfl) (by kernel_rfl) (by kernel_rfl) (by kernel_rfl)
  have h58 := @run_callFunc_extern Tryd.prog 58 _ (ReflectliteType.relation "AssignableTo" ReflectliteType.assignableTo) Tryd.func58 (by kernel_rfl) (by kernel_rfl) (by kernel_rfl) (by kernel_rfl)
  have h34 := @run_callFunc_extern Tryd.prog 34 _ (ReflectliteValue.method (ReflectliteValue.valueError "reflectlite.Value.Elem" 0) ReflectliteValue.elem) Tryd.func34 (by kernel_rfl) (by kernel_rfl) (by kernel_rfl) (by kernel_rfl)
  have h35 := @run_callFunc_extern Tryd.prog 35 _ ReflectliteValue.set Tryd.func35 (by kernel_rfl) (by kernel_rfl) (by kernel_rfl) (by kernel_rfl)
  have mA := AsE.methodAssignableTo
  have k0 : Keep Nix w (w.alloc (.cells #[.pointer (some ⟨1, 51, none⟩), .pointer (some ⟨va, 0, none⟩), .int .u64 150] 58)) := (Keep.refl Nix w).alloc _
  have rowV := RowIs.alloc w #[.pointer (some ⟨1, 51, none⟩), .pointer (some ⟨va, 0, none⟩), .int .u64 150] 58
  have ht1 := ht.keep k0 id
  have hv1 := (k0.cell (p := ⟨va, 0, none⟩) hva id).trans hv
  have h1 := h.keep k0
  have hva1 := Nat.lt_of_lt_of_le hva k0.size
  clear ht hv hva
  go_enter Tryd.func29, Tryd.ntmps29
  go_wp2_with fail
  generalize hw1 : w.alloc (.cells #[.pointer (some ⟨1, 51, none⟩), .pointer (some ⟨va, 0, none⟩), .int .u64 150] 58) = w1 at *
  generalize hbx : w.heap.size = bx at *
  go_loopw [0] (fun v wr => ∃ E' : Er, IsEr w1 E' v ∧ E'.isCode = E.isCode ∧ E'.codeOf = E.codeOf ∧ w1 = wr) (fun v _ => depV w1 v)
  case atStart => exact ⟨E, h1, rfl, rfl, rfl⟩
  case round =>
    clear h1 h
    obtain ⟨E', h, e1, e2, rfl⟩ := hrel
    cases E' with
    | code c =>
      obtain rfl : u0 = .iface 22 (.int .i64 c) := h
      have tO := AsE.typeOfE
      have aE := AsE.assignE
      have vO := AsE.valueOfE c
      have el := AsE.elemVP ⟨va, 0, none⟩ ⟨tb, 0, none⟩ w1 hv1
      have y0 := rowV.cell 0
      (try simp only [List.getElem?_cons_succ] at y0); (try simp only [List.getElem?_cons_zero] at y0)
      have y1 := rowV.cell 1
      (try simp only [List.getElem?_cons_succ] at y1); (try simp only [List.getElem?_cons_zero] at y1)
      have y2 := rowV.cell 2
      (try simp only [List.getElem?_cons_succ] at y2); (try simp only [List.getElem?_cons_zero] at y2)
      have kB : Keep Nix w1 (w1.alloc (.cells #[.int .i64 c] 22)) := (Keep.refl Nix w1).alloc _
      have ht2 := ht1.keep kB id
      have st := AsE.setE ⟨tb, 0, none⟩ ⟨w1.heap.size, 0, none⟩ c old (w1.alloc (.cells #[.int .i64 c] 22)) ((RowIs.alloc w1 #[.int .i64 c] 22).cell 0) (ht2.cell 0) (ht2.frozen 0)
      have HR : Hid (AsPost E tb old w (.returned (.bool true)) ((w1.alloc (.cells #[.int .i64 c] 22)).setCell ⟨tb, 0, none⟩ (.int .i64 c))) := (by
        show AsPost E tb old w _ _
        unfold AsPost
        rw [← e1, ← e2]
        exact ⟨rfl, ht2.set 0 _, ((k0.trans kB).nix (S := (· = tb))).setCell (p := ⟨tb, 0, none⟩) (fun _ => rfl) _⟩)
      clear ht2 kB ht1 rowV
      go_wp2
      go_ret
      exact HR.out
    | other s =>
      obtain ⟨b2, rfl, -⟩ := h
      have tO := AsE.typeOfS
      have aE := AsE.assignS
      have n1 := nA_S
      have n2 := nU_S
      have n3 := nL_S
      have HR : Hid (AsPost E tb old w (.returned (.bool false)) w1) := (by
        show AsPost E tb old w _ _
        unfold AsPost
        rw [← e1]
        exact ⟨rfl, ht1, k0.nix⟩)
      clear ht1 rowV
      go_wp2
      go_ret
      exact HR.out
    | fault wh E2 =>
      obtain ⟨b2, vc, rfl, row2, h2⟩ := h
      have hd1 : depV w1 (.iface 29 (.pointer (some ⟨b2, 0, none⟩))) = E2.depth + 1 := depV_eq (E := .fault wh E2) ⟨b2, vc, rfl, row2, h2⟩
      have hd2 : depV w1 vc = E2.depth := depV_eq h2
      obtain ⟨T2, x2, rfl⟩ := h2.iface
      have tO := AsE.typeOfF
      have aE := AsE.assignF
      have n1 := nA_F
      have n2 := nU_F
      have hm := methU
      clear ht1 rowV hv1
      go_wp2_with fail
      go_fit (unwrap_c b2 _ _ w1 row2)
      rintro e w' ⟨rfl, rfl⟩
      go_wp2_with fail
      go_roundw
      case rel => exact ⟨E2, h2, e1, e2, trivial⟩
      case measure => rw [hd1, hd2]; omega

set_option maxRecDepth 100000 in
set_option maxHeartbeats 4000000 in
theorem asE_c (E : Er) (v : Value) (tb : Nat) (old : Value) (w : World) (h : IsEr w E v) (ht : RowIs w tb 22 [old]) (hg : w.cell? ⟨0, 0, none⟩ = some (.iface 78 (.agg #[.pointer (some ⟨1, 26, none⟩)]))) :
    Calls Tryd.prog 11 #[v, .iface 51 (.pointer (some ⟨tb, 0, none⟩))] w (AsPost E tb old w) := by
  have h26 := @run_callFunc_extern Tryd.prog 26 _ (fun args => ReflectliteValue.unpack (args.getD 0 (.tuple #[]))) Tryd.func26 (by kernel_rfl) (by kernel_rfl) (by kernel_rfl) (by kernel_rfl)
  have h27 := @run_callFunc_extern Tryd.prog 27 _ (ReflectliteValue.methodAny (ReflectliteValue.valueError "reflectlite.Value.Type" 0) (fun t _ _ _ => ReflectliteType.toType t)) Tryd.func27 (by kernel_rfl) (by kernel_rfl) (by kernel_rfl) (by kernel_rfl)
  have h28 := @run_callFunc_extern Tryd.prog 28 _ (ReflectliteValue.method (ReflectliteValue.valueError "reflectlite.Value.IsNil" 0) ReflectliteValue.isNil) Tryd.func28 (by kernel_rfl) (by kernel_rfl) (by kernel_rfl) (by kernel_rfl)
  have h50 := @run_callFunc_extern Tryd.prog 50 _ (ReflectliteType.abiMethod fun t => do pure (.int .u8 (← Rtype.kind t))) Tryd.func50 (by kernel_rfl) (by kernel_rfl) (by kernel_rfl) (by kernel_rfl)
  have h60 := @run_callFunc_extern Tryd.prog 60 _ (ReflectliteType.method ReflectliteType.elem) Tryd.func60 (by kernel_rfl) (by kernel_rfl) (by kernel_rfl) (by kernel_rfl)
  have h61 := @run_callFunc_extern Tryd.prog 61 _ (ReflectliteType.relation "Implements" ReflectliteType.implements_) Tryd.func61 (by kernel_rfl) (by kernel_rfl) (by kernel_rfl) (by kernel_rfl)
  have f6 := AsE.valueOfP
  have f7 := AsE.typeP
  have mK := AsE.methodKind
  have mE := AsE.methodElem
  have mI := AsE.methodImplements
  have kP := AsE.kindP
  have kE := AsE.kindE
  have eP := AsE.elemP
  have iE := AsE.implementsE
  obtain ⟨w1, hw1⟩ : ∃ w1, w1 = w.alloc (.cells #[.pointer (some ⟨tb, 0, none⟩)] 51) := ⟨_, rfl⟩
  have k1 : Keep Nix w w1 := hw1 ▸ (Keep.refl Nix w).alloc _
  obtain ⟨va, hva⟩ : ∃ va, va = w.heap.size := ⟨_, rfl⟩
  have rowP : RowIs w1 va 51 [.pointer (some ⟨tb, 0, none⟩)] := by rw [hw1, hva]; exact RowIs.alloc w _ _
  obtain ⟨w2, hw2⟩ : ∃ w2, w2 = w1.alloc (.cells #[.pointer (some ⟨1, 51, none⟩), .pointer (some ⟨va, 0, none⟩), .int .u64 150] 58) := ⟨_, rfl⟩
  have k2 : Keep Nix w1 w2 := hw2 ▸ (Keep.refl Nix w1).alloc _
  have rowV : RowIs w2 w1.heap.size 58 [.pointer (some ⟨1, 51, none⟩), .pointer (some ⟨va, 0, none⟩), .int .u64 150] := by rw [hw2]; exact RowIs.alloc w1 _ _
  have hs1 : w1.heap.size = w.heap.size + 1 := by rw [hw1]; simp
  rw [hs1] at rowV
  have rowP2 := rowP.keep k2 id
  have n28 := AsE.isNilP ⟨va, 0, none⟩ ⟨tb, 0, none⟩ w2 (rowP2.cell 0)
  have hg2 := ((k1.trans k2).cell (p := ⟨0, 0, none⟩) (by
    rcases Nat.eq_zero_or_pos w.heap.size with h0 | h0
    · simp [World.cell?, h0] at hg
    · exact h0) id).trans hg
  have y0 := rowV.cell 0
  (try simp only [List.getElem?_cons_succ] at y0); (try simp only [List.getElem?_cons_zero] at y0)
  have y1 := rowV.cell 1
  (try simp only [List.getElem?_cons_succ] at y1); (try simp only [List.getElem?_cons_zero] at y1)
  have y2 := rowV.cell 2
  (try simp only [List.getElem?_cons_succ] at y2); (try simp only [List.getElem?_cons_zero] at y2)
  have hlt := ht.lt
  have HC := as_c E v tb va old w2 (h.keep (k1.trans k2)) (rowP2.cell 0) rowP2.lt (ht.keep (k1.trans k2) id)
  have HCC := Lib.hid HC
  have KK := Lib.hid (k1.trans k2)
  obtain ⟨T, x, rfl⟩ := h.iface
  clear HC k1 k2 rowP rowP2 rowV ht hlt h hs1
  subst hw2 hw1 hva
  go_enter Tryd.func11, Tryd.ntmps11
  go_wp2_with fail
  go_fit HCC.out
  rintro e w' ⟨rfl, r, k⟩
  clear HCC
  replace k := Lib.hid ((KK.out.nix (S := (· = tb))).trans k)
  replace r := Lib.hid r
  clear KK
  go_wp2_with fail
  go_ret
  exact ⟨rfl, r.out, k.out⟩
end Go.Proofs.YtnfjplchliehcaaDoor
