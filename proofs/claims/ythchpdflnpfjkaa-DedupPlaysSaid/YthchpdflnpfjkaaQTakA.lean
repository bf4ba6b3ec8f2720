/- WHAT BYTES ARE TAKEN AS. Printed by gen10.py. -/
import Derived.Test.YthchpdflnpfjkaaQTook
import Derived.Test.YthchpdflnpfjkaaQGtX
namespace Go.Proofs.Ythchpdflnpfjkaa
open Go.RowKit

def zGCall : GCall := ⟨0, 0, []⟩
theorem zGCall_r (w : World) (p : Nat → Prop) : rGCall w p [.int .u64 0, .int .u64 0, .slice none 0 0] zGCall := ⟨[.int .u64 0], [.int .u64 0], [.slice none 0 0], rfl, ⟨rfl, rfl⟩, ⟨rfl, rfl⟩, ⟨none, 0, rfl, Lies.nil _ _ _, by decide, by decide⟩⟩
theorem zGCall_w (w : World) (p : Nat → Prop) : wGCall w p [.int .u64 0, .int .u64 0, .slice none 0 0] zGCall := ⟨[.int .u64 0], [.int .u64 0], [.slice none 0 0], rfl, ⟨rfl, rfl⟩, ⟨rfl, rfl⟩, ⟨none, 0, rfl, fun h => absurd rfl h, by decide, by decide⟩⟩
theorem lda_Call (a : Act) (dst : Option Tmp) (x : Operand) (ty : TypeId) (pos : String) (after : Array Edge) (guard : Option (Nat × Bool)) : execOp a.eval { dst := dst, op := .load 35 x, type := ty, pos := pos, after := after, guard := guard } = wholeSem 35 (a.eval x) := rfl
section
attribute [local go_sem ↓] lda_Call st_Call
set_option maxRecDepth 100000 in
set_option maxHeartbeats 8000000 in
theorem allCall_c (rd : Nat) (p : Nat → Prop) (s : RdS) (w : World) (h : IsRd w 99 rd p s) (hpl : ∀ b, p b → b < w.heap.size) :
    Calls Try.prog 44 #[.agg #[.pointer (some ⟨rd, 0, none⟩)], .func (.func 45) #[.agg #[.pointer (some ⟨rd, 0, none⟩)]] #[]] w (TookR wGCall rd w (endP zGCall (pGCall s))) := by
  have hlt := h.lt
  have hsz : (w.alloc (.cells #[.pointer (some ⟨rd, 0, none⟩)] 92)).heap.size = w.heap.size + 1 := by simp
  have rowB : RowIs ((w.alloc (.cells #[.pointer (some ⟨rd, 0, none⟩)] 92)).alloc (.cells #[.int .u64 0, .int .u64 0, .slice none 0 0] 35)) w.heap.size 92 [.pointer (some ⟨rd, 0, none⟩)] := (RowIs.alloc w _ _).keep ((Keep.refl Nix _).alloc _) id
  have rowR : RowIs ((w.alloc (.cells #[.pointer (some ⟨rd, 0, none⟩)] 92)).alloc (.cells #[.int .u64 0, .int .u64 0, .slice none 0 0] 35)) (w.heap.size + 1) 35 [.int .u64 0, .int .u64 0, .slice none 0 0] := by
    rw [← hsz]
    exact RowIs.alloc (w.alloc (.cells #[.pointer (some ⟨rd, 0, none⟩)] 92)) _ _
  have hr := h.nix (((Keep.refl Nix w).alloc (.cells #[.pointer (some ⟨rd, 0, none⟩)] 92)).alloc (.cells #[.int .u64 0, .int .u64 0, .slice none 0 0] 35))
  have kk : Keep (· = rd) w ((w.alloc (.cells #[.pointer (some ⟨rd, 0, none⟩)] 92)).alloc (.cells #[.int .u64 0, .int .u64 0, .slice none 0 0] 35)) := ((Keep.refl (· = rd) w).alloc _).alloc _
  clear h hsz
  go_enter Try.func44, Try.ntmps44
  go_wp2_with fail
  go_fit (gCall_c rd p _ _ hr (fun b hb => Nat.lt_of_lt_of_le (hpl b hb) kk.size))
  rintro e w1 ⟨cs, rfl, hc, ho, hr1, k1⟩
  have hlc := Lib.hid (wGCall_lawful.len hc)
  have HO := Lib.hid ho
  clear ho hr
  obtain ⟨y, HY⟩ : ∃ y, Hid (pGCall s = y) := ⟨_, rfl⟩
  rw [HY.out] at hc hr1
  have rRl0 := rowR.lt
  replace rowB := rowB.keep k1 (by omega)
  replace rowR := rowR.keep k1 (by omega)
  have rRl := rowR.lt
  have hrl := hr1.lt
  have hst0 := store_run (P := Try.prog) (cs := cs) S_Call (RowIs.alloc w1 #[.int .u64 0, .int .u64 0, .slice none 0 0] 35) rfl hlc.out HO.out
  have rowV := (RowIs.alloc w1 #[.int .u64 0, .int .u64 0, .slice none 0 0] 35).setRow cs
  have kT := ((Keep.refl (· = w1.heap.size) w1).alloc (.cells #[.int .u64 0, .int .u64 0, .slice none 0 0] 35)).setRow (fun _ => rfl) cs.toArray
  replace rowB := rowB.keep kT (by omega)
  replace rowR := rowR.keep kT (by omega)
  have hr2 := hr1.keep kT (by omega) (fun b hb e => by have := hpl b hb; omega)
  have kk2 : Keep (· = rd) w ((w1.alloc (.cells #[.int .u64 0, .int .u64 0, .slice none 0 0] 35)).setRow w1.heap.size cs.toArray) := (kk.trans k1).then kT (fun i hi e => by omega)
  have hs2 : w.heap.size + 2 ≤ ((w.alloc (.cells #[.pointer (some ⟨rd, 0, none⟩)] 92)).alloc (.cells #[.int .u64 0, .int .u64 0, .slice none 0 0] 35)).heap.size := by simp
  replace hc := wGCall_lawful.keep hc kT (fun b hb e => by have := hb.2; omega)
  have xB : ((w1.alloc (.cells #[.int .u64 0, .int .u64 0, .slice none 0 0] 35)).setRow w1.heap.size cs.toArray).cell? ⟨w.heap.size, 0, none⟩ = some (.pointer (some ⟨rd, 0, none⟩)) := rowB.cell 0
  clear k1 kT hr1 rowB kk
  go_wp2_with fail
  go_fit (End_rd rd p y.2 _ hr2)
  rintro e w2 ⟨rfl, k2⟩
  clear xB hst0
  replace rowR := rowR.keep k2 id
  replace rowV := rowV.keep k2 id
  replace hc := wGCall_lawful.nix hc k2
  have kk3 := kk2.trans k2.nix
  have rRl2 := rowV.lt
  clear hr2 k2 kk2
  rcases test_eq (endS y.2) 0 with ⟨t, he⟩ | ⟨t, he⟩
  · have t' : (endS y.2 != 0) = false := by simp [he.out]
    have hld : (wholeSem 35 (.pointer (some ⟨w1.heap.size, 0, none⟩))).run Try.prog w2 = .ok (.value (.agg cs.toArray)) w2 := Whole.row S_Call hlc.out rowV
    have hst := store_run (P := Try.prog) (cs := cs) S_Call rowR rfl hlc.out HO.out
    have rowF := rowR.setRow cs
    have kS := (Keep.refl (· = w.heap.size + 1) w2).setRow (fun _ => rfl) cs.toArray
    have hin : (Try.prog.info? 35).map (·.size) = some cs.toArray.size := by rw [List.size_toArray, hlc.out]; exact S_Call.info
    have HIN := Lib.hid hin
    clear hin rowV
    go_wp2_with fail
    refine bodyPost_ret (results_cell_row2 (by rfl) _ _ _ _ _ _ _ (by rfl) rowF Try.underlying35 (by rfl) HIN.out) rfl ?_
    rw [HY.out, endP_ok he.out]
    exact ⟨cs, rfl, wGCall_lawful.mono (wGCall_lawful.keep hc kS (fun b hb e => by have := hb.1; omega)) (fun b hb => (⟨by have := hb.1; omega, by have := hb.2; have := kS.size; omega⟩ : NewIn w (w2.setRow (w.heap.size + 1) cs.toArray) b)), HO.out, kk3.then kS (fun i hi e => by omega)⟩
  · have t' : (endS y.2 != 0) = true := by simp [he]
    have HE := Lib.hid he
    clear he
    have rowN : RowIs (w2.alloc (.cells #[.int .u64 0, .int .u64 0, .slice none 0 0] 35)) w2.heap.size 35 [.int .u64 0, .int .u64 0, .slice none 0 0] := RowIs.alloc w2 _ _
    have rowR2 := rowR.keep ((Keep.refl Nix w2).alloc (.cells #[.int .u64 0, .int .u64 0, .slice none 0 0] 35)) id
    have hld : (wholeSem 35 (.pointer (some ⟨w2.heap.size, 0, none⟩))).run Try.prog (w2.alloc (.cells #[.int .u64 0, .int .u64 0, .slice none 0 0] 35)) = .ok (.value (.agg #[.int .u64 0, .int .u64 0, .slice none 0 0])) (w2.alloc (.cells #[.int .u64 0, .int .u64 0, .slice none 0 0] 35)) := Whole.row S_Call rfl rowN
    have hst := store_run (P := Try.prog) (cs := [.int .u64 0, .int .u64 0, .slice none 0 0]) S_Call rowR2 rfl rfl rfl
    have rowF := rowR2.setRow [.int .u64 0, .int .u64 0, .slice none 0 0]
    have kS := ((Keep.refl (· = w.heap.size + 1) w2).alloc (.cells #[.int .u64 0, .int .u64 0, .slice none 0 0] 35)).setRow (fun _ => rfl) (#[.int .u64 0, .int .u64 0, .slice none 0 0] : Array Value)
    clear rowN rowV rowR2
    go_wp2_with fail
    refine bodyPost_ret (results_cell_row2 (by rfl) _ _ _ _ _ _ _ (by rfl) rowF Try.underlying35 (by rfl) S_Call.info) rfl ?_
    rw [HY.out, endP_no HE.out]
    exact ⟨[.int .u64 0, .int .u64 0, .slice none 0 0], rfl, zGCall_w _ _, rfl, kk3.then kS (fun i hi e => by omega)⟩
end
section
attribute [local go_sem ↓] st_Call
set_option maxRecDepth 100000 in
set_option maxHeartbeats 8000000 in
theorem wTakeCall_c {p : Nat → Prop} (a : Option Addr) (n ca : Nat) (l : List UInt8) (w : World) (hn : l.length = n) (ha : Lies w p a (l.map bv)) (hr0 : n ≤ 140737488355328) :
    Calls Try.prog 23 #[.slice a n ca] w (Took wGCall w (takeP pGCall zGCall l)) := by
  have rowR : RowIs (w.alloc (.cells #[.int .u64 0, .int .u64 0, .slice none 0 0] 35)) w.heap.size 35 [.int .u64 0, .int .u64 0, .slice none 0 0] := RowIs.alloc w _ _
  have ha1 := ha.keep ((Keep.refl Nix w).alloc (.cells #[.int .u64 0, .int .u64 0, .slice none 0 0] 35)) (fun _ _ h => h)
  have hmf : ∀ (fn : Fn) (first cap : Array Value) (w : World), (Instr.makeFunc fn first cap).run Try.prog w = .ok (.func fn first cap) w := fun _ _ _ _ => rfl
  have HN := Lib.hid hn
  have kk : Keep Nix w (w.alloc (.cells #[.int .u64 0, .int .u64 0, .slice none 0 0] 35)) := (Keep.refl Nix w).alloc _
  clear hn ha
  go_enter Try.func23, Try.ntmps23
  go_wp2_with fail
  go_fit (New_rd a n ca l _ HN.out ha1 hr0)
  rintro e w1 ⟨rd, rfl, hrd, hr, k1⟩
  have hrt := hr.tight
  have rRl0 := rowR.lt
  replace rowR := rowR.keep k1 id
  have rRl := rowR.lt
  have hrd' : w.heap.size < rd := by simp at hrd; omega
  have hrl := hr.lt
  have hr2 := hrt.nix ((Keep.refl Nix w1).alloc (.cells #[.pointer (some ⟨rd, 0, none⟩)] 92))
  have rowR2 := rowR.keep ((Keep.refl Nix w1).alloc (.cells #[.pointer (some ⟨rd, 0, none⟩)] 92)) id
  have kk2 : Keep Nix w (w1.alloc (.cells #[.pointer (some ⟨rd, 0, none⟩)] 92)) := (kk.trans k1).alloc _
  have hs1 : w1.heap.size ≤ (w1.alloc (.cells #[.pointer (some ⟨rd, 0, none⟩)] 92)).heap.size := by simp
  clear hr hrt k1 kk ha1 rowR hrd
  go_wp2_with fail
  go_fit (allCall_c rd _ ⟨l, 0, 0, []⟩ _ hr2 (fun b hb => Nat.lt_of_lt_of_le hb.2 hs1))
  rintro e w2 ⟨cs, rfl, hc, ho, k2⟩
  have hlc := Lib.hid (wGCall_lawful.len hc)
  have HO := Lib.hid ho
  have hT : Hid (takeP pGCall zGCall l = endP zGCall (pGCall ⟨l, 0, 0, []⟩)) := rfl
  generalize endP zGCall (pGCall ⟨l, 0, 0, []⟩) = y at hc hT ⊢
  replace rowR2 := rowR2.keep k2 (by omega)
  have kk3 : Keep Nix w w2 := kk2.then k2 (fun i hi e => by omega)
  have hst := store_run (P := Try.prog) (cs := cs) S_Call rowR2 rfl hlc.out HO.out
  have rowF := rowR2.setRow cs
  have kS := (Keep.refl (· = w.heap.size) w2).setRow (fun _ => rfl) cs.toArray
  have hin : (Try.prog.info? 35).map (·.size) = some cs.toArray.size := by rw [List.size_toArray, hlc.out]; exact S_Call.info
  have HIN := Lib.hid hin
  have hs3 := k2.size
  clear hin ho hr2 k2 kk2
  go_wp2_with fail
  refine bodyPost_ret (results_cell_row2 (by rfl) _ _ _ _ _ _ _ (by rfl) rowF Try.underlying35 (by rfl) HIN.out) rfl ?_
  rw [hT.out]
  exact ⟨cs, rfl, wGCall_lawful.mono (wGCall_lawful.keep hc kS (fun b hb e => by have := hb.1; omega)) (fun b hb => (⟨by have := hb.1; omega, by have := hb.2; have := kS.size; omega⟩ : NewIn w (w2.setRow w.heap.size cs.toArray) b)), HO.out, kk3.then kS (fun i hi e => by omega)⟩
end
end Go.Proofs.Ythchpdflnpfjkaa
