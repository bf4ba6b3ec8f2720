/- THE REFERENCE's READER: lists and structs. Printed by gen9.py. -/
import Derived.Test.YthchpdflnpfjkaaQIn
import Derived.Test.YthchpdflnpfjkaaQItems
import Derived.Test.YthchpdflnpfjkaaQGtX
import Derived.Test.YthchpdflnpfjkaaQTakA
namespace Go.Proofs.Ythchpdflnpfjkaa
open Go.RowKit

end Go.Proofs.Ythchpdflnpfjkaa
namespace Go.Proofs.Ythchpdflnpfjkaa
open Go.RowKit

end Go.Proofs.Ythchpdflnpfjkaa
namespace Go.Proofs.Ythchpdflnpfjkaa
open Go.RowKit

end Go.Proofs.Ythchpdflnpfjkaa
namespace Go.Proofs.Ythchpdflnpfjkaa
open Go.RowKit

end Go.Proofs.Ythchpdflnpfjkaa
namespace Go.Proofs.Ythchpdflnpfjkaa
open Go.RowKit

end Go.Proofs.Ythchpdflnpfjkaa
namespace Go.Proofs.Ythchpdflnpfjkaa
open Go.RowKit

theorem ldt_Call (a : Act) (dst : Option Tmp) (x : Operand) (ty : TypeId) (pos : String) (after : Array Edge) (guard : Option (Nat × Bool)) : execOp a.eval { dst := dst, op := .load 35 x, type := ty, pos := pos, after := after, guard := guard } = wholeSem 35 (a.eval x) := rfl
section
attribute [local go_sem ↓] ldt_Call st_Call
set_option maxRecDepth 100000 in
set_option maxHeartbeats 8000000 in
theorem iTakeCall_c {p0 : Nat → Prop} (a : Option Addr) (n ca : Nat) (l : List UInt8) (w : World) (hn : l.length = n) (ha : Lies w p0 a (l.map bv)) (hr0 : n ≤ 140737488355328) :
    Calls Try.prog 38 #[.slice a n ca] w (Took rGCall w (takeP pGCall zGCall l)) := by
  have rowR : RowIs (w.alloc (.cells #[.int .u64 0, .int .u64 0, .slice none 0 0] 35)) w.heap.size 35 [.int .u64 0, .int .u64 0, .slice none 0 0] := RowIs.alloc w _ _
  have ha1 := ha.keep ((Keep.refl Nix w).alloc (.cells #[.int .u64 0, .int .u64 0, .slice none 0 0] 35)) (fun _ _ h => h)
  have HN := Lib.hid hn
  have kko : Keep Nix w (w.alloc (.cells #[.int .u64 0, .int .u64 0, .slice none 0 0] 35)) := (Keep.refl Nix w).alloc _
  clear hn ha
  go_enter Try.func38, Try.ntmps38
  go_wp2_with fail
  go_fit (open_c a n ca l _ HN.out ha1 hr0)
  rintro e w0 ⟨x, rfl, hx, hr0', ko⟩
  have hx1 : w.heap.size < x := by simp at hx; omega
  replace rowR := rowR.keep ko id
  have hR0 := rowR.lt
  obtain ⟨p, hpl, hpn, hr⟩ : ∃ p : Nat → Prop, (∀ b, p b → b < w0.heap.size) ∧ (∀ b, p b → w.heap.size < b) ∧ IsIn w0 x p ⟨l, 0, 0, []⟩ := ⟨_, fun b hb => hb.2.1, fun b hb => by have := hb.1; simp at this; omega, hr0'⟩
  have hlt := hr.lt
  have kk : Keep (· = x) w0 w0 := Keep.refl _ _
  replace kko := kko.trans ko
  have hks := kko.size
  clear hr0' ko ha1 hx
  go_wp2_with fail
  go_fit (inum_g x p _ _ hr)
  rintro e w1 ⟨rfl, hr', k0⟩
  have wf0 : Hid ((Lit.int .u64 (pNum (⟨l, 0, 0, []⟩ : RdS)).1).wf = true) := num_wf (numS_lt maxU _)
  generalize hy0 : pNum (⟨l, 0, 0, []⟩ : RdS) = y0 at hr' wf0 ⊢
  replace hy0 := Lib.hid hy0
  have rRl := rowR.lt
  have ks0 := k0.size
  replace rowR := rowR.keep k0 (by omega)
  have rRl1 := rowR.lt
  have hst0 := store_run (P := Try.prog) (cs := [.int .u64 y0.1, .int .u64 0, .slice none 0 0]) S_Call (RowIs.alloc w1 #[.int .u64 0, .int .u64 0, .slice none 0 0] 35) rfl rfl rfl
  have rowT := (RowIs.alloc w1 #[.int .u64 0, .int .u64 0, .slice none 0 0] 35).setRow [.int .u64 y0.1, .int .u64 0, .slice none 0 0]
  have kT := ((Keep.refl (· = w1.heap.size) w1).alloc (.cells #[.int .u64 0, .int .u64 0, .slice none 0 0] 35)).setRow (fun _ => rfl) (#[.int .u64 y0.1, .int .u64 0, .slice none 0 0] : Array Value)
  replace rowR := rowR.keep kT (by omega)
  have hr1 := hr'.lt
  have hxT : x < w1.heap.size := hr1
  replace hr := hr'.keep kT (by omega) (fun b hb e => by have := hpl b hb; omega)
  replace kk := (kk.trans k0).then kT (fun i hi e => by omega)
  clear hr' k0 kT hr1
  go_wp2_with fail
  clear hst0
  go_fit (inum_g x p _ _ hr)
  rintro e w2 ⟨rfl, hr', k1⟩
  have wf1 : Hid ((Lit.int .u64 (pNum y0.2).1).wf = true) := num_wf (numS_lt maxU _)
  generalize hy1 : pNum y0.2 = y1 at hr' wf1 ⊢
  replace hy1 := Lib.hid hy1
  have rTl := rowT.lt
  replace rowT := rowT.keep k1 (by omega)
  replace rowR := rowR.keep k1 (by omega)
  have xc0 : w2.cell? ⟨w1.heap.size, 1, none⟩ = some (.int .u64 0) := rowT.cell 1
  have xf0 : w2.frozen? ⟨w1.heap.size, 1, none⟩ = false := rowT.frozen 1
  replace rowT := rowT.set 1 (.int .u64 y1.1)
  replace rowT : RowIs (w2.setCell ⟨w1.heap.size, 1, none⟩ (.int .u64 y1.1)) w1.heap.size 35 [.int .u64 y0.1, .int .u64 y1.1, .slice none 0 0] := rowT
  have kT := (Keep.refl (· = w1.heap.size) w2).setCell (p := ⟨w1.heap.size, 1, none⟩) (fun _ => rfl) (.int .u64 y1.1)
  replace rowR := rowR.keep kT (by omega)
  replace hr := hr'.keep kT (by omega) (fun b hb e => by have := hpl b hb; omega)
  replace kk := (kk.trans k1).then kT (fun i hi e => by omega)
  clear hr' k1 kT rTl
  go_wp2_with fail
  clear xc0 xf0
  go_fit (ibytes_g x p _ _ hr)
  rintro e w3 ⟨v, rfl, q2, hr', k2⟩
  generalize hy2 : pBytes y1.2 = y2 at hr' q2
  replace hy2 := Lib.hid hy2
  obtain ⟨a2, cc2, hv, q2'⟩ := rBytes_open q2
  simp only [List.cons.injEq, and_true] at hv
  subst hv
  clear q2
  have q2 := q2'
  clear q2'
  have rTl := rowT.lt
  replace rowT := rowT.keep k2 (by omega)
  replace rowR := rowR.keep k2 (by omega)
  replace q2 := rBytes_lawful.mono q2 (fun b hb => (⟨by have := hb.1; omega, hb.2, by have := hb.1; omega⟩ : NewBut w0.heap.size w1.heap.size w3 b))
  have xc0 : w3.cell? ⟨w1.heap.size, 2, none⟩ = some (.slice none 0 0) := rowT.cell 2
  have xf0 : w3.frozen? ⟨w1.heap.size, 2, none⟩ = false := rowT.frozen 2
  replace rowT := rowT.set 2 (.slice a2 y2.1.length cc2)
  replace rowT : RowIs (w3.setCell ⟨w1.heap.size, 2, none⟩ (.slice a2 y2.1.length cc2)) w1.heap.size 35 [.int .u64 y0.1, .int .u64 y1.1, .slice a2 y2.1.length cc2] := rowT
  have kT := (Keep.refl (· = w1.heap.size) w3).setCell (p := ⟨w1.heap.size, 2, none⟩) (fun _ => rfl) (.slice a2 y2.1.length cc2)
  replace rowR := rowR.keep kT (by omega)
  replace hr := hr'.keep kT (by omega) (fun b hb e => by have := hpl b hb; omega)
  replace kk := (kk.trans k2).then kT (fun i hi e => by omega)
  replace q2 := rBytes_lawful.mono (rBytes_lawful.keep q2 kT (fun b hb e => hb.2.2 e)) (fun b hb => (⟨hb.1, Nat.lt_of_lt_of_le hb.2.1 kT.size, hb.2.2⟩ : NewBut w0.heap.size w1.heap.size (w3.setCell ⟨w1.heap.size, 2, none⟩ (.slice a2 y2.1.length cc2)) b))
  clear hr' k2 kT rTl
  go_wp2_with fail
  clear xc0 xf0
  have HE : Hid (pGCall ⟨l, 0, 0, []⟩ = (⟨y0.1, y1.1, y2.1⟩, y2.2)) := by show _ = _; simp only [pGCall, hy0.out, hy1.out, hy2.out]
  go_fit (iend_c x p _ _ hr)
  rintro e wE ⟨rfl, kE⟩
  replace rowT := rowT.keep kE id
  replace rowR := rowR.keep kE id
  replace q2 := rBytes_lawful.mono (rBytes_lawful.nix q2 kE) (fun b hb => (⟨hb.1, Nat.lt_of_lt_of_le hb.2.1 kE.size, hb.2.2⟩ : NewBut w0.heap.size w1.heap.size wE b))
  have kk3 : Keep Nix w wE := kko.then (kk.trans kE.nix) (fun i hi e => by omega)
  have kEs := kE.size
  have hTl := rowT.lt
  clear kE hr kk
  rcases test_eq (endS y2.2) 0 with ⟨t, he⟩ | ⟨t, he⟩
  · have t' : (endS y2.2 != 0) = false := by simp [he.out]
    have hld : (wholeSem 35 (.pointer (some ⟨w1.heap.size, 0, none⟩))).run Try.prog wE = .ok (.value (.agg #[.int .u64 y0.1, .int .u64 y1.1, .slice a2 y2.1.length cc2])) wE := Whole.row S_Call rfl rowT
    have hst := store_run (P := Try.prog) (cs := [.int .u64 y0.1, .int .u64 y1.1, .slice a2 y2.1.length cc2]) S_Call rowR rfl rfl rfl
    have rowF := rowR.setRow [.int .u64 y0.1, .int .u64 y1.1, .slice a2 y2.1.length cc2]
    have kS := (Keep.refl (· = w.heap.size) wE).setRow (fun _ => rfl) (#[.int .u64 y0.1, .int .u64 y1.1, .slice a2 y2.1.length cc2] : Array Value)
    clear rowT
    go_wp2_with fail
    refine bodyPost_ret (results_cell_row2 (by rfl) _ _ _ _ _ _ _ (by rfl) rowF Try.underlying35 (by rfl) S_Call.info) rfl ?_
    unfold takeP
    rw [HE.out, endP_ok (y := ((⟨y0.1, y1.1, y2.1⟩ : GCall), y2.2)) he.out]
    replace q2 := rBytes_lawful.mono (rBytes_lawful.keep q2 kS (fun b hb e => by have := hb.1; omega)) (fun b hb => (⟨by have := hb.1; omega, Nat.lt_of_lt_of_le hb.2.1 kS.size⟩ : NewIn w (wE.setRow w.heap.size #[.int .u64 y0.1, .int .u64 y1.1, .slice a2 y2.1.length cc2]) b))
    exact ⟨[.int .u64 y0.1, .int .u64 y1.1, .slice a2 y2.1.length cc2], rfl, ⟨[.int .u64 y0.1], [.int .u64 y1.1], [.slice a2 y2.1.length cc2], rfl, ⟨rfl, wf0.out⟩, ⟨rfl, wf1.out⟩, q2⟩, rfl, kk3.then kS (fun i hi e => by omega)⟩
  · have t' : (endS y2.2 != 0) = true := by simp [he]
    have HNE := Lib.hid he
    clear he
    have hst := store_run (P := Try.prog) (cs := [.int .u64 0, .int .u64 0, .slice none 0 0]) S_Call rowR rfl rfl rfl
    have rowF := rowR.setRow [.int .u64 0, .int .u64 0, .slice none 0 0]
    have kS := (Keep.refl (· = w.heap.size) wE).setRow (fun _ => rfl) (#[.int .u64 0, .int .u64 0, .slice none 0 0] : Array Value)
    clear rowT
    go_wp2_with fail
    refine bodyPost_ret (results_cell_row2 (by rfl) _ _ _ _ _ _ _ (by rfl) rowF Try.underlying35 (by rfl) S_Call.info) rfl ?_
    unfold takeP
    rw [HE.out, endP_no (y := ((⟨y0.1, y1.1, y2.1⟩ : GCall), y2.2)) HNE.out]
    exact ⟨[.int .u64 0, .int .u64 0, .slice none 0 0], rfl, zGCall_r _ _, rfl, kk3.then kS (fun i hi e => by omega)⟩
end
end Go.Proofs.Ythchpdflnpfjkaa
