/- PAGES: Scan. Printed by mac.py. -/
import Derived.Test.YthkocgpbpgfocaaPgT
namespace Go.Proofs.Ythkocgpbpgfocaa
open Go.RowKit

def scanF (s : GSpan) (back : Bool) (l : List GPair) : List GPair := if back then (partF s l).reverse else partF s l
theorem Tells.later {f : FuncId} {lb : Array Value} {xs : List GPair} {n1 n2 : Nat} {w w' : World} (h : Tells f lb xs n1 n2 w) (k : Keep (Off n1 n2) w w') : Tells f lb xs n1 n2 w' :=
  fun l J Jx W hW hJ hY h0 => h l J Jx W (k.trans hW) hJ hY h0
def ScanR (w : World) (l : List GPair) (e : Ending) (w' : World) : Prop := ∃ g, e = .returned (.func (.func 37) #[] #[.pointer (some ⟨g, 0, none⟩)]) ∧ Tells 37 #[.pointer (some ⟨g, 0, none⟩)] l w.heap.size w'.heap.size w' ∧ Keep Nix w w'
set_option maxRecDepth 100000 in
set_option maxHeartbeats 1000000 in
theorem scan_c {p q : Nat → Prop} (g : Nat) (aP : Option Addr) (cP : Nat) (L : List (List GPair)) (s : GSpan) (csS : List Value) (back : Bool) (w : World) (row : RowIs w g 65 [.slice aP L.length cP]) (hl : rPages w p [.slice aP L.length cP] L) (hs : rGSpan w q csS s) (hn : L.flatten.length ≤ 1000000) (hL : L.length ≤ 1000000) :
    Calls Try.prog 14 #[.pointer (some ⟨g, 0, none⟩), .agg csS.toArray, .bool back] w (ScanR w (scanF s back L.flatten)) := by
  have hmf : ∀ (fn : Fn) (first cap : Array Value) (w : World), (Instr.makeFunc fn first cap).run Try.prog w = .ok (.func fn first cap) w := fun _ _ _ _ => rfl
  have hs2 := hs
  obtain ⟨sF, dF, sT, dT, rfl, h1, h2, -⟩ := rGSpan_open hs
  have k0 : Keep Nix w (w.alloc (.cells #[.slice sF s.fFrom.length dF, .slice sT s.fTo.length dT] 37)) := (Keep.refl Nix w).alloc _
  have rowS := RowIs.alloc w #[.slice sF s.fFrom.length dF, .slice sT s.fTo.length dT] 37
  have hcall := list_c g aP cP L s _ (w.alloc (.cells #[.slice sF s.fFrom.length dF, .slice sT s.fTo.length dT] 37)) (row.keep k0 id) (rPages_lawful.nix hl k0) (rGSpan_lawful.nix hs2 k0) hn hL
  have hlen : (partF s L.flatten).length ≤ 1000000 := Nat.le_trans (List.length_filter_le _ _) hn
  have u0 := rowS.cell 0
  (try simp only [List.getElem?_cons_zero] at u0)
  have u1 := rowS.cell 1
  (try simp only [List.getElem?_cons_succ] at u1); (try simp only [List.getElem?_cons_zero] at u1)
  obtain ⟨ys, HYS⟩ : ∃ y, Hid (partF s L.flatten = y) := ⟨_, rfl⟩
  obtain ⟨Y, HY⟩ : ∃ y, Hid (scanF s back L.flatten = y) := ⟨_, rfl⟩
  rw [HYS.out] at hcall hlen
  rw [HY.out]
  have hbig : ((w.alloc (.cells #[.slice sF s.fFrom.length dF, .slice sT s.fTo.length dT] 37))).heap.size = w.heap.size + 1 := by simp
  clear hs hs2 h1 h2 row hl rowS
  go_enter Try.func14, Try.ntmps14
  go_wp2_with fail
  go_fit hcall
  clear hcall
  rintro e w2 ⟨a, c, css, rfl, own, els, k2⟩
  have k3 : Keep Nix w2 (w2.alloc (.cells #[.slice a ys.length c] 22)) := (Keep.refl Nix w2).alloc _
  have rowL := RowIs.alloc w2 #[.slice a ys.length c] 22
  have own3 := owned_keep own k3 (fun _ _ h => h)
  have els3 := els.keep rGPair_lawful k3 (fun _ _ h => h)
  have hs2 := k2.size
  have hs3 := k3.size
  have hw3 : ((w2.alloc (.cells #[.slice a ys.length c] 22))).heap.size = w2.heap.size + 1 := by simp
  have x0 := rowL.cell 0
  (try simp only [List.getElem?_cons_zero] at x0)
  have hlt : ∀ b, OwnB (.slice a ys.length c) b → b < w2.heap.size := fun b hb => (own.lt b hb).2
  have hge : ∀ b, OwnB (.slice a ys.length c) b → ((w.alloc (.cells #[.slice sF s.fFrom.length dF, .slice sT s.fTo.length dT] 37))).heap.size ≤ b := fun b hb => (own.lt b hb).1
  have kk3 : Keep Nix w (w2.alloc (.cells #[.slice a ys.length c] 22)) := (k0.trans k2).trans k3
  clear u0 u1 own els
  cases back with
  | false =>
    have e : Hid (Y = ys) := by show _ = _; rw [← HY.out, ← HYS.out]; rfl
    clear hge
    go_wp2_with fail
    go_ret
    rw [e.out]
    refine ⟨w2.heap.size, rfl, scan_tells _ _ _ c a ys _ rowL ⟨a, c, css, rfl, els3.1, (Lies.of_owned own3).mono (fun b hb => ⟨by have := hb.1; omega, by have := hlt b hb.2; omega⟩), (owned_bounds own3).2.1, by unfold far; omega, fun i d y hd hy => rGPair_lawful.mono (els3.2 i d y hd hy) (fun b hb => ⟨by have := hb.1.1; omega, by have := hb.1.2; omega⟩)⟩ ⟨by omega, by omega⟩ hlen, kk3⟩
  | true =>
    have e : Hid (Y = ys.reverse) := by show _ = _; rw [← HY.out, ← HYS.out]; rfl
    go_wp2_with fail
    go_fit (rev_c _ c a css ys _ own3 els3 hlen)
    rintro e w4 ⟨rfl, own4, k4⟩
    have hs4 := k4.size
    have rowL4 := rowL.keep k4 (fun h => by have := hlt _ h; omega)
    have els4 := (els3.keep rGPair_lawful k4 (fun b hb => hb.2)).rev
    have k4b : Keep Nix w w4 := kk3.then k4 (fun i hi h => by have := hge i h; omega)
    clear x0
    go_wp2_with fail
    go_ret
    rw [e.out]
    have hrl : ys.length = ys.reverse.length := List.length_reverse.symm
    rw [hrl] at rowL4 own4
    refine ⟨w2.heap.size, rfl, scan_tells _ _ _ c a ys.reverse _ rowL4 ⟨a, c, css.reverse, rfl, els4.1, (Lies.of_owned own4).mono (fun b hb => ⟨by have := hb.1; omega, by have := (own4.lt b hb.2).2; omega⟩), (owned_bounds own4).2.1, by unfold far; rw [List.length_reverse]; omega, fun i d y hd hy => rGPair_lawful.mono (els4.2 i d y hd hy) (fun b hb => ⟨by have := hb.1.1; omega, by have := hb.1.2; omega⟩)⟩ ⟨by omega, by omega⟩ (by rw [List.length_reverse]; exact hlen), k4b⟩
end Go.Proofs.Ythkocgpbpgfocaa
