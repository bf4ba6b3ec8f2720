/- PAGES: Get. Printed by mac.py. -/
import Derived.Test.YthkocgpbpgfocaaPgL
namespace Go.Proofs.Ythkocgpbpgfocaa
open Go.RowKit

theorem findF_mem {l : List GPair} (h : l.Pairwise ltP) {x : GPair} (hx : x ∈ l) : findF l x.fKey = x := by
  obtain ⟨k, hk, rfl⟩ := List.mem_iff_getElem.1 hx
  refine (found_some hk (fun q hq hqk e => ?_) rfl).2
  have h2 := List.pairwise_iff_getElem.1 h q k hq hk hqk
  unfold ltP at h2
  rw [e, ltB_irrefl] at h2
  cases h2
def GetM (w : World) (l : List GPair) (key : List UInt8) (e : Ending) (w' : World) : Prop :=
  ∃ (cs : List Value) (R : Nat → Prop), e = .returned (.tuple #[.agg cs.toArray, .bool (hasK l key)]) ∧ rGPair w' R cs (findF l key) ∧ Keep Nix w w'
theorem gz (w : World) (p : Nat → Prop) : rGPair w p [.slice none 0 0, .slice none 0 0, .int .i64 0] ⟨[], [], 0⟩ := rGPair_mk (x := ⟨[], [], 0⟩) w p ⟨Lies.nil _ _ _, Nat.zero_le _, Nat.zero_le _⟩ ⟨Lies.nil _ _ _, Nat.zero_le _, Nat.zero_le _⟩ (show isI64 0 by unfold isI64; omega)
set_option maxRecDepth 100000 in
set_option maxHeartbeats 4000000 in
theorem get_m {q : Nat → Prop} (O : Nat → Prop) (g : Nat) (l : List GPair) (key : List UInt8) (ak : Option Addr) (ck : Nat) (w : World) (M : IsMap w O g l) (hl : l.length ≤ 100000) (hk : Lies w q ak (key.map bv)) :
    Calls Try.prog 19 #[.pointer (some ⟨g, 0, none⟩), .slice ak key.length ck] w (GetM w l key) := by
  obtain ⟨L, B, aP, cP, S, MI0, ok, hr, rfl⟩ := M
  have hLn := pages_len (fun l hl => (ok.one l hl).1)
  have k0 : Keep Nix w (w.alloc (.cells #[.slice none 0 0, .slice none 0 0, .int .i64 0] 29)) := (Keep.refl Nix w).alloc _
  have rowZ : RowIs (w.alloc (.cells #[.slice none 0 0, .slice none 0 0, .int .i64 0] 29)) w.heap.size 29 [.slice none 0 0, .slice none 0 0, .int .i64 0] := RowIs.alloc w #[.slice none 0 0, .slice none 0 0, .int .i64 0] 29
  have hinfo : (Try.prog.info? 29).map (·.size) = some 3 := by kernel_rfl
  have MI := MI0.keep k0.nix (T := fun _ => False) (fun _ _ h => h)
  have HM := Lib.hid MI
  have HR := Lib.hid hr
  have hk0 := hk.keep k0 (fun _ _ h => h)
  rcases Nat.eq_zero_or_pos L.length with hL0 | hL0
  · have row := MI.row
    rw [hL0] at row
    have hz := find_zero g cP aP (.slice ak key.length ck) (w.alloc (.cells #[.slice none 0 0, .slice none 0 0, .int .i64 0] 29)) row
    obtain rfl : L = [] := List.eq_nil_of_length_eq_zero hL0
    have F := found_none (l := ([] : List (List GPair)).flatten) (key := key) (fun q hq => absurd hq (Nat.not_lt_zero q))
    have HF := Lib.hid F
    clear MI MI0 ok hr row hk hk0 F
    go_enter Try.func19, Try.ntmps19
    go_wp2_with fail
    generalize (w.alloc (.cells #[.slice none 0 0, .slice none 0 0, .int .i64 0] 29)) = w0 at *
    go_fit hz
    clear hz
    rintro e wr ⟨rfl, hw⟩
    have k1 : Keep Nix w0 wr := by rw [← hw]; exact Keep.refl _ _
    have rowZ1 := rowZ.keep k1 id
    clear hw
    have z0 := rowZ1.cell 0
    (try simp only [List.getElem?_cons_zero] at z0)
    have z1 := rowZ1.cell 1
    (try simp only [List.getElem?_cons_succ] at z1); (try simp only [List.getElem?_cons_zero] at z1)
    have z2 := rowZ1.cell 2
    (try simp only [List.getElem?_cons_succ] at z2); (try simp only [List.getElem?_cons_zero] at z2)
    have zf0 := rowZ1.frozen 0
    have zf1 := rowZ1.frozen 1
    have zf2 := rowZ1.frozen 2
    go_wp2_with fail
    have rowR : RowIs (((wr.setCell ⟨w.heap.size, 0, none⟩ (.slice none 0 0)).setCell ⟨w.heap.size, 1, none⟩ (.slice none 0 0)).setCell ⟨w.heap.size, 2, none⟩ (.int .i64 0)) w.heap.size 29 [.slice none 0 0, .slice none 0 0, .int .i64 0] := ((rowZ1.set 0 (.slice none 0 0)).set 1 (.slice none 0 0)).set 2 (.int .i64 0)
    have kR : Keep (· = w.heap.size) wr (((wr.setCell ⟨w.heap.size, 0, none⟩ (.slice none 0 0)).setCell ⟨w.heap.size, 1, none⟩ (.slice none 0 0)).setCell ⟨w.heap.size, 2, none⟩ (.int .i64 0)) := (((Keep.refl (· = w.heap.size) wr).setCell (p := ⟨w.heap.size, 0, none⟩) (fun _ => rfl) _).setCell (p := ⟨w.heap.size, 1, none⟩) (fun _ => rfl) _).setCell (p := ⟨w.heap.size, 2, none⟩) (fun _ => rfl) _
    refine bodyPost_ret (results_cell_row2 (by rfl) _ _ _ _ _ _ _ (by rfl) rowR Try.underlying29 (by rfl) hinfo) rfl ?_
    exact ⟨[.slice none 0 0, .slice none 0 0, .int .i64 0], fun _ => True, by rw [HF.out.1]; rfl, by rw [HF.out.2]; exact gz _ _, (k0.trans k1).then kR (fun i hi e => by omega)⟩
  have hfar : ∀ l ∈ L, l.length ≤ far := fun l hl => by have := (ok.one l hl).2; unfold far; omega
  have hfc := find_c g aP ak cP ck L key (w.alloc (.cells #[.slice none 0 0, .slice none 0 0, .int .i64 0] 29)) MI.row (MI.pages (by unfold far; omega) hfar) (fun l hl => (ok.one l hl).1) hr hL0 hk0
  have HOK := Lib.hid ok
  clear hfar hk hk0 ok hr MI MI0
  go_enter Try.func19, Try.ntmps19
  go_wp2_with fail
  generalize (w.alloc (.cells #[.slice none 0 0, .slice none 0 0, .int .i64 0] 29)) = w0 at *
  go_fit hfc
  clear hfc
  rintro e wr ⟨i, k, is, rfl, FP, k1⟩
  have rowZ1 := rowZ.keep k1 id
  cases is with
  | false =>
    have F := found_none (l := L.flatten) (key := key) (fun q hq => FP.no rfl _ (List.getElem_mem hq))
    have HF := Lib.hid F
    clear F FP
    have z0 := rowZ1.cell 0
    (try simp only [List.getElem?_cons_zero] at z0)
    have z1 := rowZ1.cell 1
    (try simp only [List.getElem?_cons_succ] at z1); (try simp only [List.getElem?_cons_zero] at z1)
    have z2 := rowZ1.cell 2
    (try simp only [List.getElem?_cons_succ] at z2); (try simp only [List.getElem?_cons_zero] at z2)
    have zf0 := rowZ1.frozen 0
    have zf1 := rowZ1.frozen 1
    have zf2 := rowZ1.frozen 2
    go_wp2_with fail
    have rowR : RowIs (((wr.setCell ⟨w.heap.size, 0, none⟩ (.slice none 0 0)).setCell ⟨w.heap.size, 1, none⟩ (.slice none 0 0)).setCell ⟨w.heap.size, 2, none⟩ (.int .i64 0)) w.heap.size 29 [.slice none 0 0, .slice none 0 0, .int .i64 0] := ((rowZ1.set 0 (.slice none 0 0)).set 1 (.slice none 0 0)).set 2 (.int .i64 0)
    have kR : Keep (· = w.heap.size) wr (((wr.setCell ⟨w.heap.size, 0, none⟩ (.slice none 0 0)).setCell ⟨w.heap.size, 1, none⟩ (.slice none 0 0)).setCell ⟨w.heap.size, 2, none⟩ (.int .i64 0)) := (((Keep.refl (· = w.heap.size) wr).setCell (p := ⟨w.heap.size, 0, none⟩) (fun _ => rfl) _).setCell (p := ⟨w.heap.size, 1, none⟩) (fun _ => rfl) _).setCell (p := ⟨w.heap.size, 2, none⟩) (fun _ => rfl) _
    refine bodyPost_ret (results_cell_row2 (by rfl) _ _ _ _ _ _ _ (by rfl) rowR Try.underlying29 (by rfl) hinfo) rfl ?_
    exact ⟨[.slice none 0 0, .slice none 0 0, .int .i64 0], fun _ => True, by rw [HF.out.1]; rfl, by rw [HF.out.2]; exact gz _ _, (k0.trans k1).then kR (fun i hi e => by omega)⟩
  | true =>
    have M1 := HM.out.keep k1.nix (T := fun _ => False) (fun _ _ h => h)
    obtain ⟨bP, restP, rfl, -, rowPg, hPl, -, -, hcP⟩ := own_row M1.own hL0
    have hi := FP.hi
    obtain ⟨hk, hkey⟩ := FP.yes rfl
    obtain ⟨hiS, ai, ci, css, eS, ownI, elsI⟩ := M1.pg i hi
    have hli := HOK.out.one _ (List.getElem_mem hi)
    rw [eS] at ownI
    obtain ⟨bi, resti, rfl, -, rowI, hIl, hIx, hIc, hcI⟩ := own_row ownI hli.1
    have hii0 : (0 : Int) ≤ (i : Int) := by omega
    have hii1 : (i : Int) < (L.length : Int) := by omega
    have hki0 : (0 : Int) ≤ (k : Int) := by omega
    have hki1 : (k : Int) < (L[i].length : Int) := by omega
    have hcell : (S ++ restP)[i]? = some (.slice (some ⟨bi, 0, none⟩) L[i].length ci) := by rw [List.getElem?_append_left hiS, List.getElem?_eq_getElem hiS, eS]
    have y0 := (rowPg.cell i).trans hcell
    have g0 := M1.row.cell 0
    (try simp only [List.getElem?_cons_zero] at g0)
    have hcl : css.length = L[i].length := elsI.1
    have hrl : rList rGPair wr (fun _ => True) [.slice (some ⟨bi, 0, none⟩) L[i].length ci] L[i] := ⟨some ⟨bi, 0, none⟩, ci, css, rfl, hcl, (Lies.of_owned ownI).mono (fun _ _ => trivial), hIc, by unfold far; omega, fun a d y hd hy => rGPair_lawful.mono (elsI.2 a d y hd hy) (fun _ _ => trivial)⟩
    obtain ⟨bq, oq, aK, cK, aV, cV, e, hbw, -, rx, x0, x1, x2⟩ := at_pair hrl k hk
    simp only [Option.some.injEq, Addr.mk.injEq, and_true] at e
    obtain ⟨rfl, rfl⟩ := e
    have hmem : L[i][k] ∈ L.flatten := List.mem_flatten.2 ⟨_, List.getElem_mem hi, List.getElem_mem hk⟩
    obtain ⟨x, hx⟩ : ∃ x, L[i][k] = x := ⟨_, rfl⟩
    rw [hx] at hkey hmem rx x0 x1 x2
    have HF : Hid (hasK L.flatten key = true ∧ findF L.flatten key = x) := by
      rw [← hkey]
      exact ⟨hasK_some hmem, findF_mem HR.out hmem⟩
    rw [Nat.zero_add] at x0 x1 x2
    have hOw := own_p x _ wr rx
    clear hrl hcl elsI ownI rowI hIl hIx eS hcell rowPg hPl hkey hmem
    go_wp2_with fail
    go_fit hOw
    rintro e w2 ⟨cn, rfl, hcn, k2⟩
    have hG := hcn.gp
    obtain ⟨a1, c1, a2, c2, rfl, o1, o2, -⟩ := hcn
    have rowZ2 := rowZ1.keep k2 id
    have z0 := rowZ2.cell 0
    (try simp only [List.getElem?_cons_zero] at z0)
    have z1 := rowZ2.cell 1
    (try simp only [List.getElem?_cons_succ] at z1); (try simp only [List.getElem?_cons_zero] at z1)
    have z2 := rowZ2.cell 2
    (try simp only [List.getElem?_cons_succ] at z2); (try simp only [List.getElem?_cons_zero] at z2)
    have zf0 := rowZ2.frozen 0
    have zf1 := rowZ2.frozen 1
    have zf2 := rowZ2.frozen 2
    have hwl := rowZ1.lt
    clear x0 x1 x2 y0 g0 hOw o1 o2
    have HG := Lib.hid hG
    clear hG
    go_wp2_with fail
    have rowR : RowIs (((w2.setCell ⟨w.heap.size, 0, none⟩ (.slice a1 x.fKey.length c1)).setCell ⟨w.heap.size, 1, none⟩ (.slice a2 x.fValue.length c2)).setCell ⟨w.heap.size, 2, none⟩ (.int .i64 x.fVersion)) w.heap.size 29 [.slice a1 x.fKey.length c1, .slice a2 x.fValue.length c2, .int .i64 x.fVersion] := ((rowZ2.set 0 (.slice a1 x.fKey.length c1)).set 1 (.slice a2 x.fValue.length c2)).set 2 (.int .i64 x.fVersion)
    have kR : Keep (· = w.heap.size) w2 (((w2.setCell ⟨w.heap.size, 0, none⟩ (.slice a1 x.fKey.length c1)).setCell ⟨w.heap.size, 1, none⟩ (.slice a2 x.fValue.length c2)).setCell ⟨w.heap.size, 2, none⟩ (.int .i64 x.fVersion)) := (((Keep.refl (· = w.heap.size) w2).setCell (p := ⟨w.heap.size, 0, none⟩) (fun _ => rfl) _).setCell (p := ⟨w.heap.size, 1, none⟩) (fun _ => rfl) _).setCell (p := ⟨w.heap.size, 2, none⟩) (fun _ => rfl) _
    refine bodyPost_ret (results_cell_row2 (by rfl) _ _ _ _ _ _ _ (by rfl) rowR Try.underlying29 (by rfl) hinfo) rfl ?_
    exact ⟨[.slice a1 x.fKey.length c1, .slice a2 x.fValue.length c2, .int .i64 x.fVersion], _, by rw [HF.out.1]; rfl, by rw [HF.out.2]; exact rGPair_lawful.keep HG.out kR (fun b hb e => by have := hb.1; omega), ((k0.trans k1).trans k2).then kR (fun i hi e => by omega)⟩
end Go.Proofs.Ythkocgpbpgfocaa
