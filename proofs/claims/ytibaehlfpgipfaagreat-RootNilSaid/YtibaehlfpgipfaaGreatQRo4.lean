/- ROOT: Routes. Printed by mac.py. -/
import Derived.Test.YtibaehlfpgipfaaGreatQRo3
namespace Go.Proofs.YtibaehlfpgipfaaGreat
open Go.RowKit

theorem OwnR.list {base : Nat} {w : World} {a : Option Addr} {c : Nat} {css : List (List Value)} {l : List GOwner} {p : Nat → Prop} (own : w.ownsRow base 97 2 (.slice a l.length c) l.length css.flatten) (els : Els rGOwner w p css l) (hp : ∀ b, OwnB (.slice a l.length c) b → p b) (hf : l.length ≤ far) : rList rGOwner w p [.slice a l.length c] l :=
  ⟨a, c, css, rfl, els.1, fun hx => by
    obtain ⟨b, off, ha, h1, h2, h3⟩ := Lies.of_owned own hx
    exact ⟨b, off, ha, hp b h1.2, h2, h3⟩, (owned_bounds own).2.1, hf, els.2⟩
theorem OwnR.routes {base : Nat} {w : World} {cs : List Value} {r : GRoutes} (h : OwnR base w cs r) (hE : isI64 r.fEpoch) (hB : isI64 r.fBase) (hM : isI64 r.fMoving) (hf : r.fSpans.length ≤ 30) : rGRoutes w (fun b => base ≤ b ∧ b < w.heap.size) cs r := by
  obtain ⟨a, c, aC, cC, css, rfl, own, els, LC⟩ := h
  refine rGRoutes_mk _ _ hE hB (OwnR.list own (els.mono rGOwner_lawful (fun b hb => hb.1)) (fun b hb => own.lt b hb) (by unfold far; omega)) hM (LC.mono (fun b hb => hb.1))
set_option maxRecDepth 100000 in
set_option maxHeartbeats 2000000 in
theorem routes_c (O : Nat → Prop) (g n : Nat) (R : RootS) (w : World) (H : IsRoot w O g n R) :
    Calls Tryz.prog 15 #[.pointer (some ⟨g, 0, none⟩)] w (Ret rGRoutes w R.routes) := by
  have hinfo : (Tryz.prog.info? 53).map (·.size) = some 5 := by kernel_rfl
  have kA : Keep Nix w (w.alloc (.cells #[.int .i64 0, .int .i64 0, .slice none 0 0, .int .i64 0, .slice none 0 0] 53)) := (Keep.refl Nix w).alloc _
  have rowZ : RowIs (w.alloc (.cells #[.int .i64 0, .int .i64 0, .slice none 0 0, .int .i64 0, .slice none 0 0] 53)) w.heap.size 53 [.int .i64 0, .int .i64 0, .slice none 0 0, .int .i64 0, .slice none 0 0] := RowIs.alloc w _ _
  obtain ⟨lt, og, ok, bM, aC, cC, aO, cO, aS, cS, aU, cU, cssC, D, B⟩ := H.nix kA
  have rowX := B.row
  have hr := B.rts
  have hsp := ok.spans
  generalize R.routes = r at *
  obtain ⟨_, _, _, _, -, h64E, h64B, -, h64M, -⟩ := rGRoutes_open hr
  have HO := Lib.hid (routesOwn_c r [.int .i64 r.fEpoch, .int .i64 r.fBase, .slice aS r.fSpans.length cS, .int .i64 r.fMoving, .slice aU r.fCut.length cU] (w.alloc (.cells #[.int .i64 0, .int .i64 0, .slice none 0 0, .int .i64 0, .slice none 0 0] 53)) hr hsp)
  have x2 : ((w.alloc (.cells #[.int .i64 0, .int .i64 0, .slice none 0 0, .int .i64 0, .slice none 0 0] 53))).cell? ⟨g, 2, none⟩ = some (.int .i64 r.fEpoch) := by simpa using rowX.cell 2
  have x3 : ((w.alloc (.cells #[.int .i64 0, .int .i64 0, .slice none 0 0, .int .i64 0, .slice none 0 0] 53))).cell? ⟨g, 3, none⟩ = some (.int .i64 r.fBase) := by simpa using rowX.cell 3
  have x4 : ((w.alloc (.cells #[.int .i64 0, .int .i64 0, .slice none 0 0, .int .i64 0, .slice none 0 0] 53))).cell? ⟨g, 4, none⟩ = some (.slice aS r.fSpans.length cS) := by simpa using rowX.cell 4
  have x5 : ((w.alloc (.cells #[.int .i64 0, .int .i64 0, .slice none 0 0, .int .i64 0, .slice none 0 0] 53))).cell? ⟨g, 5, none⟩ = some (.int .i64 r.fMoving) := by simpa using rowX.cell 5
  have x6 : ((w.alloc (.cells #[.int .i64 0, .int .i64 0, .slice none 0 0, .int .i64 0, .slice none 0 0] 53))).cell? ⟨g, 6, none⟩ = some (.slice aU r.fCut.length cU) := by simpa using rowX.cell 6
  have HRZ := Lib.hid rowZ
  have hsz : Hid (((w.alloc (.cells #[.int .i64 0, .int .i64 0, .slice none 0 0, .int .i64 0, .slice none 0 0] 53))).heap.size = w.heap.size + 1) := by show _ = _; simp
  clear B rowX hr rowZ
  go_enter Tryz.func15, Tryz.ntmps15
  go_wp2_with fail
  go_fit HO.out
  rintro e w3 ⟨cn, rfl, hn, k3⟩
  have rn := OwnR.routes hn h64E h64B h64M hsp
  obtain ⟨bS, dS, bU, dU, css, rfl, -⟩ := hn
  have rowZ := HRZ.out.keep k3 id
  have z0 := rowZ.cell 0
  (try simp only [List.getElem?_cons_zero] at z0)
  have z1 := rowZ.cell 1
  (try simp only [List.getElem?_cons_succ] at z1); (try simp only [List.getElem?_cons_zero] at z1)
  have z2 := rowZ.cell 2
  (try simp only [List.getElem?_cons_succ] at z2); (try simp only [List.getElem?_cons_zero] at z2)
  have z3 := rowZ.cell 3
  (try simp only [List.getElem?_cons_succ] at z3); (try simp only [List.getElem?_cons_zero] at z3)
  have z4 := rowZ.cell 4
  (try simp only [List.getElem?_cons_succ] at z4); (try simp only [List.getElem?_cons_zero] at z4)
  have zf0 := rowZ.frozen 0
  have zf1 := rowZ.frozen 1
  have zf2 := rowZ.frozen 2
  have zf3 := rowZ.frozen 3
  have zf4 := rowZ.frozen 4
  have kS : Keep (· = w.heap.size) w3 (((((w3.setCell ⟨w.heap.size, 0, none⟩ (.int .i64 r.fEpoch)).setCell ⟨w.heap.size, 1, none⟩ (.int .i64 r.fBase)).setCell ⟨w.heap.size, 2, none⟩ (.slice bS r.fSpans.length dS)).setCell ⟨w.heap.size, 3, none⟩ (.int .i64 r.fMoving)).setCell ⟨w.heap.size, 4, none⟩ (.slice bU r.fCut.length dU)) := (((((Keep.refl (· = w.heap.size) w3).setCell (p := ⟨w.heap.size, 0, none⟩) (fun _ => rfl) _).setCell (p := ⟨w.heap.size, 1, none⟩) (fun _ => rfl) _).setCell (p := ⟨w.heap.size, 2, none⟩) (fun _ => rfl) _).setCell (p := ⟨w.heap.size, 3, none⟩) (fun _ => rfl) _).setCell (p := ⟨w.heap.size, 4, none⟩) (fun _ => rfl) _
  have rowR : RowIs (((((w3.setCell ⟨w.heap.size, 0, none⟩ (.int .i64 r.fEpoch)).setCell ⟨w.heap.size, 1, none⟩ (.int .i64 r.fBase)).setCell ⟨w.heap.size, 2, none⟩ (.slice bS r.fSpans.length dS)).setCell ⟨w.heap.size, 3, none⟩ (.int .i64 r.fMoving)).setCell ⟨w.heap.size, 4, none⟩ (.slice bU r.fCut.length dU)) w.heap.size 53 [.int .i64 r.fEpoch, .int .i64 r.fBase, .slice bS r.fSpans.length dS, .int .i64 r.fMoving, .slice bU r.fCut.length dU] := ((((rowZ.set 0 (.int .i64 r.fEpoch)).set 1 (.int .i64 r.fBase)).set 2 (.slice bS r.fSpans.length dS)).set 3 (.int .i64 r.fMoving)).set 4 (.slice bU r.fCut.length dU)
  have HZR := Lib.hid rowR
  have HRN := Lib.hid rn
  clear rn rowR rowZ HO x2 x3 x4 x5 x6
  go_wp2_with fail
  refine bodyPost_ret (results_cell_row (by rfl) _ _ _ _ _ _ _ (by rfl) HZR.out Tryz.underlying53 (by rfl) hinfo) rfl ?_
  have hsS := kS.size
  have hs1 := hsz.out
  exact ⟨[.int .i64 r.fEpoch, .int .i64 r.fBase, .slice bS r.fSpans.length dS, .int .i64 r.fMoving, .slice bU r.fCut.length dU], rfl, rGRoutes_lawful.mono (rGRoutes_lawful.keep HRN.out kS (fun b hb e => by have := hb.1; omega)) (fun b hb => ⟨by have := hb.1; omega, by have := hb.2; omega⟩), (kA.trans k3).then kS (fun i hi e => by omega)⟩
end Go.Proofs.YtibaehlfpgipfaaGreat
