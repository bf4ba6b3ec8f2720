/- ROUTE: In; Still; routes in memory of their own (Own). Printed by mac.py. -/
import Derived.Test.YtibaehlfpgipfaaRtAll
import Derived.Maps.AppendAt
namespace Go.Proofs.Ytibaehlfpgipfaa
open Go.RowKit
theorem step_app {P : Program} {ops : Array Oper} {o : Oper} {a : Act} {K : Act → World → Prop} {Q : Exit → Act → World → Prop} {E : Prop} {w w' : World} {t : TypeId} {v y r : Value} (hw : Region.wanted o (yielded ops a.tmps) = true) (s x : Operand)
    (ho : o.op = .call { callee := .builtin .append, args := #[s, x], argTypes := #[t, t] }) (hs : a.eval s = v) (hx : a.eval x = y) (hrun : (Builtin.append_ #[t, t] o.type #[v, y]).run P w = .ok r w') (h : K (a.put o.dst r) w') :
    if Region.wanted o (yielded ops a.tmps) = true then Oper.wp P o a w K Q else E := by
  rw [if_pos hw]
  unfold Oper.wp
  simp only [execOp, ho, resolve, invoke, builtin, List.map_toArray, List.map_cons, List.map_nil, hs, hx, hrun, Sem.run_bind, Sem.run_pure, Result.andThen_ok]
  exact h

/-- 'append(s, x)' at a step of a region that draws: one element, laid in a new block (as in the disk's texts). -/
theorem app1_run {P : Program} {t e sz bytes : Nat} (T : SliceT P t e sz bytes) {w : World} {cs : List Value} (t' ty : TypeId) (base : Nat) {v : Value} {n : Nat} {xs : List Value} (hown : w.ownsRow base e sz v n xs) (hl : cs.length = sz) (h1 : ones cs = true)
    (h63 : n + 1 ≤ maxLen) (hbytes : (n + 1) * bytes ≤ 140737488355328) (hbase : base ≤ w.heap.size) :
    ∃ a' cap' w', (Builtin.append_ #[t, t] ty #[v, .slice (some ⟨w.heap.size, 0, none⟩) 1 1]).run P (w.alloc (.cells cs.toArray t')) = .ok (.slice a' (n + 1) cap') w' ∧ w'.ownsRow base e sz (.slice a' (n + 1) cap') (n + 1) (xs ++ cs) ∧ Keep (OwnB v) w w' ∧ (∀ b, OwnB (.slice a' (n + 1) cap') b → OwnB v b ∨ w.heap.size ≤ b) := by
  obtain ⟨i, z, hi, hz, hsz, hby, hzs⟩ := T.info
  obtain ⟨v', w', hrun, hown', hg, -, hf⟩ := run_append_own_at (P := P) (w.alloc (.cells cs.toArray t')) base t ty e i z sz bytes T.under hi hz hsz hby hzs T.pos v n xs (hown.alloc _) ⟨w.heap.size, 0, none⟩ 1 1 cs (by omega) (fun j u hu => by
      rw [Addr.add_lit, World.cell?_alloc_at _ _ _ _ rfl, Nat.zero_add]; simpa using hu) (fun u hu => List.all_eq_true.1 h1 u hu) h63 hbytes (by simp; omega)
  obtain ⟨a', cap', rfl⟩ := owned_shape hown'
  refine ⟨a', cap', w', hrun, hown', ((Keep.refl _ w).alloc _).grown hg (fun _ hk _ => hk), fun b hb => ?_⟩
  rcases hf with h | h
  · have hb' : (Value.slice a' (n + 1) cap').ownBlock = some b := hb
    exact .inl (h.symm.trans hb')
  · right
    have hb' : (Value.slice a' (n + 1) cap').ownBlock = some b := hb
    rw [h] at hb'
    simp at hb'
    omega
theorem step_app1 {P : Program} {t e sz bytes : Nat} (T : SliceT P t e sz bytes) {ops : Array Oper} {o : Oper} {a : Act} {K : Act → World → Prop} {Q : Exit → Act → World → Prop} {E : Prop} {w : World} {cs : List Value} {t' : TypeId} (hgd : o.guard = none) (s x : Operand)
    (ho : o.op = .call { callee := .builtin .append, args := #[s, x], argTypes := #[t, t] })
    (base : Nat) {v : Value} {n : Nat} {xs : List Value} (hs : a.eval s = v) (hx : a.eval x = .slice (some ⟨w.heap.size, 0, none⟩) 1 1) (hown : w.ownsRow base e sz v n xs) (hl : cs.length = sz) (h1 : ones cs = true)
    (h63 : n + 1 ≤ maxLen) (hbytes : (n + 1) * bytes ≤ 140737488355328) (hbase : base ≤ w.heap.size)
    (h : ∀ a' cap' w', w'.ownsRow base e sz (.slice a' (n + 1) cap') (n + 1) (xs ++ cs) → Keep (OwnB v) w w' → (∀ b, OwnB (.slice a' (n + 1) cap') b → OwnB v b ∨ w.heap.size ≤ b) → K (a.put o.dst (.slice a' (n + 1) cap')) w') :
    if Region.wanted o (yielded ops a.tmps) = true then Oper.wp P o a (w.alloc (.cells cs.toArray t')) K Q else E := by
  obtain ⟨a', cap', w', hrun, h2, h3, h4⟩ := app1_run T t' o.type base hown hl h1 h63 hbytes hbase
  exact step_app (by simp [Region.wanted, hgd]) s x ho hs hx hrun (h _ _ _ h2 h3 h4)
def upI (n : Int) : Int := IntKind.i64.wrap (n + 1)
theorem upI_64 (n : Int) : isI64 (upI n) := by unfold upI isI64 IntKind.wrap; simp [IntKind.bits, IntKind.signed]; omega
def stillF (r : GRoutes) : GRoutes := ⟨upI r.fEpoch, r.fBase, r.fSpans, 0, []⟩
set_option maxRecDepth 100000 in
set_option maxHeartbeats 2000000 in
theorem Still_c {p : Nat → Prop} (r : GRoutes) (csr : List Value) (w : World) (hr : rGRoutes w p csr r) :
    Calls Try.prog 28 #[.agg csr.toArray] w fun e w' => ∃ cs, e = .returned (.agg cs.toArray) ∧ rGRoutes w' p cs (stillF r) ∧ Keep Nix w w' := by
  have HR := Lib.hid hr
  obtain ⟨aS, cS, aC, cC, rfl, hE, hB, hS, hM, hC, -⟩ := rGRoutes_open hr
  have k1 := fun (w : World) (o : Obj) => (Keep.refl Nix w).alloc o
  have kk : Keep Nix w (((w.alloc (.cells #[.int .i64 r.fEpoch, .int .i64 r.fBase, .slice aS r.fSpans.length cS, .int .i64 r.fMoving, .slice aC r.fCut.length cC] 38))).alloc (.cells #[.int .i64 0, .int .i64 0, .slice none 0 0, .int .i64 0, .slice none 0 0] 38)) := (k1 _ _).trans (k1 _ _)
  have row0 : RowIs (((w.alloc (.cells #[.int .i64 r.fEpoch, .int .i64 r.fBase, .slice aS r.fSpans.length cS, .int .i64 r.fMoving, .slice aC r.fCut.length cC] 38))).alloc (.cells #[.int .i64 0, .int .i64 0, .slice none 0 0, .int .i64 0, .slice none 0 0] 38)) w.heap.size 38 [.int .i64 r.fEpoch, .int .i64 r.fBase, .slice aS r.fSpans.length cS, .int .i64 r.fMoving, .slice aC r.fCut.length cC] := (RowIs.alloc w _ _).keep (k1 _ _) id
  have rowR : RowIs (((w.alloc (.cells #[.int .i64 r.fEpoch, .int .i64 r.fBase, .slice aS r.fSpans.length cS, .int .i64 r.fMoving, .slice aC r.fCut.length cC] 38))).alloc (.cells #[.int .i64 0, .int .i64 0, .slice none 0 0, .int .i64 0, .slice none 0 0] 38)) (w.heap.size + 1) 38 [.int .i64 0, .int .i64 0, .slice none 0 0, .int .i64 0, .slice none 0 0] := by
    have h := RowIs.alloc (w.alloc (.cells #[.int .i64 r.fEpoch, .int .i64 r.fBase, .slice aS r.fSpans.length cS, .int .i64 r.fMoving, .slice aC r.fCut.length cC] 38)) #[.int .i64 0, .int .i64 0, .slice none 0 0, .int .i64 0, .slice none 0 0] 38
    simpa using h
  have hinfo : (Try.prog.info? 38).map (·.size) = some 5 := by kernel_rfl
  have HE := Lib.hid (show IntKind.i64.wrap (r.fEpoch + 1) = upI r.fEpoch from rfl)
  have HB := Lib.hid hB
  have HL := Lib.hid hS
  clear hr k1 hE hM hC hB hS
  go_enter Try.func28, Try.ntmps28
  go_upto_region 1 with fail
  generalize (((w.alloc (.cells #[.int .i64 r.fEpoch, .int .i64 r.fBase, .slice aS r.fSpans.length cS, .int .i64 r.fMoving, .slice aC r.fCut.length cC] 38))).alloc (.cells #[.int .i64 0, .int .i64 0, .slice none 0 0, .int .i64 0, .slice none 0 0] 38)) = w1 at *
  generalize hbs : w.heap.size = bs at *
  have y0 := row0.cell 0
  (try simp only [List.getElem?_cons_zero] at y0)
  have y1 := row0.cell 1
  (try simp only [List.getElem?_cons_succ] at y1); (try simp only [List.getElem?_cons_zero] at y1)
  have y2 := row0.cell 2
  (try simp only [List.getElem?_cons_succ] at y2); (try simp only [List.getElem?_cons_zero] at y2)
  have y3 := row0.cell 3
  (try simp only [List.getElem?_cons_succ] at y3); (try simp only [List.getElem?_cons_zero] at y3)
  have y4 := row0.cell 4
  (try simp only [List.getElem?_cons_succ] at y4); (try simp only [List.getElem?_cons_zero] at y4)
  have f0 := row0.frozen 0
  have f3 := row0.frozen 3
  have f4 := row0.frozen 4
  have z0 := rowR.cell 0
  (try simp only [List.getElem?_cons_zero] at z0)
  have z1 := rowR.cell 1
  (try simp only [List.getElem?_cons_succ] at z1); (try simp only [List.getElem?_cons_zero] at z1)
  have z2 := rowR.cell 2
  (try simp only [List.getElem?_cons_succ] at z2); (try simp only [List.getElem?_cons_zero] at z2)
  have z3 := rowR.cell 3
  (try simp only [List.getElem?_cons_succ] at z3); (try simp only [List.getElem?_cons_zero] at z3)
  have z4 := rowR.cell 4
  (try simp only [List.getElem?_cons_succ] at z4); (try simp only [List.getElem?_cons_zero] at z4)
  have g0 := rowR.frozen 0
  have g1 := rowR.frozen 1
  have g2 := rowR.frozen 2
  have g3 := rowR.frozen 3
  have g4 := rowR.frozen 4
  have kS : Keep (· = bs) w1 (((w1.setCell ⟨bs, 3, none⟩ (.int .i64 0)).setCell ⟨bs, 4, none⟩ (.slice none 0 0)).setCell ⟨bs, 0, none⟩ (.int .i64 (upI r.fEpoch))) := (((Keep.refl (· = bs) w1).setCell (p := ⟨bs, 3, none⟩) (fun _ => rfl) _).setCell (p := ⟨bs, 4, none⟩) (fun _ => rfl) _).setCell (p := ⟨bs, 0, none⟩) (fun _ => rfl) _
  have kT : Keep (· = bs + 1) (((w1.setCell ⟨bs, 3, none⟩ (.int .i64 0)).setCell ⟨bs, 4, none⟩ (.slice none 0 0)).setCell ⟨bs, 0, none⟩ (.int .i64 (upI r.fEpoch))) ((((((((w1.setCell ⟨bs, 3, none⟩ (.int .i64 0)).setCell ⟨bs, 4, none⟩ (.slice none 0 0)).setCell ⟨bs, 0, none⟩ (.int .i64 (upI r.fEpoch))).setCell ⟨bs + 1, 0, none⟩ (.int .i64 (upI r.fEpoch))).setCell ⟨bs + 1, 1, none⟩ (.int .i64 r.fBase)).setCell ⟨bs + 1, 2, none⟩ (.slice aS r.fSpans.length cS)).setCell ⟨bs + 1, 3, none⟩ (.int .i64 0)).setCell ⟨bs + 1, 4, none⟩ (.slice none 0 0)) := (((((Keep.refl (· = bs + 1) _).setCell (p := ⟨bs + 1, 0, none⟩) (fun _ => rfl) _).setCell (p := ⟨bs + 1, 1, none⟩) (fun _ => rfl) _).setCell (p := ⟨bs + 1, 2, none⟩) (fun _ => rfl) _).setCell (p := ⟨bs + 1, 3, none⟩) (fun _ => rfl) _).setCell (p := ⟨bs + 1, 4, none⟩) (fun _ => rfl) _
  have rowF : RowIs ((((((((w1.setCell ⟨bs, 3, none⟩ (.int .i64 0)).setCell ⟨bs, 4, none⟩ (.slice none 0 0)).setCell ⟨bs, 0, none⟩ (.int .i64 (upI r.fEpoch))).setCell ⟨bs + 1, 0, none⟩ (.int .i64 (upI r.fEpoch))).setCell ⟨bs + 1, 1, none⟩ (.int .i64 r.fBase)).setCell ⟨bs + 1, 2, none⟩ (.slice aS r.fSpans.length cS)).setCell ⟨bs + 1, 3, none⟩ (.int .i64 0)).setCell ⟨bs + 1, 4, none⟩ (.slice none 0 0)) (bs + 1) 38 [.int .i64 (upI r.fEpoch), .int .i64 r.fBase, .slice aS r.fSpans.length cS, .int .i64 0, .slice none 0 0] := ((((((rowR.keep kS (by omega)).set 0 _).set 1 _).set 2 _).set 3 _).set 4 _)
  have k5 := (kk.then kS (fun i hi e => by omega)).then kT (fun i hi e => by omega)
  clear row0 rowR kk kS kT
  have hu : IntKind.i64.wrap (r.fEpoch + 1) = upI r.fEpoch := HE.out
  go_wp2_with fail
  refine bodyPost_ret (results_cell_row (by rfl) _ _ _ _ _ _ _ (by rfl) rowF Try.underlying38 (by rfl) hinfo) rfl ?_
  exact ⟨_, rfl, rGRoutes_mk (x := stillF r) _ _ (upI_64 _) HB.out ((rList_lawful rGOwner_lawful).nix HL.out k5) i64_0 (LB.nil0 _ _), k5⟩
/-- Routes whose lists lie in memory of their own. -/
def OwnR (base : Nat) (w' : World) (cs : List Value) (r : GRoutes) : Prop := ∃ a c aC cC css, cs = [.int .i64 r.fEpoch, .int .i64 r.fBase, .slice a r.fSpans.length c, .int .i64 r.fMoving, .slice aC r.fCut.length cC] ∧ w'.ownsRow base 80 2 (.slice a r.fSpans.length c) r.fSpans.length css.flatten ∧ Els rGOwner w' (fun b => (base ≤ b ∧ b < w'.heap.size) ∧ ¬ OwnB (.slice a r.fSpans.length c) b) css r.fSpans ∧ LB w' (fun b => (base ≤ b ∧ b < w'.heap.size) ∧ ¬ OwnB (.slice a r.fSpans.length c) b) aC cC r.fCut
set_option maxRecDepth 100000 in
set_option maxHeartbeats 4000000 in
theorem routesOwn_c {p : Nat → Prop} (r : GRoutes) (csr : List Value) (w : World) (hr : rGRoutes w p csr r) (hn4 : r.fSpans.length ≤ 30) :
    Calls Try.prog 21 #[.agg csr.toArray] w fun e w' => ∃ cs, e = .returned (.agg cs.toArray) ∧ OwnR w.heap.size w' cs r ∧ Keep Nix w w' := by
  obtain ⟨aS, cS, aC, cC, rfl, hE, hB, hS, hM, hC, -⟩ := rGRoutes_open hr
  have k1 := fun (w : World) (o : Obj) => (Keep.refl Nix w).alloc o
  have kk : Keep Nix w (((w.alloc (.cells #[.int .i64 r.fEpoch, .int .i64 r.fBase, .slice aS r.fSpans.length cS, .int .i64 r.fMoving, .slice aC r.fCut.length cC] 38))).alloc (.cells #[.int .i64 0, .int .i64 0, .slice none 0 0, .int .i64 0, .slice none 0 0] 38)) := (k1 _ _).trans (k1 _ _)
  have row0 : RowIs (((w.alloc (.cells #[.int .i64 r.fEpoch, .int .i64 r.fBase, .slice aS r.fSpans.length cS, .int .i64 r.fMoving, .slice aC r.fCut.length cC] 38))).alloc (.cells #[.int .i64 0, .int .i64 0, .slice none 0 0, .int .i64 0, .slice none 0 0] 38)) w.heap.size 38 [.int .i64 r.fEpoch, .int .i64 r.fBase, .slice aS r.fSpans.length cS, .int .i64 r.fMoving, .slice aC r.fCut.length cC] := (RowIs.alloc w _ _).keep (k1 _ _) id
  have rowR : RowIs (((w.alloc (.cells #[.int .i64 r.fEpoch, .int .i64 r.fBase, .slice aS r.fSpans.length cS, .int .i64 r.fMoving, .slice aC r.fCut.length cC] 38))).alloc (.cells #[.int .i64 0, .int .i64 0, .slice none 0 0, .int .i64 0, .slice none 0 0] 38)) (w.heap.size + 1) 38 [.int .i64 0, .int .i64 0, .slice none 0 0, .int .i64 0, .slice none 0 0] := by
    have h := RowIs.alloc (w.alloc (.cells #[.int .i64 r.fEpoch, .int .i64 r.fBase, .slice aS r.fSpans.length cS, .int .i64 r.fMoving, .slice aC r.fCut.length cC] 38)) #[.int .i64 0, .int .i64 0, .slice none 0 0, .int .i64 0, .slice none 0 0] 38
    simpa using h
  have hinfo : (Try.prog.info? 38).map (·.size) = some 5 := by kernel_rfl
  have HL := Lib.hid hS
  have HC := Lib.hid (show LB w p aC cC r.fCut from hC)
  clear hr k1 hE hM hC hB hS
  go_enter Try.func21, Try.ntmps21
  go_upto_region 1 with fail
  generalize (((w.alloc (.cells #[.int .i64 r.fEpoch, .int .i64 r.fBase, .slice aS r.fSpans.length cS, .int .i64 r.fMoving, .slice aC r.fCut.length cC] 38))).alloc (.cells #[.int .i64 0, .int .i64 0, .slice none 0 0, .int .i64 0, .slice none 0 0] 38)) = w1 at *
  generalize hbs : w.heap.size = bs at *
  have hs1 : bs + 1 + 1 ≤ w1.heap.size := rowR.lt
  have y2 := row0.cell 2
  (try simp only [List.getElem?_cons_succ] at y2); (try simp only [List.getElem?_cons_zero] at y2)
  go_wp2_with fail
  clear y2
  go_loopw [3, 9] (fun l i wr => ∃ (k : Nat) (a : Option Addr) (cap : Nat) (css : List (List Value)), k ≤ r.fSpans.length ∧ i = .int .i64 k ∧ l = .slice a k cap ∧ wr.ownsRow w1.heap.size 80 2 (.slice a k cap) k css.flatten ∧ Els rGOwner wr (fun b => NewIn w1 wr b ∧ ¬ OwnB (.slice a k cap) b) css (r.fSpans.take k) ∧ RowIs wr bs 38 [.int .i64 r.fEpoch, .int .i64 r.fBase, .slice aS r.fSpans.length cS, .int .i64 r.fMoving, .slice aC r.fCut.length cC] ∧ RowIs wr (bs + 1) 38 [.int .i64 0, .int .i64 0, .slice none 0 0, .int .i64 0, .slice none 0 0] ∧ Keep Nix w1 wr) (fun _ i _ => r.fSpans.length - (intOf i).toNat)
  case atStart => exact ⟨0, none, 0, [], by omega, rfl, rfl, World.ownsRow_nil _ _ _ _, Els.nil _ _ _, row0, rowR, Keep.refl _ _⟩
  case round =>
    clear row0 rowR
    obtain ⟨k, a, cap, css, hk, rfl, rfl, own, els, row0, rowR, kw⟩ := hrel
    have hsw := kw.size
    by_cases hlt : k < r.fSpans.length
    · have hi1 : (k : Int) < (r.fSpans.length : Int) := by omega
      have hi0 : (0 : Int) ≤ (k : Int) := by omega
      have hx : Hid (r.fSpans.take (k + 1) = r.fSpans.take k ++ [r.fSpans[k]]) := List.take_succ_eq_append_getElem hlt
      have hS1 := (rList_lawful rGOwner_lawful).nix HL.out (kk.trans kw)
      obtain ⟨b1, o1, _, _, e1, -, hbx, xr, xc⟩ := rList_at rGOwner_lawful (by decide) hS1 k hlt
      simp only [List.cons.injEq, Value.slice.injEq, and_true] at e1
      obtain ⟨rfl, -, -⟩ := e1
      have xf := fromAt_lt hlt
      clear xf hS1
      generalize r.fSpans[k] = x at *
      obtain ⟨aF, cF, rfl, hg, hF, -⟩ := rGOwner_open xr
      have hF : LB wr p aF cF x.fFrom := hF
      have HG := Lib.hid hg
      have x0 := xc 0 _ rfl
      (try simp only [Nat.add_zero] at x0)
      have x1 := xc 1 _ rfl
      have kE : Keep Nix wr (wr.alloc (.cells #[.int .i64 x.fGroup, .slice aF x.fFrom.length cF] 80)) := (Keep.refl Nix wr).alloc _
      have rowE : RowIs (wr.alloc (.cells #[.int .i64 x.fGroup, .slice aF x.fFrom.length cF] 80)) wr.heap.size 80 [.int .i64 x.fGroup, .slice aF x.fFrom.length cF] := RowIs.alloc wr _ _
      go_upto_region 5 with fail
      clear x0 x1 xr xc hg
      replace hF := hF.keep kE
      generalize hbe : wr.heap.size = be at *
      generalize wr.alloc (.cells #[.int .i64 x.fGroup, .slice aF x.fFrom.length cF] 80) = wE at *
      have hbN : ¬ OwnB (.slice a k cap) be := fun h => by have := (own.lt _ h).2; omega
      have hO : ∀ w', Keep (OwnB (.slice a k cap)) wE w' → (fun w' => w'.cell? ⟨be, 0, none⟩ = some (.int .i64 x.fGroup) ∧ w'.cell? ⟨be, 1, none⟩ = some (.slice aF x.fFrom.length cF)) w' := fun w' k' => ⟨(rowE.keep k' hbN).cell 0, (rowE.keep k' hbN).cell 1⟩
      have HO := Lib.hid hO
      have kd : Keep Nix wE wE.drew := (Keep.refl Nix wE).drew
      clear hO
      refine wp_region_held_drew (S := (fun w' => w'.cell? ⟨be, 0, none⟩ = some (.int .i64 x.fGroup) ∧ w'.cell? ⟨be, 1, none⟩ = some (.slice aF x.fFrom.length cF))) (by kernel_rfl) ((HO.out _ kd.nix)) (fun hHeld => ?_)
      generalize wE.drew = wd at *
      refine wpAnyH_take (i := 0) (v := ?_) rfl (by kernel_rfl) (by kernel_rfl) (by kernel_rfl) (fun _ _ _ h => h) (Or.inl ⟨by kernel_rfl, ?_⟩) hHeld ?_
      rotate_left
      · intro w' hSw
        (try dsimp only at hSw)
        (try simp only [List.getElem_toArray]); (try simp only [List.getElem_cons_succ]); (try simp only [List.getElem_cons_zero])
        go_simp
        try with_reducible rfl
      (try simp only [Act.put]); (try simp only [List.getElem_toArray]); (try simp only [List.getElem_cons_succ]); (try simp only [List.getElem_cons_zero]); (try simp only [List.setIfInBounds_toArray]); (try simp only [List.set_cons_succ]); (try simp only [List.set_cons_zero])
      refine wpAnyH_take (i := 1) (v := ?_) rfl (by kernel_rfl) (by kernel_rfl) (by kernel_rfl) (fun _ _ _ h => h) (Or.inl ⟨by kernel_rfl, ?_⟩) hHeld ?_
      rotate_left
      · intro w' hSw
        (try dsimp only at hSw)
        (try simp only [List.getElem_toArray]); (try simp only [List.getElem_cons_succ]); (try simp only [List.getElem_cons_zero])
        go_simp
        try with_reducible rfl
      (try simp only [Act.put]); (try simp only [List.getElem_toArray]); (try simp only [List.getElem_cons_succ]); (try simp only [List.getElem_cons_zero]); (try simp only [List.setIfInBounds_toArray]); (try simp only [List.set_cons_succ]); (try simp only [List.set_cons_zero])
      refine wpAnyH_take (i := 2) (v := ?_) rfl (by kernel_rfl) (by kernel_rfl) (by kernel_rfl) (fun _ _ _ h => h) (Or.inl ⟨by kernel_rfl, ?_⟩) hHeld ?_
      rotate_left
      · intro w' hSw
        (try dsimp only at hSw)
        (try simp only [List.getElem_toArray]); (try simp only [List.getElem_cons_succ]); (try simp only [List.getElem_cons_zero])
        go_simp
        try with_reducible rfl
      (try simp only [Act.put]); (try simp only [List.getElem_toArray]); (try simp only [List.getElem_cons_succ]); (try simp only [List.getElem_cons_zero]); (try simp only [List.setIfInBounds_toArray]); (try simp only [List.set_cons_succ]); (try simp only [List.set_cons_zero])
      refine wpAnyH_take (i := 3) (v := ?_) rfl (by kernel_rfl) (by kernel_rfl) (by kernel_rfl) (fun _ _ _ h => h) (Or.inl ⟨by kernel_rfl, ?_⟩) hHeld ?_
      rotate_left
      · intro w' hSw
        (try dsimp only at hSw)
        (try simp only [List.getElem_toArray]); (try simp only [List.getElem_cons_succ]); (try simp only [List.getElem_cons_zero])
        go_simp
        try with_reducible rfl
      (try simp only [Act.put]); (try simp only [List.getElem_toArray]); (try simp only [List.getElem_cons_succ]); (try simp only [List.getElem_cons_zero]); (try simp only [List.setIfInBounds_toArray]); (try simp only [List.set_cons_succ]); (try simp only [List.set_cons_zero])
      refine wpAnyH_take (i := 4) (v := ?_) rfl (by kernel_rfl) (by kernel_rfl) (by kernel_rfl) (fun _ _ _ h => h) (Or.inl ⟨by kernel_rfl, ?_⟩) hHeld ?_
      rotate_left
      · intro w' hSw
        (try dsimp only at hSw)
        (try simp only [List.getElem_toArray]); (try simp only [List.getElem_cons_succ]); (try simp only [List.getElem_cons_zero])
        go_simp
        try with_reducible rfl
      (try simp only [Act.put]); (try simp only [List.getElem_toArray]); (try simp only [List.getElem_cons_succ]); (try simp only [List.getElem_cons_zero]); (try simp only [List.setIfInBounds_toArray]); (try simp only [List.set_cons_succ]); (try simp only [List.set_cons_zero])
      refine wpAnyH_ready (rs := [5]) (by kernel_rfl) (by simp) ?_
      refine AllReadyH.cons rfl (fun K hK => ?_) AllReadyH.nil
      go_simp
      go_fit (clR_c aF cF x.fFrom wd (hF.keep kd))
      rintro e w2 ⟨a1, c1, rfl, L1, k2⟩
      have L1 : LB w2 (NewIn wd w2) a1 c1 x.fFrom := L1
      have kr2 : Keep Nix wr w2 := (kE.trans kd).trans k2
      have kd2 := kd.trans k2
      have hsd : be ≤ wd.heap.size := by rw [← hbe]; exact (kE.trans kd).size
      clear k2
      go_wp2_with fail
      refine hK.out _ _ ((HO.out _ kd2.nix)) (fun hHeld => ?_)
      clear hK K
      (try simp only [Act.put]); (try simp only [List.getElem_toArray]); (try simp only [List.getElem_cons_succ]); (try simp only [List.getElem_cons_zero]); (try simp only [List.setIfInBounds_toArray]); (try simp only [List.set_cons_succ]); (try simp only [List.set_cons_zero])
      refine wpAnyH_take (i := 6) (v := ?_) rfl (by kernel_rfl) (by kernel_rfl) (by kernel_rfl) (fun _ _ _ h => h) (Or.inl ⟨by kernel_rfl, ?_⟩) hHeld ?_
      rotate_left
      · intro w' hSw
        (try dsimp only at hSw)
        (try simp only [List.getElem_toArray]); (try simp only [List.getElem_cons_succ]); (try simp only [List.getElem_cons_zero])
        go_simp
        try with_reducible rfl
      (try simp only [Act.put]); (try simp only [List.getElem_toArray]); (try simp only [List.getElem_cons_succ]); (try simp only [List.getElem_cons_zero]); (try simp only [List.setIfInBounds_toArray]); (try simp only [List.set_cons_succ]); (try simp only [List.set_cons_zero])
      refine wpAnyH_ready (rs := [7]) (by kernel_rfl) (by simp) ?_
      refine AllReadyH.cons rfl (fun K hK => ?_) AllReadyH.nil
      go_simp
      refine hK.out _ _ ((HO.out _ (kd2.alloc _).nix)) (fun hHeld => ?_)
      clear hK K
      (try simp only [Act.put]); (try simp only [List.getElem_toArray]); (try simp only [List.getElem_cons_succ]); (try simp only [List.getElem_cons_zero]); (try simp only [List.setIfInBounds_toArray]); (try simp only [List.set_cons_succ]); (try simp only [List.set_cons_zero])
      refine wpAnyH_ready (rs := [8]) (by kernel_rfl) (by simp) ?_
      refine AllReadyH.cons rfl (fun K hK => ?_) AllReadyH.nil
      refine step_app1 (w := w2) (cs := [.int .i64 x.fGroup, .slice a1 x.fFrom.length c1]) T_lOwner (by rfl) (.tmp 13) (.tmp 20) (by rfl) w1.heap.size (by rfl) (by rfl) (owned_keep own kr2 (fun _ _ h => h)) rfl rfl (by unfold maxLen; omega) (by omega) (by have := kr2.size; omega) ?_
      intro aN cN w6 own6 k6 hfresh
      have kr6 : Keep Nix w1 w6 := (kw.trans kr2).then k6 (fun i hi hb => by have := (own.lt i hb).1; omega)
      refine hK.out _ _ ((HO.out _ (kd2.nix.trans k6))) (fun hHeld => ?_)
      clear hK K
      (try simp only [Act.put]); (try simp only [List.getElem_toArray]); (try simp only [List.getElem_cons_succ]); (try simp only [List.getElem_cons_zero]); (try simp only [List.setIfInBounds_toArray]); (try simp only [List.set_cons_succ]); (try simp only [List.set_cons_zero])
      refine wpAnyH_take (i := 9) (v := ?_) rfl (by kernel_rfl) (by kernel_rfl) (by kernel_rfl) (fun _ _ _ h => h) (Or.inl ⟨by kernel_rfl, ?_⟩) hHeld ?_
      rotate_left
      · intro w' hSw
        (try dsimp only at hSw)
        (try simp only [List.getElem_toArray]); (try simp only [List.getElem_cons_succ]); (try simp only [List.getElem_cons_zero])
        go_simp
        try with_reducible rfl
      (try simp only [Act.put]); (try simp only [List.getElem_toArray]); (try simp only [List.getElem_cons_succ]); (try simp only [List.getElem_cons_zero]); (try simp only [List.setIfInBounds_toArray]); (try simp only [List.set_cons_succ]); (try simp only [List.set_cons_zero])
      refine wpAnyH_done (by kernel_rfl) ?_ _
      have hc2 : rGOwner w2 (NewIn wr w2) [.int .i64 x.fGroup, .slice a1 x.fFrom.length c1] x := rGOwner_mk w2 (NewIn wr w2) HG.out (L1.mono (fun b hb => ⟨by have := hb.1; omega, hb.2⟩))
      have els6 := els.push rGOwner_lawful hc2 (kr2.nix (S := (· = 0))) k6 (by omega) (by rw [hbe]; exact hsw) (fun b hb => (own.lt b hb).2) hfresh
      rw [← hx.out] at els6
      replace own6 : w6.ownsRow w1.heap.size 80 2 (.slice aN (k + 1) cN) (k + 1) (css ++ [[.int .i64 x.fGroup, .slice a1 x.fFrom.length c1]] : List (List Value)).flatten := by rw [List.flatten_append]; simpa using own6
      replace row0 := (row0.keep kr2 id).keep k6 (fun h => by have := (own.lt _ h).1; omega)
      replace rowR := (rowR.keep kr2 id).keep k6 (fun h => by have := (own.lt _ h).1; omega)
      clear hHeld HO own els rowE hF kE kd kd2 k6 kr2 L1 kw
      go_wp2_with fail
      go_roundw
      case rel => exact ⟨k + 1, aN, cN, (css ++ [[.int .i64 x.fGroup, .slice a1 x.fFrom.length c1]] : List (List Value)), by omega, by go_num, rfl, own6, els6, row0, rowR, kr6⟩
      case measure => simp [intOf]; omega
    · obtain rfl : k = r.fSpans.length := by omega
      rw [List.take_length] at els
      have y4 := row0.cell 4
      (try simp only [List.getElem?_cons_succ] at y4); (try simp only [List.getElem?_cons_zero] at y4)
      go_wp2_with fail
      go_fit (clR_c aC cC r.fCut wr (HC.out.keep (kk.trans kw)))
      rintro e w2 ⟨aD, cD, rfl, LD, k2⟩
      have LD : LB w2 (NewIn wr w2) aD cD r.fCut := LD
      replace row0 := row0.keep k2 id
      replace rowR := rowR.keep k2 id
      have hs2 := k2.size
      clear y4
      have y0 := row0.cell 0
      (try simp only [List.getElem?_cons_zero] at y0)
      have y1 := row0.cell 1
      (try simp only [List.getElem?_cons_succ] at y1); (try simp only [List.getElem?_cons_zero] at y1)
      have y2 := row0.cell 2
      (try simp only [List.getElem?_cons_succ] at y2); (try simp only [List.getElem?_cons_zero] at y2)
      have y3 := row0.cell 3
      (try simp only [List.getElem?_cons_succ] at y3); (try simp only [List.getElem?_cons_zero] at y3)
      have y4 := row0.cell 4
      (try simp only [List.getElem?_cons_succ] at y4); (try simp only [List.getElem?_cons_zero] at y4)
      have f2 := row0.frozen 2
      have f4 := row0.frozen 4
      have z0 := rowR.cell 0
      (try simp only [List.getElem?_cons_zero] at z0)
      have z1 := rowR.cell 1
      (try simp only [List.getElem?_cons_succ] at z1); (try simp only [List.getElem?_cons_zero] at z1)
      have z2 := rowR.cell 2
      (try simp only [List.getElem?_cons_succ] at z2); (try simp only [List.getElem?_cons_zero] at z2)
      have z3 := rowR.cell 3
      (try simp only [List.getElem?_cons_succ] at z3); (try simp only [List.getElem?_cons_zero] at z3)
      have z4 := rowR.cell 4
      (try simp only [List.getElem?_cons_succ] at z4); (try simp only [List.getElem?_cons_zero] at z4)
      have g0 := rowR.frozen 0
      have g1 := rowR.frozen 1
      have g2 := rowR.frozen 2
      have g3 := rowR.frozen 3
      have g4 := rowR.frozen 4
      have kS : Keep (· = bs) w2 ((w2.setCell ⟨bs, 2, none⟩ (.slice a r.fSpans.length cap)).setCell ⟨bs, 4, none⟩ (.slice aD r.fCut.length cD)) := ((Keep.refl (· = bs) w2).setCell (p := ⟨bs, 2, none⟩) (fun _ => rfl) _).setCell (p := ⟨bs, 4, none⟩) (fun _ => rfl) _
      have kT : Keep (· = bs + 1) ((w2.setCell ⟨bs, 2, none⟩ (.slice a r.fSpans.length cap)).setCell ⟨bs, 4, none⟩ (.slice aD r.fCut.length cD)) (((((((w2.setCell ⟨bs, 2, none⟩ (.slice a r.fSpans.length cap)).setCell ⟨bs, 4, none⟩ (.slice aD r.fCut.length cD)).setCell ⟨bs + 1, 0, none⟩ (.int .i64 r.fEpoch)).setCell ⟨bs + 1, 1, none⟩ (.int .i64 r.fBase)).setCell ⟨bs + 1, 2, none⟩ (.slice a r.fSpans.length cap)).setCell ⟨bs + 1, 3, none⟩ (.int .i64 r.fMoving)).setCell ⟨bs + 1, 4, none⟩ (.slice aD r.fCut.length cD)) := (((((Keep.refl (· = bs + 1) _).setCell (p := ⟨bs + 1, 0, none⟩) (fun _ => rfl) _).setCell (p := ⟨bs + 1, 1, none⟩) (fun _ => rfl) _).setCell (p := ⟨bs + 1, 2, none⟩) (fun _ => rfl) _).setCell (p := ⟨bs + 1, 3, none⟩) (fun _ => rfl) _).setCell (p := ⟨bs + 1, 4, none⟩) (fun _ => rfl) _
      have rowF : RowIs (((((((w2.setCell ⟨bs, 2, none⟩ (.slice a r.fSpans.length cap)).setCell ⟨bs, 4, none⟩ (.slice aD r.fCut.length cD)).setCell ⟨bs + 1, 0, none⟩ (.int .i64 r.fEpoch)).setCell ⟨bs + 1, 1, none⟩ (.int .i64 r.fBase)).setCell ⟨bs + 1, 2, none⟩ (.slice a r.fSpans.length cap)).setCell ⟨bs + 1, 3, none⟩ (.int .i64 r.fMoving)).setCell ⟨bs + 1, 4, none⟩ (.slice aD r.fCut.length cD)) (bs + 1) 38 [.int .i64 r.fEpoch, .int .i64 r.fBase, .slice a r.fSpans.length cap, .int .i64 r.fMoving, .slice aD r.fCut.length cD] := ((((((rowR.keep kS (by omega)).set 0 _).set 1 _).set 2 _).set 3 _).set 4 _)
      have kU : Keep (fun b => b = bs ∨ b = bs + 1) w2 (((((((w2.setCell ⟨bs, 2, none⟩ (.slice a r.fSpans.length cap)).setCell ⟨bs, 4, none⟩ (.slice aD r.fCut.length cD)).setCell ⟨bs + 1, 0, none⟩ (.int .i64 r.fEpoch)).setCell ⟨bs + 1, 1, none⟩ (.int .i64 r.fBase)).setCell ⟨bs + 1, 2, none⟩ (.slice a r.fSpans.length cap)).setCell ⟨bs + 1, 3, none⟩ (.int .i64 r.fMoving)).setCell ⟨bs + 1, 4, none⟩ (.slice aD r.fCut.length cD)) := (kS.mono (fun _ h => .inl h)).trans (kT.mono (fun _ h => .inr h))
      have hs3 := kU.size
      have k5 : Keep Nix w (((((((w2.setCell ⟨bs, 2, none⟩ (.slice a r.fSpans.length cap)).setCell ⟨bs, 4, none⟩ (.slice aD r.fCut.length cD)).setCell ⟨bs + 1, 0, none⟩ (.int .i64 r.fEpoch)).setCell ⟨bs + 1, 1, none⟩ (.int .i64 r.fBase)).setCell ⟨bs + 1, 2, none⟩ (.slice a r.fSpans.length cap)).setCell ⟨bs + 1, 3, none⟩ (.int .i64 r.fMoving)).setCell ⟨bs + 1, 4, none⟩ (.slice aD r.fCut.length cD)) := ((kk.trans kw).trans k2).then kU (fun i hi e => by rcases e with e | e <;> omega)
      have own5 : World.ownsRow (((((((w2.setCell ⟨bs, 2, none⟩ (.slice a r.fSpans.length cap)).setCell ⟨bs, 4, none⟩ (.slice aD r.fCut.length cD)).setCell ⟨bs + 1, 0, none⟩ (.int .i64 r.fEpoch)).setCell ⟨bs + 1, 1, none⟩ (.int .i64 r.fBase)).setCell ⟨bs + 1, 2, none⟩ (.slice a r.fSpans.length cap)).setCell ⟨bs + 1, 3, none⟩ (.int .i64 r.fMoving)).setCell ⟨bs + 1, 4, none⟩ (.slice aD r.fCut.length cD)) bs 80 2 (.slice a r.fSpans.length cap) r.fSpans.length css.flatten := owned_base (owned_keep (owned_keep own k2 (fun _ _ h => h)) kU (fun b hb e => by have := (own.lt b hb).1; rcases e with e | e <;> omega)) (by omega)
      have els5 := ((els.keep rGOwner_lawful k2 (fun _ _ h => h)).keep rGOwner_lawful kU (fun b hb e => by have := hb.1.1; rcases e with e | e <;> omega)).mono (q := fun b => (bs ≤ b ∧ b < ((((((((w2.setCell ⟨bs, 2, none⟩ (.slice a r.fSpans.length cap)).setCell ⟨bs, 4, none⟩ (.slice aD r.fCut.length cD)).setCell ⟨bs + 1, 0, none⟩ (.int .i64 r.fEpoch)).setCell ⟨bs + 1, 1, none⟩ (.int .i64 r.fBase)).setCell ⟨bs + 1, 2, none⟩ (.slice a r.fSpans.length cap)).setCell ⟨bs + 1, 3, none⟩ (.int .i64 r.fMoving)).setCell ⟨bs + 1, 4, none⟩ (.slice aD r.fCut.length cD))).heap.size) ∧ ¬ OwnB (.slice a r.fSpans.length cap) b) rGOwner_lawful (fun b hb => ⟨⟨by have := hb.1.1; omega, by have := hb.1.2; omega⟩, hb.2⟩)
      have LD5 := LD.to (s' := fun b => (bs ≤ b ∧ b < ((((((((w2.setCell ⟨bs, 2, none⟩ (.slice a r.fSpans.length cap)).setCell ⟨bs, 4, none⟩ (.slice aD r.fCut.length cD)).setCell ⟨bs + 1, 0, none⟩ (.int .i64 r.fEpoch)).setCell ⟨bs + 1, 1, none⟩ (.int .i64 r.fBase)).setCell ⟨bs + 1, 2, none⟩ (.slice a r.fSpans.length cap)).setCell ⟨bs + 1, 3, none⟩ (.int .i64 r.fMoving)).setCell ⟨bs + 1, 4, none⟩ (.slice aD r.fCut.length cD))).heap.size) ∧ ¬ OwnB (.slice a r.fSpans.length cap) b) kU (fun b hb e => by have := hb.1; rcases e with e | e <;> omega) (fun b hb => ⟨⟨by have := hb.1; omega, by have := hb.2; omega⟩, fun h => by have := (own.lt b h).2; have := hb.1; omega⟩)
      clear row0 rowR kS kT kU own els LD kk kw k2 HL HC
      go_wp2_with fail
      refine bodyPost_ret (results_cell_row (by rfl) _ _ _ _ _ _ _ (by rfl) rowF Try.underlying38 (by rfl) hinfo) rfl ?_
      exact ⟨_, rfl, by rw [hbs]; exact ⟨a, cap, aD, cD, css, rfl, own5, els5, LD5⟩, k5⟩
end Go.Proofs.Ytibaehlfpgipfaa
