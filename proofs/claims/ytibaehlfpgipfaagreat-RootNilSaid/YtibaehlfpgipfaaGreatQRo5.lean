/- ROOT: decide. Printed by mac.py. -/
import Derived.Test.YtibaehlfpgipfaaGreatQRo4
namespace Go.Proofs.YtibaehlfpgipfaaGreat
open Go.RowKit

theorem T_u64 : SliceT Tryz.prog 46 28 1 8 := SliceT.mk' Tryz.underlying46 (z := .int .u64 0) (by kernel_rfl) rfl (by decide)
theorem IsRoot.more {w : World} {O : Nat → Prop} {g n n' : Nat} {R : RootS} (h : IsRoot w O g n R) (hn : n ≤ n') : IsRoot w O g n' R := by
  obtain ⟨lt, og, ok, bM, aC, cC, aO, cO, aS, cS, aU, cU, cssC, D, B⟩ := h
  exact ⟨lt, og, ok, bM, aC, cC, aO, cO, aS, cS, aU, cU, cssC, D, ⟨B.row, B.oM, B.ne, B.oC, B.oO, B.co, B.rowC, B.els, B.rts, B.rowO, ⟨B.dec.1.mono hn, B.dec.2⟩⟩⟩
/-- Behind a change of the numbers, of the decisions and of the order. -/
theorem RootAt.turn {w wf : World} {O O' : Nat → Prop} {g n n' : Nat} {R : RootS} {bM cC cO cS cU cO' : Nat} {aC aO aS aU aO' : Option Addr} {cssC : List (List Value)} {D D' : DataW Value} {begun' : Int} {dec' : Int → Option Int} {order' : List Int}
    (B : RootAt w O g n R bM aC cC aO cO aS cS aU cU cssC D) (og : O g) (hO : ∀ b, O b → O' b) (k : Keep (fun b => b = g ∨ b = bM ∨ OwnB (.slice aO R.order.length cO) b ∨ ¬ O b) w wf)
    (row : RowIs wf g 79 [.int .i64 R.spare, .slice aC R.cats.length cC, .int .i64 R.routes.fEpoch, .int .i64 R.routes.fBase, .slice aS R.routes.fSpans.length cS, .int .i64 R.routes.fMoving, .slice aU R.routes.fCut.length cU, .int .u64 begun', .map (some bM), .slice aO' order'.length cO'])
    (own : wf.ownsRow 0 28 1 (.slice aO' order'.length cO') order'.length (order'.map ivU)) (hv : ∀ b, OwnB (.slice aO' order'.length cO') b → OwnB (.slice aO R.order.length cO) b ∨ (¬ O b ∧ O' b)) (dec : DecIs wf bM n' D' dec') :
    RootAt wf O' g n' ⟨R.spare, R.cats, R.routes, begun', dec', order'⟩ bM aC cC aO' cO' aS cS aU cU cssC D' := by
  have hdeep : ∀ b, Deep O g bM (.slice aC R.cats.length cC) (.slice aO R.order.length cO) b → ¬ (b = g ∨ b = bM ∨ OwnB (.slice aO R.order.length cO) b ∨ ¬ O b) := fun b hb h => by
    rcases h with h | h | h | h
    · exact hb.2.1 h
    · exact hb.2.2.1 h
    · exact hb.2.2.2.2 h
    · exact h hb.1
  have hdeep2 : ∀ b, Deep O g bM (.slice aC R.cats.length cC) (.slice aO R.order.length cO) b → Deep O' g bM (.slice aC R.cats.length cC) (.slice aO' order'.length cO') b := fun b hb =>
    ⟨hO b hb.1, hb.2.1, hb.2.2.1, hb.2.2.2.1, fun h => by
      rcases hv b h with h | h
      · exact hb.2.2.2.2 h
      · exact h.1 hb.1⟩
  refine ⟨row, hO _ B.oM, B.ne, fun b hb => ⟨hO b (B.oC b hb).1, (B.oC b hb).2⟩, fun b hb => ?_, fun b hb h => ?_, owned_keep B.rowC k (fun b hb h => ?_), (B.els.keep rGCatalog_lawful k hdeep).mono rGCatalog_lawful hdeep2, rGRoutes_lawful.mono (rGRoutes_lawful.keep B.rts k hdeep) hdeep2, own, dec⟩
  · rcases hv b hb with h | h
    · exact ⟨hO b (B.oO b h).1, (B.oO b h).2⟩
    · exact ⟨h.2, fun e => h.1 (e ▸ og), fun e => h.1 (e ▸ B.oM)⟩
  · rcases hv b h with h | h
    · exact B.co b hb h
    · exact h.1 (B.oC b hb).1
  · have := B.oC b hb
    rcases h with h | h | h | h
    · exact this.2.1 h
    · exact this.2.2 h
    · exact B.co b hb h
    · exact h this.1
def updD (dec : Int → Option Int) (k x : Int) : Int → Option Int := fun i => if i = k then some x else dec i
/-- What is decided: the error, the place, and the root behind it. -/
def decideF (R : RootS) (txn : Int) (commit : Bool) : Int × Int × RootS :=
  if txn = 0 ∨ R.begun < txn then (5, 0, R) else
  match R.dec txn with
  | some p => if p = 0 then (16, 0, R) else (0, p, R)
  | none => if commit then (0, (R.order.length : Int) + 1, { R with dec := updD R.dec txn ((R.order.length : Int) + 1), order := R.order ++ [txn] }) else (16, 0, { R with dec := updD R.dec txn 0 })
def repG (e t n : Int) : GReply := ⟨e, t, n, false, [], [], ⟨0, 0, [], []⟩, ⟨0, 0, [], 0, []⟩⟩
def repV (e t n : Int) : List Value := [.int .i64 e, .int .u64 t, .int .i64 n, .bool false, .slice none 0 0, .slice none 0 0, .int .i64 0, .int .i64 0, .slice none 0 0, .slice none 0 0, .int .i64 0, .int .i64 0, .slice none 0 0, .int .i64 0, .slice none 0 0]
theorem repV_R (w : World) (p : Nat → Prop) {e t n : Int} (he : isI64 e) (ht : isU64 t) (hn : isI64 n) : rGReply w p (repV e t n) (repG e t n) :=
  rGReply_mk w p (x := repG e t n) he ht hn (nil_R _ _) (nil_R _ _) (rGCatalog_mk _ _ (x := ⟨0, 0, [], []⟩) ⟨by show _ ≤ (0 : Int); decide, by show (0 : Int) ≤ _; decide⟩ ⟨by show _ ≤ (0 : Int); decide, by show (0 : Int) ≤ _; decide⟩ (nil_R _ _) (nil_R _ _))
    (rGRoutes_mk _ _ (x := ⟨0, 0, [], 0, []⟩) ⟨by show _ ≤ (0 : Int); decide, by show (0 : Int) ≤ _; decide⟩ ⟨by show _ ≤ (0 : Int); decide, by show (0 : Int) ≤ _; decide⟩ (nil_R _ _) ⟨by show _ ≤ (0 : Int); decide, by show (0 : Int) ≤ _; decide⟩ ⟨Lies.nil _ _ _, Nat.le_refl _, Nat.zero_le _⟩)
def RunPost (w : World) (O : Nat → Prop) (g n : Nat) (y : GReply × RootS) (e : Ending) (w' : World) : Prop := ∃ (cs : List Value) (O' R' : Nat → Prop), e = .returned (.agg cs.toArray) ∧ rGReply w' R' cs y.1 ∧ (∀ b, R' b → w.heap.size ≤ b ∧ b < w'.heap.size ∧ ¬ O' b) ∧ IsRoot w' O' g (n + 1) y.2 ∧ (∀ b, O' b → O b ∨ w.heap.size ≤ b) ∧ (∀ b, O b → O' b) ∧ Keep O w w'
section
attribute [local go_sem ↓] stz_Reply
set_option maxRecDepth 100000 in
set_option maxHeartbeats 4000000 in
theorem decide_c (O : Nat → Prop) (g n : Nat) (R : RootS) (txn : Int) (commit : Bool) (w : World) (H : IsRoot w O g n R) (hn : n < 1000000) (ht : isU64 txn) (ho : R.order.length ≤ 90000) :
    Calls Tryz.prog 24 #[.pointer (some ⟨g, 0, none⟩), .int .u64 txn, .bool commit] w (RunPost w O g n (repG (decideF R txn commit).1 0 (decideF R txn commit).2.1, (decideF R txn commit).2.2)) := by
  have hinfo : (Tryz.prog.info? 55).map (·.size) = some 15 := by kernel_rfl
  have H0 := Lib.hid H.lt
  have kA : Keep Nix w (w.alloc (.cells #[.int .i64 0, .int .u64 0, .int .i64 0, .bool false, .slice none 0 0, .slice none 0 0, .int .i64 0, .int .i64 0, .slice none 0 0, .slice none 0 0, .int .i64 0, .int .i64 0, .slice none 0 0, .int .i64 0, .slice none 0 0] 55)) := (Keep.refl Nix w).alloc _
  have rowZ : RowIs (w.alloc (.cells #[.int .i64 0, .int .u64 0, .int .i64 0, .bool false, .slice none 0 0, .slice none 0 0, .int .i64 0, .int .i64 0, .slice none 0 0, .slice none 0 0, .int .i64 0, .int .i64 0, .slice none 0 0, .int .i64 0, .slice none 0 0] 55)) w.heap.size 55 [.int .i64 0, .int .u64 0, .int .i64 0, .bool false, .slice none 0 0, .slice none 0 0, .int .i64 0, .int .i64 0, .slice none 0 0, .slice none 0 0, .int .i64 0, .int .i64 0, .slice none 0 0, .int .i64 0, .slice none 0 0] := RowIs.alloc w _ _
  have HA := Lib.hid (H.nix kA)
  obtain ⟨lt, og, ok, bM, aC, cC, aO, cO, aS, cS, aU, cU, cssC, D, B⟩ := H.nix kA
  have hgw : g ≠ w.heap.size := by have := H0.out g og; omega
  have hMw : bM ≠ w.heap.size := by have := H0.out bM B.oM; omega
  have x7 : ((w.alloc (.cells #[.int .i64 0, .int .u64 0, .int .i64 0, .bool false, .slice none 0 0, .slice none 0 0, .int .i64 0, .int .i64 0, .slice none 0 0, .slice none 0 0, .int .i64 0, .int .i64 0, .slice none 0 0, .int .i64 0, .slice none 0 0] 55))).cell? ⟨g, 7, none⟩ = some (.int .u64 R.begun) := by simpa using B.row.cell 7
  have x8 : ((w.alloc (.cells #[.int .i64 0, .int .u64 0, .int .i64 0, .bool false, .slice none 0 0, .slice none 0 0, .int .i64 0, .int .i64 0, .slice none 0 0, .slice none 0 0, .int .i64 0, .int .i64 0, .slice none 0 0, .int .i64 0, .slice none 0 0] 55))).cell? ⟨g, 8, none⟩ = some (.map (some bM)) := by simpa using B.row.cell 8
  have hsz : Hid (((w.alloc (.cells #[.int .i64 0, .int .u64 0, .int .i64 0, .bool false, .slice none 0 0, .slice none 0 0, .int .i64 0, .int .i64 0, .slice none 0 0, .slice none 0 0, .int .i64 0, .int .i64 0, .slice none 0 0, .int .i64 0, .slice none 0 0] 55))).heap.size = w.heap.size + 1) := by show _ = _; simp
  have HBB := Lib.hid B
  have hlk := dec_look B.dec ht
  clear B
  obtain ⟨Y, HY⟩ : ∃ Y, Hid (decideF R txn commit = Y) := ⟨_, rfl⟩
  rw [HY.out]
  have hbg : isU64 R.begun := ok.u64
  have i0 : isI64 0 := ⟨by decide, by decide⟩
  have u0 : isU64 0 := ⟨by decide, by decide⟩
  by_cases hbad : txn = 0 ∨ R.begun < txn
  · have e : Hid ((5, 0, R) = Y) := by show _ = _; rw [← HY.out]; unfold decideF; rw [if_pos hbad]
    clear hlk
    by_cases h0 : txn = 0
    · have q0 : (txn == 0) = true := by simp [h0]
      clear hbad h0
      go_enter Tryz.func24, Tryz.ntmps24
      have hst := store_run (P := Tryz.prog) (cs := repV 5 0 0) S_Reply rowZ rfl rfl rfl
      unfold repV at hst
      have kS : Keep (· = w.heap.size) (w.alloc (.cells #[.int .i64 0, .int .u64 0, .int .i64 0, .bool false, .slice none 0 0, .slice none 0 0, .int .i64 0, .int .i64 0, .slice none 0 0, .slice none 0 0, .int .i64 0, .int .i64 0, .slice none 0 0, .int .i64 0, .slice none 0 0] 55)) ((w.alloc (.cells #[.int .i64 0, .int .u64 0, .int .i64 0, .bool false, .slice none 0 0, .slice none 0 0, .int .i64 0, .int .i64 0, .slice none 0 0, .slice none 0 0, .int .i64 0, .int .i64 0, .slice none 0 0, .int .i64 0, .slice none 0 0] 55)).setRow w.heap.size (repV 5 0 0).toArray) := (Keep.refl (· = w.heap.size) (w.alloc (.cells #[.int .i64 0, .int .u64 0, .int .i64 0, .bool false, .slice none 0 0, .slice none 0 0, .int .i64 0, .int .i64 0, .slice none 0 0, .slice none 0 0, .int .i64 0, .int .i64 0, .slice none 0 0, .int .i64 0, .slice none 0 0] 55))).setRow (fun _ => rfl) _
      have HZR := Lib.hid (rowZ.setRow (repV 5 0 0))
      have HKS := Lib.hid kS
      clear kS
      go_wp2_with fail
      refine bodyPost_ret (results_cell_row (by rfl) _ _ _ _ _ _ _ (by rfl) HZR.out Tryz.underlying55 (by rfl) hinfo) rfl ?_
      have kS := HKS.out
      rw [← e.out]
      exact ⟨repV 5 0 0, O, fun _ => False, rfl, repV_R _ _ ⟨by decide, by decide⟩ u0 i0, fun b h => h.elim, (HA.out.keep kS (fun b hb e => by have := H0.out b hb; omega)).more (Nat.le_succ n), fun b h => .inl h, fun b h => h, (kA.then kS (fun i hi e => by omega)).nix⟩
    · have q0 : (txn == 0) = false := by simp [h0]
      have hlt : R.begun < txn := by omega
      clear hbad h0
      go_enter Tryz.func24, Tryz.ntmps24
      have hst := store_run (P := Tryz.prog) (cs := repV 5 0 0) S_Reply rowZ rfl rfl rfl
      unfold repV at hst
      have kS : Keep (· = w.heap.size) (w.alloc (.cells #[.int .i64 0, .int .u64 0, .int .i64 0, .bool false, .slice none 0 0, .slice none 0 0, .int .i64 0, .int .i64 0, .slice none 0 0, .slice none 0 0, .int .i64 0, .int .i64 0, .slice none 0 0, .int .i64 0, .slice none 0 0] 55)) ((w.alloc (.cells #[.int .i64 0, .int .u64 0, .int .i64 0, .bool false, .slice none 0 0, .slice none 0 0, .int .i64 0, .int .i64 0, .slice none 0 0, .slice none 0 0, .int .i64 0, .int .i64 0, .slice none 0 0, .int .i64 0, .slice none 0 0] 55)).setRow w.heap.size (repV 5 0 0).toArray) := (Keep.refl (· = w.heap.size) (w.alloc (.cells #[.int .i64 0, .int .u64 0, .int .i64 0, .bool false, .slice none 0 0, .slice none 0 0, .int .i64 0, .int .i64 0, .slice none 0 0, .slice none 0 0, .int .i64 0, .int .i64 0, .slice none 0 0, .int .i64 0, .slice none 0 0] 55))).setRow (fun _ => rfl) _
      have HZR := Lib.hid (rowZ.setRow (repV 5 0 0))
      have HKS := Lib.hid kS
      clear kS
      go_wp2_with fail
      refine bodyPost_ret (results_cell_row (by rfl) _ _ _ _ _ _ _ (by rfl) HZR.out Tryz.underlying55 (by rfl) hinfo) rfl ?_
      have kS := HKS.out
      rw [← e.out]
      exact ⟨repV 5 0 0, O, fun _ => False, rfl, repV_R _ _ ⟨by decide, by decide⟩ u0 i0, fun b h => h.elim, (HA.out.keep kS (fun b hb e => by have := H0.out b hb; omega)).more (Nat.le_succ n), fun b h => .inl h, fun b h => h, (kA.then kS (fun i hi e => by omega)).nix⟩
  · have h0 : txn ≠ 0 := fun h => hbad (.inl h)
    have hle : ¬ R.begun < txn := fun h => hbad (.inr h)
    have q0 : (txn == 0) = false := by simp [h0]
    cases hd : R.dec txn with
    | some p =>
      have hp := ok.place txn p hd
      rw [hd] at hlk
      replace hlk : (Instr.lookup 77 (.map (some bM)) (.int .u64 txn) true).run Tryz.prog (w.alloc (.cells #[.int .i64 0, .int .u64 0, .int .i64 0, .bool false, .slice none 0 0, .slice none 0 0, .int .i64 0, .int .i64 0, .slice none 0 0, .slice none 0 0, .int .i64 0, .int .i64 0, .slice none 0 0, .int .i64 0, .slice none 0 0] 55)) = .ok (.tuple #[.int .i64 p, .bool true]) (w.alloc (.cells #[.int .i64 0, .int .u64 0, .int .i64 0, .bool false, .slice none 0 0, .slice none 0 0, .int .i64 0, .int .i64 0, .slice none 0 0, .slice none 0 0, .int .i64 0, .int .i64 0, .slice none 0 0, .int .i64 0, .slice none 0 0] 55)) := hlk
      have hol := ok.len.2
      by_cases hp0 : p = 0
      · have e : Hid ((16, 0, R) = Y) := by show _ = _; rw [← HY.out]; unfold decideF; rw [if_neg hbad, hd]; simp [hp0]
        subst hp0
        clear hbad hp hd
        go_enter Tryz.func24, Tryz.ntmps24
        have hst := store_run (P := Tryz.prog) (cs := repV 16 0 0) S_Reply rowZ rfl rfl rfl
        unfold repV at hst
        have kS : Keep (· = w.heap.size) (w.alloc (.cells #[.int .i64 0, .int .u64 0, .int .i64 0, .bool false, .slice none 0 0, .slice none 0 0, .int .i64 0, .int .i64 0, .slice none 0 0, .slice none 0 0, .int .i64 0, .int .i64 0, .slice none 0 0, .int .i64 0, .slice none 0 0] 55)) ((w.alloc (.cells #[.int .i64 0, .int .u64 0, .int .i64 0, .bool false, .slice none 0 0, .slice none 0 0, .int .i64 0, .int .i64 0, .slice none 0 0, .slice none 0 0, .int .i64 0, .int .i64 0, .slice none 0 0, .int .i64 0, .slice none 0 0] 55)).setRow w.heap.size (repV 16 0 0).toArray) := (Keep.refl (· = w.heap.size) (w.alloc (.cells #[.int .i64 0, .int .u64 0, .int .i64 0, .bool false, .slice none 0 0, .slice none 0 0, .int .i64 0, .int .i64 0, .slice none 0 0, .slice none 0 0, .int .i64 0, .int .i64 0, .slice none 0 0, .int .i64 0, .slice none 0 0] 55))).setRow (fun _ => rfl) _
        have HZR := Lib.hid (rowZ.setRow (repV 16 0 0))
        have HKS := Lib.hid kS
        clear kS
        go_wp2_with fail
        refine bodyPost_ret (results_cell_row (by rfl) _ _ _ _ _ _ _ (by rfl) HZR.out Tryz.underlying55 (by rfl) hinfo) rfl ?_
        have kS := HKS.out
        rw [← e.out]
        exact ⟨repV 16 0 0, O, fun _ => False, rfl, repV_R _ _ ⟨by decide, by decide⟩ u0 i0, fun b h => h.elim, (HA.out.keep kS (fun b hb e => by have := H0.out b hb; omega)).more (Nat.le_succ n), fun b h => .inl h, fun b h => h, (kA.then kS (fun i hi e => by omega)).nix⟩
      · have e : Hid ((0, p, R) = Y) := by show _ = _; rw [← HY.out]; unfold decideF; rw [if_neg hbad, hd]; simp [hp0]
        have qp : (p == 0) = false := by simp [hp0]
        have ip : isI64 p := ⟨by omega, by omega⟩
        clear hbad hp hd hp0
        go_enter Tryz.func24, Tryz.ntmps24
        have hst := store_run (P := Tryz.prog) (cs := repV 0 0 p) S_Reply rowZ rfl rfl rfl
        unfold repV at hst
        have kS : Keep (· = w.heap.size) (w.alloc (.cells #[.int .i64 0, .int .u64 0, .int .i64 0, .bool false, .slice none 0 0, .slice none 0 0, .int .i64 0, .int .i64 0, .slice none 0 0, .slice none 0 0, .int .i64 0, .int .i64 0, .slice none 0 0, .int .i64 0, .slice none 0 0] 55)) ((w.alloc (.cells #[.int .i64 0, .int .u64 0, .int .i64 0, .bool false, .slice none 0 0, .slice none 0 0, .int .i64 0, .int .i64 0, .slice none 0 0, .slice none 0 0, .int .i64 0, .int .i64 0, .slice none 0 0, .int .i64 0, .slice none 0 0] 55)).setRow w.heap.size (repV 0 0 p).toArray) := (Keep.refl (· = w.heap.size) (w.alloc (.cells #[.int .i64 0, .int .u64 0, .int .i64 0, .bool false, .slice none 0 0, .slice none 0 0, .int .i64 0, .int .i64 0, .slice none 0 0, .slice none 0 0, .int .i64 0, .int .i64 0, .slice none 0 0, .int .i64 0, .slice none 0 0] 55))).setRow (fun _ => rfl) _
        have HZR := Lib.hid (rowZ.setRow (repV 0 0 p))
        have HKS := Lib.hid kS
        clear kS
        go_wp2_with fail
        refine bodyPost_ret (results_cell_row (by rfl) _ _ _ _ _ _ _ (by rfl) HZR.out Tryz.underlying55 (by rfl) hinfo) rfl ?_
        have kS := HKS.out
        rw [← e.out]
        exact ⟨repV 0 0 p, O, fun _ => False, rfl, repV_R _ _ i0 u0 ip, fun b h => h.elim, (HA.out.keep kS (fun b hb e => by have := H0.out b hb; omega)).more (Nat.le_succ n), fun b h => .inl h, fun b h => h, (kA.then kS (fun i hi e => by omega)).nix⟩
    | none =>
      rw [hd] at hlk
      replace hlk : (Instr.lookup 77 (.map (some bM)) (.int .u64 txn) true).run Tryz.prog (w.alloc (.cells #[.int .i64 0, .int .u64 0, .int .i64 0, .bool false, .slice none 0 0, .slice none 0 0, .int .i64 0, .int .i64 0, .slice none 0 0, .slice none 0 0, .int .i64 0, .int .i64 0, .slice none 0 0, .int .i64 0, .slice none 0 0] 55)) = .ok (.tuple #[.int .i64 0, .bool false]) (w.alloc (.cells #[.int .i64 0, .int .u64 0, .int .i64 0, .bool false, .slice none 0 0, .slice none 0 0, .int .i64 0, .int .i64 0, .slice none 0 0, .slice none 0 0, .int .i64 0, .int .i64 0, .slice none 0 0, .int .i64 0, .slice none 0 0] 55)) := hlk
      cases commit with
      | false =>
        have e : Hid ((16, 0, { R with dec := updD R.dec txn 0 }) = Y) := by show _ = _; rw [← HY.out]; unfold decideF; rw [if_neg hbad, hd]; rfl
        obtain ⟨w1, hU, m1, k1⟩ := dec_put (x := 0) HBB.out.dec hn ht
        replace rowZ := rowZ.keep k1 (fun e => hMw e.symm)
        clear hbad hd
        go_enter Tryz.func24, Tryz.ntmps24
        have hst := store_run (P := Tryz.prog) (cs := repV 16 0 0) S_Reply rowZ rfl rfl rfl
        unfold repV at hst
        have kS : Keep (· = w.heap.size) w1 (w1.setRow w.heap.size (repV 16 0 0).toArray) := (Keep.refl (· = w.heap.size) w1).setRow (fun _ => rfl) _
        have HZR := Lib.hid (rowZ.setRow (repV 16 0 0))
        have HKS := Lib.hid kS
        clear kS
        go_wp2_with fail
        refine bodyPost_ret (results_cell_row (by rfl) _ _ _ _ _ _ _ (by rfl) HZR.out Tryz.underlying55 (by rfl) hinfo) rfl ?_
        have kS := HKS.out
        rw [← e.out]
        have hsz1 := hsz.out
        have hk1 := k1.size
        have hkS := kS.size
        have row9 := (HBB.out.row.keep k1 (fun e => HBB.out.ne e.symm)).keep kS hgw
        have own9 := owned_keep (owned_keep HBB.out.rowO k1 (fun b hb e => (HBB.out.oO b hb).2.2 e)) kS (fun b hb e => by have := H0.out b (HBB.out.oO b hb).1; omega)
        have kT : Keep (fun b => b = g ∨ b = bM ∨ OwnB (.slice aO R.order.length cO) b ∨ ¬ O b) (w.alloc (.cells #[.int .i64 0, .int .u64 0, .int .i64 0, .bool false, .slice none 0 0, .slice none 0 0, .int .i64 0, .int .i64 0, .slice none 0 0, .slice none 0 0, .int .i64 0, .int .i64 0, .slice none 0 0, .int .i64 0, .slice none 0 0] 55)) (w1.setRow w.heap.size (repV 16 0 0).toArray) := (k1.mono (fun b hb => .inr (.inl hb))).trans (kS.mono (fun b hb => .inr (.inr (.inr (fun ho => by have := H0.out b ho; omega)))))
        have B2 := RootAt.turn HBB.out og (fun b h => h) kT row9 own9 (fun b hb => .inl hb) (m1.keep kS hMw)
        refine ⟨repV 16 0 0, O, fun _ => False, rfl, repV_R _ _ ⟨by decide, by decide⟩ u0 i0, fun b h => h.elim, ⟨fun b hb => Nat.lt_of_lt_of_le (Nat.lt_of_lt_of_le (H0.out b hb) (by omega)) kS.size, og, ⟨ok.ex, ok.len, ok.small, ok.ver, ok.spans, ok.u64, fun k p hk => ?_⟩, bM, aC, cC, aO, cO, aS, cS, aU, cU, cssC, _, B2⟩, fun b h => .inl h, fun b h => h, ((kA.nix (S := O)).then k1 (fun i hi e => by rw [e]; exact HBB.out.oM)).then kS (fun i hi e => by omega)⟩
        by_cases hkt : k = txn
        · have : updD R.dec txn 0 k = some p := hk
          unfold updD at this
          rw [if_pos hkt] at this
          cases this
          exact ⟨by omega, by omega⟩
        · have : updD R.dec txn 0 k = some p := hk
          unfold updD at this
          rw [if_neg hkt] at this
          exact ok.place k p this
      | true =>
        have e : Hid ((0, (R.order.length : Int) + 1, { R with dec := updD R.dec txn ((R.order.length : Int) + 1), order := R.order ++ [txn] }) = Y) := by show _ = _; rw [← HY.out]; unfold decideF; rw [if_neg hbad, hd]; rfl
        have x9 : ((w.alloc (.cells #[.int .i64 0, .int .u64 0, .int .i64 0, .bool false, .slice none 0 0, .slice none 0 0, .int .i64 0, .int .i64 0, .slice none 0 0, .slice none 0 0, .int .i64 0, .int .i64 0, .slice none 0 0, .int .i64 0, .slice none 0 0] 55))).cell? ⟨g, 9, none⟩ = some (.slice aO R.order.length cO) := by simpa using HBB.out.row.cell 9
        have ownO := HBB.out.rowO
        have HRZ := Lib.hid rowZ
        clear hbad hd rowZ
        go_enter Tryz.func24, Tryz.ntmps24
        go_wp2_with (at_builtin; refine wpl_append1_at (c := 1) T_u64 ?hgd (.tmp 37) (.tmp 39) ?ho 0 ?hs ownO ?hx ?c0 ?c1 ?c2 ?c3 ?c4 ?_)
        case hgd => rfl
        case ho => rfl
        (try case hs => rfl)
        (try case hx => rfl)
        (try case c0 => rfl)
        case c1 => simp [Value.oneCell']
        case c2 => unfold maxLen; omega
        case c3 => omega
        (try case c4 => omega)
        intro a' cap' w6 own6 k6 hfresh
        clear x7 x8 x9 hlk
        have hoO := HBB.out.oO
        have rowg := HBB.out.row.keep k6 (fun h => (hoO g h).2.1 rfl)
        have g9 : w6.cell? ⟨g, 9, none⟩ = some (.slice aO R.order.length cO) := by simpa using rowg.cell 9
        have gf9 := rowg.frozen 9
        have kg : Keep (· = g) w6 (w6.setCell ⟨g, 9, none⟩ (.slice a' (R.order.length + 1) cap')) := (Keep.refl (· = g) w6).setCell (p := ⟨g, 9, none⟩) (fun _ => rfl) _
        have g8 : w6.cell? ⟨g, 8, none⟩ = some (.map (some bM)) := by simpa using rowg.cell 8
        have hMO : ¬ OwnB (.slice aO R.order.length cO) bM := fun h => (hoO bM h).2.2 rfl
        have hlO : ∀ b, OwnB (.slice aO R.order.length cO) b → b < w.heap.size := fun b hb => H0.out b (hoO b hb).1
        have m7 := (HBB.out.dec.keep k6 hMO).keep kg HBB.out.ne
        obtain ⟨w8, hU, m8, k8⟩ := dec_put (x := (R.order.length : Int) + 1) m7 hn ht
        have rowg7 := rowg.set 9 (.slice a' (R.order.length + 1) cap')
        simp only [List.set_cons_succ, List.set_cons_zero] at rowg7
        have rowg8 := rowg7.keep k8 (fun e => HBB.out.ne e.symm)
        have rowZ := ((HRZ.out.keep k6 (fun h => by have := hlO _ h; omega)).keep kg (fun e => hgw e.symm)).keep k8 (fun e => hMw e.symm)
        have hvO : ∀ b, OwnB (.slice a' (R.order.length + 1) cap') b → b ≠ g ∧ b ≠ bM ∧ b ≠ w.heap.size := fun b hb => by
          have h1 := H0.out g og
          have h2 := H0.out bM HBB.out.oM
          rcases hfresh b hb with h | h
          · have h3 := hoO b h
            have h4 := hlO b h
            exact ⟨h3.2.1, h3.2.2, by omega⟩
          · exact ⟨by omega, by omega, by omega⟩
        have own8 := Lib.hid (owned_keep (owned_keep own6 kg (fun b hb => (hvO b hb).1)) k8 (fun b hb => (hvO b hb).2.1))
        have HROWG := Lib.hid rowg8
        have HM8 := Lib.hid m8
        have K6 := Lib.hid k6
        have K8 := Lib.hid k8
        have HFR := Lib.hid hfresh
        have HVO := Lib.hid hvO
        have HLO := Lib.hid hlO
        have qn : (((R.order.length : Int) + 1) == 0) = false := by simp only [beq_eq_false_iff_ne]; omega
        have hol := ok.len.2
        clear ownO own6 k6 k8 m7 m8 rowg rowg7 rowg8 hfresh hvO hlO hMO hoO
        have hst := store_run (P := Tryz.prog) (cs := repV 0 0 ((R.order.length : Int) + 1)) S_Reply rowZ rfl rfl rfl
        unfold repV at hst
        have kS : Keep (· = w.heap.size) w8 (w8.setRow w.heap.size (repV 0 0 ((R.order.length : Int) + 1)).toArray) := (Keep.refl (· = w.heap.size) w8).setRow (fun _ => rfl) _
        have HZR := Lib.hid (rowZ.setRow (repV 0 0 ((R.order.length : Int) + 1)))
        have HKS := Lib.hid kS
        clear kS
        go_wp2_with fail
        refine bodyPost_ret (results_cell_row (by rfl) _ _ _ _ _ _ _ (by rfl) HZR.out Tryz.underlying55 (by rfl) hinfo) rfl ?_
        have kS := HKS.out
        rw [← e.out]
        have hsz1 := hsz.out
        have hk6 := K6.out.size
        have hk8 := K8.out.size
        have hkg := kg.size
        have hl : (R.order ++ [txn]).length = R.order.length + 1 := by simp
        have hvo := HBB.out.oO
        have row9 := HROWG.out.keep kS hgw
        have own9 := owned_keep own8.out kS (fun b hb e => (HVO.out b hb).2.2 e)
        have kT : Keep (fun b => b = g ∨ b = bM ∨ OwnB (.slice aO R.order.length cO) b ∨ ¬ O b) (w.alloc (.cells #[.int .i64 0, .int .u64 0, .int .i64 0, .bool false, .slice none 0 0, .slice none 0 0, .int .i64 0, .int .i64 0, .slice none 0 0, .slice none 0 0, .int .i64 0, .int .i64 0, .slice none 0 0, .int .i64 0, .slice none 0 0] 55)) (w8.setRow w.heap.size (repV 0 0 ((R.order.length : Int) + 1)).toArray) := (((K6.out.mono (fun b hb => .inr (.inr (.inl hb)))).trans (kg.mono (fun b hb => .inl hb))).trans (K8.out.mono (fun b hb => .inr (.inl hb)))).trans (kS.mono (fun b hb => .inr (.inr (.inr (fun ho => by have := H0.out b ho; omega)))))
        have B2 := RootAt.turn (O' := fun b => O b ∨ OwnB (.slice a' (R.order.length + 1) cap') b) (order' := R.order ++ [txn]) HBB.out og (fun b h => .inl h) kT (by rw [hl]; exact row9) (by rw [hl, List.map_append]; exact own9) (fun b hb => by
          rw [hl] at hb
          rcases HFR.out b hb with h | h
          · exact .inl h
          · exact .inr ⟨fun ho => by have := H0.out b ho; omega, .inr hb⟩) (HM8.out.keep kS hMw)
        refine ⟨repV 0 0 ((R.order.length : Int) + 1), _, fun _ => False, rfl, repV_R _ _ i0 u0 ⟨by omega, by omega⟩, fun b h => h.elim, ⟨fun b hb => ?_, .inl og, ⟨ok.ex, ⟨ok.len.1, by show (R.order ++ [txn]).length ≤ _; rw [hl]; omega⟩, ok.small, ok.ver, ok.spans, ok.u64, fun k p hk => ?_⟩, bM, aC, cC, a', cap', aS, cS, aU, cU, cssC, _, B2⟩, fun b h => ?_, fun b h => .inl h, ((((kA.nix (S := O)).then K6.out (fun i hi h => (hvo i h).1)).then kg (fun i hi e => by rw [e]; exact og)).then K8.out (fun i hi e => by rw [e]; exact HBB.out.oM)).then kS (fun i hi e => by omega)⟩
        · rcases hb with hb | hb
          · exact Nat.lt_of_lt_of_le (Nat.lt_of_lt_of_le (H0.out b hb) (by omega)) kS.size
          · exact Nat.lt_of_lt_of_le (own8.out.lt b hb).2 kS.size
        · show 0 ≤ p ∧ p ≤ (((R.order ++ [txn]).length : Nat) : Int)
          rw [hl]
          by_cases hkt : k = txn
          · have : updD R.dec txn ((R.order.length : Int) + 1) k = some p := hk
            unfold updD at this
            rw [if_pos hkt] at this
            cases this
            exact ⟨by omega, by omega⟩
          · have : updD R.dec txn ((R.order.length : Int) + 1) k = some p := hk
            unfold updD at this
            rw [if_neg hkt] at this
            have := ok.place k p this
            exact ⟨by omega, by omega⟩
        · rcases h with h | h
          · exact .inl h
          · rcases HFR.out b h with h2 | h2
            · exact .inl (hvo b h2).1
            · exact .inr (by omega)
end
end Go.Proofs.YtibaehlfpgipfaaGreat
