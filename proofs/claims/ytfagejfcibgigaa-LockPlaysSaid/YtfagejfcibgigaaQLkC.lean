/- LOCK: the table: a map of locks by transaction; New, Get, Drop. Printed by mac.py. -/
import Derived.Test.YtfagejfcibgigaaQLkB
import Derived.Maps.OwnSet
import Derived.Maps.Range
namespace Go.Proofs.Ytfagejfcibgigaa
open Go.RowKit

def zH : Value := .agg #[.int .u64 0, .slice none 0 0, .slice none 0 0, .slice none 0 0]
theorem zH_run (w : World) : (zeroValue 28).run Try.prog w = .ok zH w := by kernel_rfl
def heldV (v : Value) : Option (DataW Value × List MemPlace) := some (.held v, [])
theorem uK : Go.Maps.Keyed Try.prog 23 := Go.Maps.int_keyed Try.underlying23
def keyU (k : Int) : Lit := .int .u64 k
theorem keyU_of {k : Int} (h : isU64 k) : keyOf Try.prog 23 (.int .u64 k) = some (keyU k) := Go.Maps.keyOf_int_mk Try.underlying23 (wf_of_isU64 h)
theorem keyU_is {k : Int} (h : isU64 k) : WideAt.IsKeyLit (keyU k) := uK.key (keyU_of h)
theorem keyU_ne {k k' : Int} (h : k' ≠ k) : keyU k' ≠ keyU k := fun e => h (by simpa [keyU] using e)
def findT (L : List GHeld) (k : Int) : Option GHeld := L.find? (fun x => decide (x.fTxn = k))
def valO (x : Option GHeld) : GHeld := match x with | none => ⟨0, [], [], []⟩ | some h => h
def RdH (w : World) (p : Nat → Prop) (v : Value) (x : Option GHeld) : Prop := ∃ cs : List Value, v = .agg cs.toArray ∧ rGHeld w p cs (valO x)
theorem RdH.keep {w w' : World} {p : Nat → Prop} {v : Value} {x : Option GHeld} (h : RdH w p v x) {S : Nat → Prop} (k : Keep S w w') (hs : ∀ b, p b → ¬ S b) : RdH w' p v x := by
  obtain ⟨cs, e, l⟩ := h
  exact ⟨cs, e, rGHeld_lawful.keep l k hs⟩
theorem RdH.mono {w : World} {p q : Nat → Prop} {v : Value} {x : Option GHeld} (h : RdH w p v x) (hq : ∀ b, p b → q b) : RdH w q v x := by
  obtain ⟨cs, e, l⟩ := h
  exact ⟨cs, e, rGHeld_lawful.mono l hq⟩
def MapIs (w : World) (p : Nat → Prop) (bM n : Nat) (D : DataW Value) (last : Int → Option GHeld) : Prop :=
  w.ownsMap Try.prog 23 heldV bM n D ∧ ∀ k, isU64 k → ∃ v, D.atKey (keyU k) (.held zH) = .held v ∧ RdH w p v (last k) ∧ Maps.has D (keyU k) = (last k).isSome
theorem ownsMap_keep {w w' : World} {bM n : Nat} {D : DataW Value} (h : w.ownsMap Try.prog 23 heldV bM n D) {S : Nat → Prop} (k : Keep S w w') (hs : ¬ S bM) : w'.ownsMap Try.prog 23 heldV bM n D := by
  have hlt := h.lt
  obtain ⟨es, clock, hb, r⟩ := h
  exact ⟨es, clock, (k.block bM hlt hs).trans hb, r⟩
theorem MapIs.keep {w w' : World} {p : Nat → Prop} {bM n : Nat} {D : DataW Value} {last : Int → Option GHeld} (h : MapIs w p bM n D last) {S : Nat → Prop} (k : Keep S w w') (hs : ¬ S bM) (hp : ∀ b, p b → ¬ S b) : MapIs w' p bM n D last :=
  ⟨ownsMap_keep h.1 k hs, fun i hi => by
    obtain ⟨v, h1, h2, h3⟩ := h.2 i hi
    exact ⟨v, h1, h2.keep k hp, h3⟩⟩
theorem MapIs.mono {w : World} {p q : Nat → Prop} {bM n : Nat} {D : DataW Value} {last : Int → Option GHeld} (h : MapIs w p bM n D last) (hq : ∀ b, p b → q b) : MapIs w q bM n D last :=
  ⟨h.1, fun i hi => by
    obtain ⟨v, h1, h2, h3⟩ := h.2 i hi
    exact ⟨v, h1, h2.mono hq, h3⟩⟩
structure TabOk (L : List GHeld) : Prop where
  u64 : ∀ h ∈ L, isU64 h.fTxn
  rising : L.Pairwise (fun a b => a.fTxn < b.fTxn)
  small : ∀ h ∈ L, smallF h
/-- A table lies at g, in the blocks O; its locks, by rising transactions, are L. -/
structure IsTab (w : World) (O : Nat → Prop) (g n : Nat) (L : List GHeld) : Prop where
  lt : ∀ b, O b → b < w.heap.size
  og : O g
  ok : TabOk L
  body : ∃ (bM : Nat) (D : DataW Value), O bM ∧ bM ≠ g ∧ RowIs w g 68 [.map (some bM)] ∧ MapIs w (fun b => O b ∧ b ≠ g ∧ b ≠ bM) bM n D (findT L)
theorem IsTab.keep {w w' : World} {O : Nat → Prop} {g n : Nat} {L : List GHeld} (h : IsTab w O g n L) {S : Nat → Prop} (k : Keep S w w') (hs : ∀ b, O b → ¬ S b) : IsTab w' O g n L := by
  obtain ⟨lt, og, ok, bM, D, oM, ne, row, m⟩ := h
  exact ⟨fun b hb => Nat.lt_of_lt_of_le (lt b hb) k.size, og, ok, bM, D, oM, ne, row.keep k (hs g og), m.keep k (hs bM oM) (fun b hb => hs b hb.1)⟩
theorem IsTab.nix {w w' : World} {O : Nat → Prop} {g n : Nat} {L : List GHeld} (h : IsTab w O g n L) (k : Keep Nix w w') : IsTab w' O g n L := h.keep k (fun _ _ h => h)
theorem IsTab.more {w : World} {O : Nat → Prop} {g n n' : Nat} {L : List GHeld} (h : IsTab w O g n L) (hn : n ≤ n') : IsTab w O g n' L := by
  obtain ⟨lt, og, ok, bM, D, oM, ne, row, m⟩ := h
  exact ⟨lt, og, ok, bM, D, oM, ne, row, m.1.mono hn, m.2⟩
/-- A look-up by its run. -/
theorem look_run {w : World} {bM n : Nat} {D : DataW Value} (own : w.ownsMap Try.prog 23 heldV bM n D) {k : Int} (hk : isU64 k) {v : Value} (hv : D.atKey (keyU k) (.held zH) = .held v) :
    (Instr.lookup 66 (.map (some bM)) (.int .u64 k) false).run Try.prog w = .ok v w := by
  obtain ⟨v', ps, hrun, h⟩ := own.lookup uK Try.underlying66 (zH_run w) (show heldV zH = some (.held zH, []) from rfl) (keyU_of hk)
  rw [hv] at h
  simp only [heldV, Option.some.injEq, Prod.mk.injEq, DataW.held.injEq] at h
  rw [← h.1]; exact hrun
theorem look_run_ok {w : World} {bM n : Nat} {D : DataW Value} (own : w.ownsMap Try.prog 23 heldV bM n D) {k : Int} (hk : isU64 k) {v : Value} (hv : D.atKey (keyU k) (.held zH) = .held v) :
    (Instr.lookup 66 (.map (some bM)) (.int .u64 k) true).run Try.prog w = .ok (.tuple #[v, .bool (Maps.has D (keyU k))]) w := by
  obtain ⟨v', ps, hrun, h⟩ := own.look_ok uK Try.underlying66 (zH_run w) (show heldV zH = some (.held zH, []) from rfl) (keyU_of hk)
  rw [hv] at h
  simp only [heldV, Option.some.injEq, Prod.mk.injEq, DataW.held.injEq] at h
  rw [← h.1]; exact hrun
/-- A store by its run. -/
theorem put_run {w : World} {p : Nat → Prop} {bM n : Nat} {D : DataW Value} {last : Int → Option GHeld} (m : MapIs w p bM n D last) (hn : n < 1000000) {k : Int} (hk : isU64 k) {v : Value} {x : GHeld} (hp : ¬ p bM)
    (hv : RdH w p v (some x)) : ∃ w', (Instr.mapUpdate 66 (.map (some bM)) (.int .u64 k) v).run Try.prog w = .ok () w' ∧ MapIs w' p bM (n + 1) (D.put (keyU k) (.held v)) (fun i => if i = k then some x else last i) ∧ Keep (fun b => b = bM) w w' := by
  obtain ⟨w', hrun, own', hg⟩ := m.1.update uK Try.underlying66 (by unfold maxLen; omega) (keyU_of hk) (show heldV v = some (.held v, []) from rfl)
  have kk : Keep (fun b => b = bM) w w' := (Keep.refl _ w).grown hg (fun i hi _ => by cases hi; rfl)
  refine ⟨w', hrun, ⟨own', fun i hi => ?_⟩, kk⟩
  by_cases hik : i = k
  · subst hik
    exact ⟨v, Maps.atKey_put_same m.1.isMap (keyU_is hk) _ _, by simpa using hv.keep kk (fun b hb e => hp (e ▸ hb)), by simpa using Maps.has_put_same m.1.isMap (keyU_is hk) _⟩
  · obtain ⟨u, h1, h2, h3⟩ := m.2 i hi
    refine ⟨u, (Maps.atKey_put_other (keyU_ne hik) _ _).trans h1, ?_, ?_⟩
    · simpa [hik] using h2.keep kk (fun b hb e => hp (e ▸ hb))
    · rw [Maps.has_put_other (keyU_ne hik)]; simpa [hik] using h3
/-- A deletion by its run. -/
theorem del_run {w : World} {p : Nat → Prop} {bM n : Nat} {D : DataW Value} {last : Int → Option GHeld} (m : MapIs w p bM n D last) {k : Int} (hk : isU64 k) (hp : ¬ p bM) (ty : TypeId) :
    ∃ w', (Builtin.delete_ #[66, 23] ty #[.map (some bM), .int .u64 k]).run Try.prog w = .ok (.tuple #[]) w' ∧ MapIs w' p bM n (D.del (keyU k)) (fun i => if i = k then none else last i) ∧ Keep (fun b => b = bM) w w' := by
  obtain ⟨w', hrun, own', hg⟩ := m.1.drop uK Try.underlying66 (keyU_of hk) ty
  have kk : Keep (fun b => b = bM) w w' := (Keep.refl _ w).grown hg.grown (fun i hi _ => by cases hi; rfl)
  refine ⟨w', hrun, ⟨own', fun i hi => ?_⟩, kk⟩
  by_cases hik : i = k
  · subst hik
    refine ⟨zH, Maps.atKey_del_same _, ?_, by simpa using Maps.has_del_same⟩
    simp only [if_true]
    exact ⟨[.int .u64 0, .slice none 0 0, .slice none 0 0, .slice none 0 0], rfl, rGHeld_mk _ _ (x := ⟨0, [], [], []⟩) ⟨by decide, by decide⟩ ⟨none, 0, [], rfl, rfl, Lies.nil _ _ _, Nat.le_refl _, Nat.zero_le _, fun i c x h => by cases h⟩ ⟨none, 0, [], rfl, rfl, Lies.nil _ _ _, Nat.le_refl _, Nat.zero_le _, fun i c x h => by cases h⟩ ⟨none, 0, [], rfl, rfl, Lies.nil _ _ _, Nat.le_refl _, Nat.zero_le _, fun i c x h => by cases h⟩⟩
  · obtain ⟨u, h1, h2, h3⟩ := m.2 i hi
    refine ⟨u, (Maps.atKey_del_other (keyU_ne hik) _).trans h1, ?_, ?_⟩
    · simpa [hik] using h2.keep kk (fun b hb e => hp (e ▸ hb))
    · rw [Maps.has_del_other (keyU_ne hik)]; simpa [hik] using h3
theorem MapIs.made (w : World) (p : Nat → Prop) : MapIs (w.alloc (.map #[] 0)) p w.heap.size 0 (.map []) (findT []) :=
  ⟨World.ownsMap_made _ _ _ _, fun k _ => ⟨zH, rfl, ⟨[.int .u64 0, .slice none 0 0, .slice none 0 0, .slice none 0 0], rfl, rGHeld_mk _ _ (x := ⟨0, [], [], []⟩) ⟨by decide, by decide⟩ ⟨none, 0, [], rfl, rfl, Lies.nil _ _ _, Nat.le_refl _, Nat.zero_le _, fun i c x h => by cases h⟩ ⟨none, 0, [], rfl, rfl, Lies.nil _ _ _, Nat.le_refl _, Nat.zero_le _, fun i c x h => by cases h⟩ ⟨none, 0, [], rfl, rfl, Lies.nil _ _ _, Nat.le_refl _, Nat.zero_le _, fun i c x h => by cases h⟩⟩, rfl⟩⟩
theorem new_c (w : World) : Calls Try.prog 8 #[] w fun e w' => ∃ g O, e = .returned (.pointer (some ⟨g, 0, none⟩)) ∧ IsTab w' O g 0 [] ∧ (∀ b, O b → w.heap.size ≤ b) ∧ Keep Nix w w' := by
  have hmm := @run_makeMap Try.prog
  go_enter Try.func8, Try.ntmps8
  go_wp2_with fail
  go_ret
  have kk : Keep Nix w ((w.alloc (.map #[] 0)).alloc (.cells #[.map (some w.heap.size)] 68)) := ((Keep.refl Nix w).alloc _).alloc _
  have row : RowIs ((w.alloc (.map #[] 0)).alloc (.cells #[.map (some w.heap.size)] 68)) (w.heap.size + 1) 68 [.map (some w.heap.size)] := by
    have h := RowIs.alloc (w.alloc (.map #[] 0)) #[.map (some w.heap.size)] 68
    simpa using h
  refine ⟨_, fun b => w.heap.size ≤ b ∧ b ≤ w.heap.size + 1, rfl, ⟨fun b hb => ?_, ⟨Nat.le_succ _, Nat.le_refl _⟩, ⟨fun _ h => (by cases h), List.Pairwise.nil, fun _ h => (by cases h)⟩, w.heap.size, _, ⟨Nat.le_refl _, Nat.le_succ _⟩, by omega, row, (MapIs.made w _).keep ((Keep.refl Nix _).alloc _) id (fun _ _ => id)⟩, fun b hb => hb.1, kk⟩
  simp; omega
theorem findT_mem {L : List GHeld} {k : Int} {h : GHeld} (e : findT L k = some h) : h ∈ L ∧ h.fTxn = k := by
  have h1 := List.find?_some e
  exact ⟨List.mem_of_find?_eq_some e, of_decide_eq_true h1⟩
theorem valO_small {L : List GHeld} (ok : TabOk L) (k : Int) : smallF (valO (findT L k)) := by
  cases e : findT L k with
  | none => exact ⟨Nat.zero_le _, Nat.zero_le _, Nat.zero_le _⟩
  | some h => exact ok.small h (findT_mem e).1
def GetPost (w : World) (x : Option GHeld) (e : Ending) (w' : World) : Prop := ∃ cs : List Value, e = .returned (.tuple #[.agg cs.toArray, .bool x.isSome]) ∧ rGHeld w' (NewIn w w') cs (valO x) ∧ Keep Nix w w'
set_option maxRecDepth 100000 in
set_option maxHeartbeats 1000000 in
theorem get_c (O : Nat → Prop) (g n : Nat) (L : List GHeld) (k : Int) (w : World) (T : IsTab w O g n L) (hk : isU64 k) :
    Calls Try.prog 24 #[.pointer (some ⟨g, 0, none⟩), .int .u64 k] w (GetPost w (findT L k)) := by
  have hinfo : (Try.prog.info? 28).map (·.size) = some 4 := by kernel_rfl
  have kA : Keep Nix w (w.alloc (.cells #[.int .u64 0, .slice none 0 0, .slice none 0 0, .slice none 0 0] 28)) := (Keep.refl Nix w).alloc _
  obtain ⟨lt, og, ok, bM, D, oM, ne, row, m⟩ := T.nix kA
  obtain ⟨v, hv, ⟨cs, rfl, rh⟩, hhas⟩ := m.2 k hk
  have hsm := valO_small ok k
  have hlk := look_run_ok m.1 hk hv
  rw [hhas] at hlk
  have hltw := T.lt
  obtain ⟨fo, HFO⟩ : ∃ y, Hid (findT L k = y) := ⟨_, rfl⟩
  rw [HFO.out] at rh hsm hlk ⊢
  obtain ⟨is, HIS⟩ : ∃ y, Hid (fo.isSome = y) := ⟨_, rfl⟩
  unfold GetPost
  rw [HIS.out] at hlk ⊢
  generalize valO fo = h at *
  have rh2 := rh
  obtain ⟨aK, cK, aS, cS, aW, cW, rfl, -⟩ := rGHeld_open rh
  have kB : Keep Nix (w.alloc (.cells #[.int .u64 0, .slice none 0 0, .slice none 0 0, .slice none 0 0] 28)) (((w.alloc (.cells #[.int .u64 0, .slice none 0 0, .slice none 0 0, .slice none 0 0] 28))).alloc (.cells #[.int .u64 h.fTxn, .slice aK h.fKeys.length cK, .slice aS h.fSpans.length cS, .slice aW h.fWrites.length cW] 28)) := (Keep.refl Nix _).alloc _
  have HO := own_c h [.int .u64 h.fTxn, .slice aK h.fKeys.length cK, .slice aS h.fSpans.length cS, .slice aW h.fWrites.length cW] (((w.alloc (.cells #[.int .u64 0, .slice none 0 0, .slice none 0 0, .slice none 0 0] 28))).alloc (.cells #[.int .u64 h.fTxn, .slice aK h.fKeys.length cK, .slice aS h.fSpans.length cS, .slice aW h.fWrites.length cW] 28)) (rGHeld_lawful.nix rh2 kB) hsm (fun b hb => Nat.lt_of_lt_of_le (lt b hb.1) kB.size)
  have rowZ : RowIs (((w.alloc (.cells #[.int .u64 0, .slice none 0 0, .slice none 0 0, .slice none 0 0] 28))).alloc (.cells #[.int .u64 h.fTxn, .slice aK h.fKeys.length cK, .slice aS h.fSpans.length cS, .slice aW h.fWrites.length cW] 28)) w.heap.size 28 [.int .u64 0, .slice none 0 0, .slice none 0 0, .slice none 0 0] := (RowIs.alloc w #[.int .u64 0, .slice none 0 0, .slice none 0 0, .slice none 0 0] 28).keep kB id
  have kk := kA.trans kB
  have x0 := row.cell 0
  (try simp only [List.getElem?_cons_zero] at x0)
  have hsB : Hid (w.heap.size + 2 = ((((w.alloc (.cells #[.int .u64 0, .slice none 0 0, .slice none 0 0, .slice none 0 0] 28))).alloc (.cells #[.int .u64 h.fTxn, .slice aK h.fKeys.length cK, .slice aS h.fSpans.length cS, .slice aW h.fWrites.length cW] 28))).heap.size) := by show _ = _; simp
  have HOO := Lib.hid HO
  clear rh rh2 m row hv hhas lt HO
  have y0 : True := trivial
  go_enter Try.func24, Try.ntmps24
  go_wp2_with fail
  go_fit HOO.out
  rintro e w1 ⟨cn, rfl, rn, k1⟩
  have rn2 := rn
  obtain ⟨bK, dK, bS, dS, bW, dW, rfl, -⟩ := rGHeld_open rn
  replace rowZ := rowZ.keep k1 id
  have kk1 := kk.trans k1
  have z0 := rowZ.cell 0
  (try simp only [List.getElem?_cons_zero] at z0)
  have z1 := rowZ.cell 1
  (try simp only [List.getElem?_cons_succ] at z1); (try simp only [List.getElem?_cons_zero] at z1)
  have z2 := rowZ.cell 2
  (try simp only [List.getElem?_cons_succ] at z2); (try simp only [List.getElem?_cons_zero] at z2)
  have z3 := rowZ.cell 3
  (try simp only [List.getElem?_cons_succ] at z3); (try simp only [List.getElem?_cons_zero] at z3)
  have zf0 := rowZ.frozen 0
  have zf1 := rowZ.frozen 1
  have zf2 := rowZ.frozen 2
  have zf3 := rowZ.frozen 3
  have kS : Keep (· = w.heap.size) w1 ((((w1.setCell ⟨w.heap.size, 0, none⟩ (.int .u64 h.fTxn)).setCell ⟨w.heap.size, 1, none⟩ (.slice bK h.fKeys.length dK)).setCell ⟨w.heap.size, 2, none⟩ (.slice bS h.fSpans.length dS)).setCell ⟨w.heap.size, 3, none⟩ (.slice bW h.fWrites.length dW)) := ((((Keep.refl (· = w.heap.size) w1).setCell (p := ⟨w.heap.size, 0, none⟩) (fun _ => rfl) _).setCell (p := ⟨w.heap.size, 1, none⟩) (fun _ => rfl) _).setCell (p := ⟨w.heap.size, 2, none⟩) (fun _ => rfl) _).setCell (p := ⟨w.heap.size, 3, none⟩) (fun _ => rfl) _
  have rowR : RowIs ((((w1.setCell ⟨w.heap.size, 0, none⟩ (.int .u64 h.fTxn)).setCell ⟨w.heap.size, 1, none⟩ (.slice bK h.fKeys.length dK)).setCell ⟨w.heap.size, 2, none⟩ (.slice bS h.fSpans.length dS)).setCell ⟨w.heap.size, 3, none⟩ (.slice bW h.fWrites.length dW)) w.heap.size 28 [.int .u64 h.fTxn, .slice bK h.fKeys.length dK, .slice bS h.fSpans.length dS, .slice bW h.fWrites.length dW] := (((rowZ.set 0 (.int .u64 h.fTxn)).set 1 (.slice bK h.fKeys.length dK)).set 2 (.slice bS h.fSpans.length dS)).set 3 (.slice bW h.fWrites.length dW)
  have HZR := Lib.hid rowR
  clear rn rowR rowZ HOO
  go_wp2_with fail
  refine bodyPost_ret (results_cell_row2 (by rfl) _ _ _ _ _ _ _ (by rfl) HZR.out Try.underlying28 (by rfl) hinfo) rfl ?_
  have hsS := kS.size
  have hs1 := hsB.out
  exact ⟨[.int .u64 h.fTxn, .slice bK h.fKeys.length dK, .slice bS h.fSpans.length dS, .slice bW h.fWrites.length dW], rfl, rGHeld_lawful.mono (rGHeld_lawful.keep rn2 kS (fun b hb e => by have := hb.1; omega)) (fun b hb => ⟨by have := hb.1; omega, by have := hb.2; omega⟩), kk1.then kS (fun i hi e => by omega)⟩
end Go.Proofs.Ytfagejfcibgigaa
