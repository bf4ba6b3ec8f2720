/- DEDUP: the machine: New, Do. Printed by mac.py. -/
import Derived.Test.YthchpdflnpfjkaaQDed1
import Derived.Test.YthchpdflnpfjkaaQTakA
namespace Go.Proofs.Ythchpdflnpfjkaa
open Go.RowKit

theorem S_told : StructT Try.prog 73 2 := ⟨⟨_, Try.underlying73⟩, by kernel_rfl⟩
theorem ldz_told (a : Act) (dst : Option Tmp) (x : Operand) (ty : TypeId) (pos : String) (after : Array Edge) (guard : Option (Nat × Bool)) : execOp a.eval { dst := dst, op := .load 73 x, type := ty, pos := pos, after := after, guard := guard } = wholeSem 73 (a.eval x) := rfl
theorem stz_told (a : Act) (dst : Option Tmp) (x y : Operand) (ty : TypeId) (pos : String) (after : Array Edge) (guard : Option (Nat × Bool)) : execOp a.eval { dst := dst, op := .store 73 x y, type := ty, pos := pos, after := after, guard := guard } = storeSem 73 (a.eval x) (a.eval y) := rfl
theorem stz_Call (a : Act) (dst : Option Tmp) (x y : Operand) (ty : TypeId) (pos : String) (after : Array Edge) (guard : Option (Nat × Bool)) : execOp a.eval { dst := dst, op := .store 35 x y, type := ty, pos := pos, after := after, guard := guard } = storeSem 35 (a.eval x) (a.eval y) := rfl
def zT : Value := .agg #[.int .u64 0, .slice none 0 0]
theorem zT_run (w : World) : (zeroValue 73).run Try.prog w = .ok zT w := by kernel_rfl
def heldV (v : Value) : Option (DataW Value × List MemPlace) := some (.held v, [])
theorem uK : Go.Maps.Keyed Try.prog 33 := Go.Maps.int_keyed Try.underlying33
theorem wf_of_u64 {k : Int} (h : isU64 k) : (Lit.int .u64 k).wf = true := Go.WalkArith.wf_u64 h
def keyU (k : Int) : Lit := .int .u64 k
theorem keyU_of {k : Int} (h : isU64 k) : keyOf Try.prog 33 (.int .u64 k) = some (keyU k) := Go.Maps.keyOf_int_mk Try.underlying33 (wf_of_u64 h)
theorem keyU_is {k : Int} (h : isU64 k) : WideAt.IsKeyLit (keyU k) := uK.key (keyU_of h)
theorem keyU_ne {k k' : Int} (h : k' ≠ k) : keyU k' ≠ keyU k := fun e => h (by simpa [keyU] using e)
/-- What a client was told last. -/
abbrev Last := Int → Option (Int × List UInt8)
def seqO (x : Option (Int × List UInt8)) : Int := match x with | none => 0 | some y => y.1
def ansO (x : Option (Int × List UInt8)) : List UInt8 := match x with | none => [] | some y => y.2
def RdT (w : World) (p : Nat → Prop) (v : Value) (x : Option (Int × List UInt8)) : Prop := ∃ (a : Option Addr) (cap : Nat), v = .agg #[.int .u64 (seqO x), .slice a (ansO x).length cap] ∧ Lies w p a ((ansO x).map bv) ∧ (ansO x).length ≤ 140737488355328 ∧ isU64 (seqO x)
theorem RdT.keep {w w' : World} {p : Nat → Prop} {v : Value} {x : Option (Int × List UInt8)} (h : RdT w p v x) {S : Nat → Prop} (k : Keep S w w') (hs : ∀ b, p b → ¬ S b) : RdT w' p v x := by
  obtain ⟨a, cap, e, l, r⟩ := h
  exact ⟨a, cap, e, l.keep k hs, r⟩
theorem RdT.mono {w : World} {p q : Nat → Prop} {v : Value} {x : Option (Int × List UInt8)} (h : RdT w p v x) (hq : ∀ b, p b → q b) : RdT w q v x := by
  obtain ⟨a, cap, e, l, r⟩ := h
  exact ⟨a, cap, e, l.mono hq, r⟩
/-- The blocks of a machine: its own, the tape's, the map's, the tape's list. -/
structure Parts (O : Nat → Prop) (bD bT bM : Nat) (g : Option Nat) : Prop where
  oD : O bD
  oT : O bT
  oM : O bM
  og : ∀ b, g = some b → O b
  dt : bD ≠ bT
  dm : bD ≠ bM
  tm : bT ≠ bM
  gd : g ≠ some bD
  gm : g ≠ some bM
  gt : g ≠ some bT
def Ans (O : Nat → Prop) (bD bT bM : Nat) (g : Option Nat) : Nat → Prop := fun b => O b ∧ b ≠ bD ∧ b ≠ bT ∧ b ≠ bM ∧ g ≠ some b
def MapIs (w : World) (p : Nat → Prop) (bM n : Nat) (D : DataW Value) (last : Last) : Prop :=
  w.ownsMap Try.prog 33 heldV bM n D ∧ ∀ k, isU64 k → ∃ v, D.atKey (keyU k) (.held zT) = .held v ∧ RdT w p v (last k) ∧ Maps.has D (keyU k) = (last k).isSome
structure Mach (w : World) (O : Nat → Prop) (bD bT n : Nat) (tape : List (List UInt8)) (last : Last) : Prop where
  lt : ∀ b, O b → b < w.heap.size
  body : ∃ (bM : Nat) (g : Option Nat) (D : DataW Value), RowIs w bD 64 [.iface 24 (.pointer (some ⟨bT, 0, none⟩)), .map (some bM)] ∧ IsTape w bT g tape ∧ Parts O bD bT bM g ∧ MapIs w (Ans O bD bT bM g) bM n D last
theorem ownsMap_keep {w w' : World} {bM n : Nat} {D : DataW Value} (h : w.ownsMap Try.prog 33 heldV bM n D) {S : Nat → Prop} (k : Keep S w w') (hs : ¬ S bM) : w'.ownsMap Try.prog 33 heldV bM n D := by
  have hlt := h.lt
  obtain ⟨es, clock, hb, r⟩ := h
  exact ⟨es, clock, (k.block bM hlt hs).trans hb, r⟩
theorem MapIs.keep {w w' : World} {p : Nat → Prop} {bM n : Nat} {D : DataW Value} {last : Last} (h : MapIs w p bM n D last) {S : Nat → Prop} (k : Keep S w w') (hs : ¬ S bM) (hp : ∀ b, p b → ¬ S b) : MapIs w' p bM n D last :=
  ⟨ownsMap_keep h.1 k hs, fun i hi => by
    obtain ⟨v, h1, h2, h3⟩ := h.2 i hi
    exact ⟨v, h1, h2.keep k hp, h3⟩⟩
theorem MapIs.mono {w : World} {p q : Nat → Prop} {bM n : Nat} {D : DataW Value} {last : Last} (h : MapIs w p bM n D last) (hq : ∀ b, p b → q b) : MapIs w q bM n D last :=
  ⟨h.1, fun i hi => by
    obtain ⟨v, h1, h2, h3⟩ := h.2 i hi
    exact ⟨v, h1, h2.mono hq, h3⟩⟩
theorem Mach.keep {w w' : World} {O : Nat → Prop} {bD bT n : Nat} {tape : List (List UInt8)} {last : Last} (h : Mach w O bD bT n tape last) {S : Nat → Prop} (k : Keep S w w') (hs : ∀ b, O b → ¬ S b) : Mach w' O bD bT n tape last := by
  refine ⟨fun b hb => Nat.lt_of_lt_of_le (h.lt b hb) k.size, ?_⟩
  obtain ⟨bM, g, D, r, t, pa, m⟩ := h.body
  exact ⟨bM, g, D, r.keep k (hs _ pa.oD), t.keep k (hs _ pa.oT) (fun b hb => hs b (pa.og b hb)), pa, m.keep k (hs _ pa.oM) (fun b hb => hs b hb.1)⟩
/-- A look-up by its run. -/
theorem look_run {w : World} {bM n : Nat} {D : DataW Value} (own : w.ownsMap Try.prog 33 heldV bM n D) {k : Int} (hk : isU64 k) {v : Value} (hv : D.atKey (keyU k) (.held zT) = .held v) :
    (Instr.lookup 62 (.map (some bM)) (.int .u64 k) false).run Try.prog w = .ok v w := by
  obtain ⟨v', ps, hrun, h⟩ := own.lookup uK Try.underlying62 (zT_run w) (show heldV zT = some (.held zT, []) from rfl) (keyU_of hk)
  rw [hv] at h
  simp only [heldV, Option.some.injEq, Prod.mk.injEq, DataW.held.injEq] at h
  rw [← h.1]; exact hrun
theorem look_run_ok {w : World} {bM n : Nat} {D : DataW Value} (own : w.ownsMap Try.prog 33 heldV bM n D) {k : Int} (hk : isU64 k) {v : Value} (hv : D.atKey (keyU k) (.held zT) = .held v) :
    (Instr.lookup 62 (.map (some bM)) (.int .u64 k) true).run Try.prog w = .ok (.tuple #[v, .bool (Maps.has D (keyU k))]) w := by
  obtain ⟨v', ps, hrun, h⟩ := own.look_ok uK Try.underlying62 (zT_run w) (show heldV zT = some (.held zT, []) from rfl) (keyU_of hk)
  rw [hv] at h
  simp only [heldV, Option.some.injEq, Prod.mk.injEq, DataW.held.injEq] at h
  rw [← h.1]; exact hrun
def upd (last : Last) (k : Int) (x : Int × List UInt8) : Last := fun i => if i = k then some x else last i
/-- A store by its run. -/
theorem put_run {w : World} {p : Nat → Prop} {bM n : Nat} {D : DataW Value} {last : Last} (m : MapIs w p bM n D last) (hn : n < 1000000) {k : Int} (hk : isU64 k) {v : Value} {x : Int × List UInt8} (hp : ¬ p bM)
    (hv : RdT w p v (some x)) : ∃ w', (Instr.mapUpdate 62 (.map (some bM)) (.int .u64 k) v).run Try.prog w = .ok () w' ∧ MapIs w' p bM (n + 1) (D.put (keyU k) (.held v)) (upd last k x) ∧ Keep (fun b => b = bM) w w' := by
  obtain ⟨w', hrun, own', hg⟩ := m.1.update uK Try.underlying62 (by unfold maxLen; omega) (keyU_of hk) (show heldV v = some (.held v, []) from rfl)
  have kk : Keep (fun b => b = bM) w w' := (Keep.refl _ w).grown hg (fun i hi _ => by cases hi; rfl)
  refine ⟨w', hrun, ⟨own', fun i hi => ?_⟩, kk⟩
  by_cases hik : i = k
  · subst hik
    exact ⟨v, Maps.atKey_put_same m.1.isMap (keyU_is hk) _ _, by simpa [upd] using hv.keep kk (fun b hb e => hp (e ▸ hb)), by simpa [upd] using Maps.has_put_same m.1.isMap (keyU_is hk) _⟩
  · obtain ⟨u, h1, h2, h3⟩ := m.2 i hi
    refine ⟨u, (Maps.atKey_put_other (keyU_ne hik) _ _).trans h1, ?_, ?_⟩
    · simpa [upd, hik] using h2.keep kk (fun b hb e => hp (e ▸ hb))
    · rw [Maps.has_put_other (keyU_ne hik)]; simpa [upd, hik] using h3

theorem MapIs.made (w : World) (p : Nat → Prop) : MapIs (w.alloc (.map #[] 0)) p w.heap.size 0 (.map []) (fun _ => none) :=
  ⟨World.ownsMap_made _ _ _ _, fun k _ => ⟨zT, rfl, ⟨none, 0, rfl, Lies.nil _ _ _, Nat.zero_le _, (⟨by decide, by decide⟩ : isU64 0)⟩, rfl⟩⟩
theorem RowIs.alloc_at (w : World) (n : Nat) (h : w.heap.size = n) (cs : Array Value) (e : TypeId) : RowIs (w.alloc (.cells cs e)) n e cs.toList := by
  subst h; exact RowIs.alloc w cs e
set_option maxHeartbeats 1000000 in
theorem new_c (bT : Nat) (w : World) (ht : IsTape w bT none []) :
    Calls Try.prog 8 #[.iface 24 (.pointer (some ⟨bT, 0, none⟩))] w fun e w' => ∃ bD O, e = .returned (.pointer (some ⟨bD, 0, none⟩)) ∧ Mach w' O bD bT 0 [] (fun _ => none) ∧ (∀ b, O b → b = bT ∨ w.heap.size ≤ b) ∧ Keep Nix w w' := by
  have hmm := @run_makeMap Try.prog
  have hb : bT < w.heap.size := by obtain ⟨a, cap, r, -⟩ := ht.row; exact r.lt
  go_enter Try.func8, Try.ntmps8
  go_wp2_with fail
  go_ret
  have kk : Keep Nix w ((w.alloc (.map #[] 0)).alloc (.cells #[.iface 24 (.pointer (some ⟨bT, 0, none⟩)), .map (some w.heap.size)] 64)) := ((Keep.refl Nix w).alloc _).alloc _
  refine ⟨_, fun b => b = bT ∨ (w.heap.size ≤ b ∧ b ≤ w.heap.size + 1), rfl, ⟨fun b hb => ?_, _, none, _, RowIs.alloc_at _ _ (by simp) _ _, ht.keep kk id (fun _ h => nomatch h), ?_, (MapIs.made w _).keep ((Keep.refl Nix _).alloc _) id (fun _ _ => id)⟩, fun b hb => hb.imp id (·.1), kk⟩
  · simp; omega
  · exact ⟨.inr ⟨Nat.le_succ _, Nat.le_refl _⟩, .inl rfl, .inr ⟨Nat.le_refl _, Nat.le_succ _⟩, (fun _ h => nomatch h), by omega, by omega, by omega, (fun h => nomatch h), (fun h => nomatch h), (fun h => nomatch h)⟩
/-- What is done at a call that is taken as x. -/
def doS (tp : List (List UInt8)) (last : Last) (x : GCall) : List (List UInt8) × Last × List UInt8 :=
  if seqO (last x.fClient) < x.fSeq then (tp ++ [x.fData], upd last x.fClient (x.fSeq, answer (tp.length + 1) x.fData), answer (tp.length + 1) x.fData)
  else if x.fSeq < seqO (last x.fClient) then (tp, last, []) else (tp, last, ansO (last x.fClient))
def DoPost (w : World) (O : Nat → Prop) (bD bT n : Nat) (tp : List (List UInt8)) (y : List (List UInt8) × Last × List UInt8) (e : Ending) (w' : World) : Prop :=
  ∃ (a : Option Addr) (cap m : Nat) (O' : Nat → Prop), e = .returned (.slice a y.2.2.length cap) ∧ w.heap.size ≤ m ∧ m ≤ w'.heap.size ∧ w'.ownsRow m 5 1 (.slice a y.2.2.length cap) y.2.2.length (y.2.2.map bv) ∧
    Mach w' O' bD bT (n + 1) y.1 y.2.1 ∧ Keep O w w' ∧ (∀ b, O' b → (O b ∨ w.heap.size ≤ b) ∧ b < m) ∧ (y.1 = tp → Keep Nix w w')
theorem Mach.more {w : World} {O : Nat → Prop} {bD bT n n' : Nat} {tape : List (List UInt8)} {last : Last} (h : Mach w O bD bT n tape last) (hn : n ≤ n') : Mach w O bD bT n' tape last := by
  refine ⟨h.lt, ?_⟩
  obtain ⟨bM, g, D, r, t, pa, m⟩ := h.body
  exact ⟨bM, g, D, r, t, pa, m.1.mono hn, m.2⟩
section
attribute [local go_sem ↓] ldz_told stz_told stz_Call
set_option maxRecDepth 100000 in
set_option maxHeartbeats 4000000 in
theorem do_ok {p : Nat → Prop} (O : Nat → Prop) (bD bT n : Nat) (tp : List (List UInt8)) (last : Last) (a : Option Addr) (nn ca : Nat) (l : List UInt8) (x : GCall) (w : World) (hn : l.length = nn) (ha : Lies w p a (l.map bv)) (hr0 : nn ≤ 140737488355328)
    (hm : Mach w O bD bT n tp last) (hL : tp.length ≤ 100000) (hN : n < 1000000) (hx : takeP pGCall zGCall l = (x, 0)) :
    Calls Try.prog 11 #[.pointer (some ⟨bD, 0, none⟩), .slice a nn ca] w (DoPost w O bD bT n tp (doS tp last x)) := by
  have ht := wTakeCall_c a nn ca l w hn ha hr0
  rw [hx] at ht
  replace ht := Lib.hid ht
  have HM := Lib.hid hm
  have HL := Lib.hid hL
  have HN := Lib.hid hN
  clear hm hL hN hx ha hn
  have hq : ∀ w', (binOp .eql 61 (.iface 24 (.pointer (some ⟨bT, 0, none⟩))) .nilIface).run Try.prog w' = .ok (.bool false) w' := fun _ => by rfl
  go_enter Try.func11, Try.ntmps11
  go_wp2_with fail
  go_fit ht.out
  rintro e w1 ⟨cs, rfl, hR, -, k1⟩
  obtain ⟨aX, cX, rfl, hc, hs, hd, -⟩ := rGCall_open (wGCall_to hR)
  obtain ⟨hd, hdc, hdf⟩ := hd
  clear ht hR
  have rowZ : RowIs (w1.alloc (.cells #[.int .u64 0, .int .u64 0, .slice none 0 0] 35)) w1.heap.size 35 [.int .u64 0, .int .u64 0, .slice none 0 0] := RowIs.alloc w1 _ _
  have hst := store_run (P := Try.prog) (cs := [.int .u64 x.fClient, .int .u64 x.fSeq, .slice aX x.fData.length cX]) S_Call rowZ rfl rfl rfl
  have rowC := rowZ.setRow [.int .u64 x.fClient, .int .u64 x.fSeq, .slice aX x.fData.length cX]
  have k2 : Keep Nix w1 ((w1.alloc (.cells #[.int .u64 0, .int .u64 0, .slice none 0 0] 35)).setRow w1.heap.size [.int .u64 x.fClient, .int .u64 x.fSeq, .slice aX x.fData.length cX].toArray) := ((Keep.refl Nix w1).alloc (.cells #[.int .u64 0, .int .u64 0, .slice none 0 0] 35)).setRow (fun h => absurd h (Nat.lt_irrefl _)) _
  have kk := k1.trans k2
  have hd2 := hd.keep k2 (fun _ _ => id)
  have hm2 := HM.out.keep kk (fun _ _ => id)
  have hO2 : Hid (∀ b, O b → b < w.heap.size) := HM.out.lt
  have hd2 := hd2.mono (q := fun b => w.heap.size ≤ b ∧ b < w1.heap.size) (fun _ h => h)
  have hsC : w.heap.size ≤ w1.heap.size := k1.size
  obtain ⟨hlt, bM, g, D, rowD, tpe, pa, mp⟩ := hm2
  have PA := Lib.hid pa
  have HLT := Lib.hid hlt
  obtain ⟨v, hv, ⟨aT, cT, rfl, hla, hll, hls⟩, -⟩ := mp.2 x.fClient hc
  obtain ⟨LC, hLC⟩ : ∃ LC, Hid (last x.fClient = LC) := ⟨_, rfl⟩
  rw [hLC.out] at hv hla hll hls
  have HLK : ∀ w', w'.ownsMap Try.prog 33 heldV bM n D → (Instr.lookup 62 (.map (some bM)) (.int .u64 x.fClient) false).run Try.prog w' = .ok (.agg #[.int .u64 (seqO LC), .slice aT (ansO LC).length cT]) w' := fun w' h => look_run h hc hv
  have HLK := Lib.hid HLK
  have d0 := rowD.cell 0
  (try simp only [List.getElem?_cons_succ] at d0); (try simp only [List.getElem?_cons_zero] at d0)
  have d1 := rowD.cell 1
  (try simp only [List.getElem?_cons_succ] at d1); (try simp only [List.getElem?_cons_zero] at d1)
  clear hd k1 k2 rowZ pa hlt hv
  go_wp2_with fail
  clear hst
  have hs2 : w1.heap.size + 1 = ((w1.alloc (.cells #[.int .u64 0, .int .u64 0, .slice none 0 0] 35)).setRow w1.heap.size [.int .u64 x.fClient, .int .u64 x.fSeq, .slice aX x.fData.length cX].toArray).heap.size := by simp [World.setRow]
  generalize ((w1.alloc (.cells #[.int .u64 0, .int .u64 0, .slice none 0 0] 35)).setRow w1.heap.size [.int .u64 x.fClient, .int .u64 x.fSeq, .slice aX x.fData.length cX].toArray) = w2 at *
  generalize w1.heap.size = bC at *
  have rowC := rowC.same (w' := w2.drew)
  have rowD := rowD.same (w' := w2.drew)
  have tpe := tpe.keep (Keep.drew (Keep.refl Nix w2)) id (fun _ _ => id)
  have mp := mp.keep (Keep.drew (Keep.refl Nix w2)) id (fun _ _ => id)
  have hla := hla.same (w' := w2.drew)
  have hd2 := hd2.same (w' := w2.drew)
  have kk := kk.drew
  have hs2 : bC + 1 = w2.drew.heap.size := hs2
  clear d0 d1
  have d1 := rowD.cell 1
  (try simp only [List.getElem?_cons_succ] at d1); (try simp only [List.getElem?_cons_zero] at d1)
  have c0 := rowC.cell 0
  (try simp only [List.getElem?_cons_succ] at c0); (try simp only [List.getElem?_cons_zero] at c0)
  have hlk := HLK.out _ mp.1
  refine wp_region_held_drew (S := (fun w' => w'.cell? ⟨bD, 1, none⟩ = some (.map (some bM)) ∧ w'.cell? ⟨bC, 0, none⟩ = some (.int .u64 x.fClient) ∧ (Instr.lookup 62 (.map (some bM)) (.int .u64 x.fClient) false).run Try.prog w' = .ok (.agg #[.int .u64 (seqO LC), .slice aT (ansO LC).length cT]) w')) (by kernel_rfl) (⟨d1, c0, hlk⟩) (fun hHeld => ?_)
  refine wpAnyH_take (i := 0) (v := ?_) rfl (by kernel_rfl) (by kernel_rfl) (by kernel_rfl) (fun _ _ _ h => h) (Or.inl ⟨by kernel_rfl, ?_⟩) hHeld ?_
  rotate_left
  · intro w' hSw
    (try dsimp only at hSw)
    (try simp only [List.getElem_toArray]); (try simp only [List.getElem_cons_succ]); (try simp only [List.getElem_cons_zero])
    go_simp
    try with_reducible rfl
  (try simp only [Act.put]); (try simp only [List.setIfInBounds_toArray]); (try simp only [List.set_cons_succ]); (try simp only [List.set_cons_zero])
  refine wpAnyH_take (i := 1) (v := ?_) rfl (by kernel_rfl) (by kernel_rfl) (by kernel_rfl) (fun _ _ _ h => h) (Or.inl ⟨by kernel_rfl, ?_⟩) hHeld ?_
  rotate_left
  · intro w' hSw
    (try dsimp only at hSw)
    (try simp only [List.getElem_toArray]); (try simp only [List.getElem_cons_succ]); (try simp only [List.getElem_cons_zero])
    go_simp
    try with_reducible rfl
  (try simp only [Act.put]); (try simp only [List.setIfInBounds_toArray]); (try simp only [List.set_cons_succ]); (try simp only [List.set_cons_zero])
  refine wpAnyH_take (i := 2) (v := ?_) rfl (by kernel_rfl) (by kernel_rfl) (by kernel_rfl) (fun _ _ _ h => h) (Or.inl ⟨by kernel_rfl, ?_⟩) hHeld ?_
  rotate_left
  · intro w' hSw
    (try dsimp only at hSw)
    (try simp only [List.getElem_toArray]); (try simp only [List.getElem_cons_succ]); (try simp only [List.getElem_cons_zero])
    go_simp
    try with_reducible rfl
  (try simp only [Act.put]); (try simp only [List.setIfInBounds_toArray]); (try simp only [List.set_cons_succ]); (try simp only [List.set_cons_zero])
  refine wpAnyH_take (i := 3) (v := ?_) rfl (by kernel_rfl) (by kernel_rfl) (by kernel_rfl) (fun _ _ _ h => h) (Or.inl ⟨by kernel_rfl, ?_⟩) hHeld ?_
  rotate_left
  · intro w' hSw
    (try dsimp only at hSw)
    (try simp only [List.getElem_toArray]); (try simp only [List.getElem_cons_succ]); (try simp only [List.getElem_cons_zero])
    go_simp
    try with_reducible rfl
  (try simp only [Act.put]); (try simp only [List.setIfInBounds_toArray]); (try simp only [List.set_cons_succ]); (try simp only [List.set_cons_zero])
  refine wpAnyH_take (i := 4) (v := ?_) rfl (by kernel_rfl) (by kernel_rfl) (by kernel_rfl) (fun _ _ _ h => h) (Or.inl ⟨by kernel_rfl, ?_⟩) hHeld ?_
  rotate_left
  · intro w' hSw
    (try dsimp only at hSw)
    (try simp only [List.getElem_toArray]); (try simp only [List.getElem_cons_succ]); (try simp only [List.getElem_cons_zero])
    go_simp
    try with_reducible rfl
  (try simp only [Act.put]); (try simp only [List.setIfInBounds_toArray]); (try simp only [List.set_cons_succ]); (try simp only [List.set_cons_zero])
  refine wpAnyH_take (i := 5) (v := ?_) rfl (by kernel_rfl) (by kernel_rfl) (by kernel_rfl) (fun _ _ _ h => h) (Or.inl ⟨by kernel_rfl, ?_⟩) hHeld ?_
  rotate_left
  · intro w' hSw
    (try dsimp only at hSw)
    (try simp only [List.getElem_toArray]); (try simp only [List.getElem_cons_succ]); (try simp only [List.getElem_cons_zero])
    go_simp
    try with_reducible rfl
  (try simp only [Act.put]); (try simp only [List.setIfInBounds_toArray]); (try simp only [List.set_cons_succ]); (try simp only [List.set_cons_zero])
  refine wpAnyH_take (i := 6) (v := ?_) rfl (by kernel_rfl) (by kernel_rfl) (by kernel_rfl) (fun _ _ _ h => h) (Or.inl ⟨by kernel_rfl, ?_⟩) hHeld ?_
  rotate_left
  · intro w' hSw
    (try dsimp only at hSw)
    (try simp only [List.getElem_toArray]); (try simp only [List.getElem_cons_succ]); (try simp only [List.getElem_cons_zero])
    go_simp
    try with_reducible rfl
  (try simp only [Act.put]); (try simp only [List.setIfInBounds_toArray]); (try simp only [List.set_cons_succ]); (try simp only [List.set_cons_zero])
  generalize w2.drew = w3 at *
  refine wpAnyH_ready (rs := [7]) (by kernel_rfl) (by simp) ?_
  refine AllReadyH.cons rfl (fun K hK => ?_) AllReadyH.nil
  (try simp only [List.getElem_toArray]); (try simp only [List.getElem_cons_succ]); (try simp only [List.getElem_cons_zero])
  go_simp
  have kA : Keep Nix w3 (w3.alloc (.cells #[.int .u64 0, .slice none 0 0] 73)) := (Keep.refl Nix w3).alloc _
  have rowDA := rowD.keep kA id
  have rowCA := rowC.keep kA id
  have d1A := rowDA.cell 1
  (try simp only [List.getElem?_cons_succ] at d1A); (try simp only [List.getElem?_cons_zero] at d1A)
  have c0A := rowCA.cell 0
  (try simp only [List.getElem?_cons_succ] at c0A); (try simp only [List.getElem?_cons_zero] at c0A)
  refine hK.out _ _ (⟨d1A, c0A, HLK.out _ (ownsMap_keep mp.1 kA id)⟩) (fun hHeld => ?_)
  clear hK K
  (try simp only [Act.put]); (try simp only [List.setIfInBounds_toArray]); (try simp only [List.set_cons_succ]); (try simp only [List.set_cons_zero])
  have rowX := RowIs.alloc w3 #[.int .u64 0, .slice none 0 0] 73
  have hst := store_run (P := Try.prog) (cs := [.int .u64 (seqO LC), .slice aT (ansO LC).length cT]) S_told rowX rfl rfl rfl
  refine wpAnyH_ready (rs := [8]) (by kernel_rfl) (by simp) ?_
  refine AllReadyH.cons rfl (fun K hK => ?_) AllReadyH.nil
  have kB : Keep Nix w3 ((w3.alloc (.cells #[.int .u64 0, .slice none 0 0] 73)).setRow w3.heap.size [.int .u64 (seqO LC), .slice aT (ansO LC).length cT].toArray) := kA.setRow (fun h => absurd h (Nat.lt_irrefl _)) _
  have rowX := rowX.setRow [.int .u64 (seqO LC), .slice aT (ansO LC).length cT]
  have rowD := rowD.keep kB id
  have rowC := rowC.keep kB id
  have mp := mp.keep kB id (fun _ _ => id)
  have tpe := tpe.keep kB id (fun _ _ => id)
  have hla := hla.keep kB (fun _ _ => id)
  have hd2 := hd2.keep kB (fun _ _ => id)
  have kk := kk.trans kB
  have d1B := rowD.cell 1
  (try simp only [List.getElem?_cons_succ] at d1B); (try simp only [List.getElem?_cons_zero] at d1B)
  have c0B := rowC.cell 0
  (try simp only [List.getElem?_cons_succ] at c0B); (try simp only [List.getElem?_cons_zero] at c0B)
  (try simp only [List.getElem_toArray]); (try simp only [List.getElem_cons_succ]); (try simp only [List.getElem_cons_zero])
  go_simp
  refine hK.out _ _ (⟨d1B, c0B, HLK.out _ mp.1⟩) (fun hHeld => ?_)
  clear hK K
  (try simp only [Act.put]); (try simp only [List.setIfInBounds_toArray]); (try simp only [List.set_cons_succ]); (try simp only [List.set_cons_zero])
  refine wpAnyH_done (by kernel_rfl) ?_ _
  clear hst kA kB rowDA rowCA d1A c0A d1B c0B hHeld d1 c0 hlk
  have hs4 : w3.heap.size + 1 = ((w3.alloc (.cells #[.int .u64 0, .slice none 0 0] 73)).setRow w3.heap.size [.int .u64 (seqO LC), .slice aT (ansO LC).length cT].toArray).heap.size := by simp [World.setRow]
  generalize ((w3.alloc (.cells #[.int .u64 0, .slice none 0 0] 73)).setRow w3.heap.size [.int .u64 (seqO LC), .slice aT (ansO LC).length cT].toArray) = w4 at *
  generalize w3.heap.size = bX at *
  have hsz4 : w.heap.size ≤ w4.heap.size := kk.size
  have hfD : x.fData.length ≤ 140737488351232 := hdf
  by_cases hgt : seqO LC < x.fSeq
  · have HE : Hid (doS tp last x = (tp ++ [x.fData], upd last x.fClient (x.fSeq, answer (tp.length + 1) x.fData), answer (tp.length + 1) x.fData)) := by
      show _ = _; unfold doS; rw [hLC.out, if_pos hgt]
    have hT0 : bT < w.heap.size := hO2.out _ PA.out.oT
    have hD0 : bD < w.heap.size := hO2.out _ PA.out.oD
    have hM0 : bM < w.heap.size := hO2.out _ PA.out.oM
    have hg0 : ∀ b, g = some b → b < w.heap.size := fun b hb => hO2.out _ (PA.out.og b hb)
    have H0 := Lib.hid (And.intro hT0 (And.intro hD0 (And.intro hM0 hg0)))
    clear hT0 hD0 hM0 hg0
    have c1 := rowC.cell 1
    (try simp only [List.getElem?_cons_succ] at c1); (try simp only [List.getElem?_cons_zero] at c1)
    have c2 := rowC.cell 2
    (try simp only [List.getElem?_cons_succ] at c2); (try simp only [List.getElem?_cons_zero] at c2)
    have x0 := rowX.cell 0
    (try simp only [List.getElem?_cons_succ] at x0); (try simp only [List.getElem?_cons_zero] at x0)
    have d0 := rowD.cell 0
    (try simp only [List.getElem?_cons_succ] at d0); (try simp only [List.getElem?_cons_zero] at d0)
    have hbC := Lib.hid hsC
    have hbX : Hid (bX < w4.heap.size ∧ bC < bX) := by show _ ∧ _; omega
    have hmeth : ∀ w', (method 257 24 (.pointer (some ⟨bT, 0, none⟩)) "Do").run Try.prog w' = .ok (39, .pointer (some ⟨bT, 0, none⟩)) w' := fun _ => by kernel_rfl
    clear hsC hs4 hs2
    go_wp2_with fail
    clear x0
    have hd2 := hd2.same (w' := w4.drew)
    have rowC := rowC.same (w' := w4.drew)
    have rowD := rowD.same (w' := w4.drew)
    have rowX := rowX.same (w' := w4.drew)
    have tpe := tpe.keep (Keep.drew (Keep.refl Nix w4)) id (fun _ _ => id)
    have mp := mp.keep (Keep.drew (Keep.refl Nix w4)) id (fun _ _ => id)
    have kk := kk.drew
    refine wp_region_held_drew (S := (fun w' => w'.cell? ⟨bC, 1, none⟩ = some (.int .u64 x.fSeq) ∧ w'.cell? ⟨bD, 0, none⟩ = some (.iface 24 (.pointer (some ⟨bT, 0, none⟩))) ∧ w'.cell? ⟨bC, 2, none⟩ = some (.slice aX x.fData.length cX))) (by kernel_rfl) (⟨c1, d0, c2⟩) (fun hHeld => ?_)
    refine wpAnyH_take (i := 0) (v := ?_) rfl (by kernel_rfl) (by kernel_rfl) (by kernel_rfl) (fun _ _ _ h => h) (Or.inl ⟨by kernel_rfl, ?_⟩) hHeld ?_
    rotate_left
    · intro w' hSw
      (try dsimp only at hSw)
      (try simp only [List.getElem_toArray]); (try simp only [List.getElem_cons_succ]); (try simp only [List.getElem_cons_zero])
      go_simp
      try with_reducible rfl
    (try simp only [Act.put]); (try simp only [List.setIfInBounds_toArray]); (try simp only [List.set_cons_succ]); (try simp only [List.set_cons_zero])
    refine wpAnyH_take (i := 1) (v := ?_) rfl (by kernel_rfl) (by kernel_rfl) (by kernel_rfl) (fun _ _ _ h => h) (Or.inl ⟨by kernel_rfl, ?_⟩) hHeld ?_
    rotate_left
    · intro w' hSw
      (try dsimp only at hSw)
      (try simp only [List.getElem_toArray]); (try simp only [List.getElem_cons_succ]); (try simp only [List.getElem_cons_zero])
      go_simp
      try with_reducible rfl
    (try simp only [Act.put]); (try simp only [List.setIfInBounds_toArray]); (try simp only [List.set_cons_succ]); (try simp only [List.set_cons_zero])
    refine wpAnyH_take (i := 2) (v := ?_) rfl (by kernel_rfl) (by kernel_rfl) (by kernel_rfl) (fun _ _ _ h => h) (Or.inl ⟨by kernel_rfl, ?_⟩) hHeld ?_
    rotate_left
    · intro w' hSw
      (try dsimp only at hSw)
      (try simp only [List.getElem_toArray]); (try simp only [List.getElem_cons_succ]); (try simp only [List.getElem_cons_zero])
      go_simp
      try with_reducible rfl
    (try simp only [Act.put]); (try simp only [List.setIfInBounds_toArray]); (try simp only [List.set_cons_succ]); (try simp only [List.set_cons_zero])
    refine wpAnyH_take (i := 3) (v := ?_) rfl (by kernel_rfl) (by kernel_rfl) (by kernel_rfl) (fun _ _ _ h => h) (Or.inl ⟨by kernel_rfl, ?_⟩) hHeld ?_
    rotate_left
    · intro w' hSw
      (try dsimp only at hSw)
      (try simp only [List.getElem_toArray]); (try simp only [List.getElem_cons_succ]); (try simp only [List.getElem_cons_zero])
      go_simp
      try with_reducible rfl
    (try simp only [Act.put]); (try simp only [List.setIfInBounds_toArray]); (try simp only [List.set_cons_succ]); (try simp only [List.set_cons_zero])
    refine wpAnyH_take (i := 4) (v := ?_) rfl (by kernel_rfl) (by kernel_rfl) (by kernel_rfl) (fun _ _ _ h => h) (Or.inl ⟨by kernel_rfl, ?_⟩) hHeld ?_
    rotate_left
    · intro w' hSw
      (try dsimp only at hSw)
      (try simp only [List.getElem_toArray]); (try simp only [List.getElem_cons_succ]); (try simp only [List.getElem_cons_zero])
      go_simp
      try with_reducible rfl
    (try simp only [Act.put]); (try simp only [List.setIfInBounds_toArray]); (try simp only [List.set_cons_succ]); (try simp only [List.set_cons_zero])
    refine wpAnyH_take (i := 5) (v := ?_) rfl (by kernel_rfl) (by kernel_rfl) (by kernel_rfl) (fun _ _ _ h => h) (Or.inl ⟨by kernel_rfl, ?_⟩) hHeld ?_
    rotate_left
    · intro w' hSw
      (try dsimp only at hSw)
      (try simp only [List.getElem_toArray]); (try simp only [List.getElem_cons_succ]); (try simp only [List.getElem_cons_zero])
      go_simp
      try with_reducible rfl
    (try simp only [Act.put]); (try simp only [List.setIfInBounds_toArray]); (try simp only [List.set_cons_succ]); (try simp only [List.set_cons_zero])
    refine wpAnyH_take (i := 6) (v := ?_) rfl (by kernel_rfl) (by kernel_rfl) (by kernel_rfl) (fun _ _ _ h => h) (Or.inl ⟨by kernel_rfl, ?_⟩) hHeld ?_
    rotate_left
    · intro w' hSw
      (try dsimp only at hSw)
      (try simp only [List.getElem_toArray]); (try simp only [List.getElem_cons_succ]); (try simp only [List.getElem_cons_zero])
      go_simp
      try with_reducible rfl
    (try simp only [Act.put]); (try simp only [List.setIfInBounds_toArray]); (try simp only [List.set_cons_succ]); (try simp only [List.set_cons_zero])
    refine wpAnyH_take (i := 7) (v := ?_) rfl (by kernel_rfl) (by kernel_rfl) (by kernel_rfl) (fun _ _ _ h => h) (Or.inl ⟨by kernel_rfl, ?_⟩) hHeld ?_
    rotate_left
    · intro w' hSw
      (try dsimp only at hSw)
      (try simp only [List.getElem_toArray]); (try simp only [List.getElem_cons_succ]); (try simp only [List.getElem_cons_zero])
      go_simp
      try with_reducible rfl
    (try simp only [Act.put]); (try simp only [List.setIfInBounds_toArray]); (try simp only [List.set_cons_succ]); (try simp only [List.set_cons_zero])
    have hsz4 : w.heap.size ≤ w4.drew.heap.size := hsz4
    have hbX : Hid (bX < w4.drew.heap.size ∧ bC < bX) := hbX
    clear c1 c2 d0
    generalize w4.drew = w5 at *
    refine wpAnyH_ready (rs := [8]) (by kernel_rfl) (by simp) ?_
    refine AllReadyH.cons rfl (fun K hK => ?_) AllReadyH.nil
    go_simp
    go_fit (tDo_c bT g tp aX x.fData.length cX x.fData w5 rfl hd2 (fun b hb => ⟨by have := H0.out.1; omega, fun e => by have := H0.out.2.2.2 b e; omega⟩) tpe HL.out hfD)
    rintro e w6 ⟨a6, c6, g6, m6, rfl, hm6, own6, tpe6, hg6, k6, hfr6⟩
    have hk6C : ¬ (bC = bT ∨ g = some bC) := fun h => h.elim (fun e => by have := H0.out.1; have := hbC.out; omega) (fun e => by have := H0.out.2.2.2 _ e; have := hbC.out; omega)
    have hk6X : ¬ (bX = bT ∨ g = some bX) := fun h => h.elim (fun e => by have := H0.out.1; have := hbC.out; have := hbX.out; omega) (fun e => by have := H0.out.2.2.2 _ e; have := hbC.out; have := hbX.out; omega)
    have rowC := rowC.keep k6 hk6C
    have rowX := rowX.keep k6 hk6X
    have rowD := rowD.keep k6 (fun h => h.elim PA.out.dt PA.out.gd)
    have mp := mp.keep k6 (fun h => h.elim (fun e => PA.out.tm e.symm) PA.out.gm) (fun b hb h => h.elim hb.2.2.1 hb.2.2.2.2)
    have kk6 : Keep O w w6 := (kk.nix).then k6 (fun i _ h => h.elim (fun e => e ▸ PA.out.oT) (PA.out.og i))
    have lies6 := Lies.of_owned own6
    have c1 := rowC.cell 1
    (try simp only [List.getElem?_cons_succ] at c1); (try simp only [List.getElem?_cons_zero] at c1)
    have c2 := rowC.cell 2
    (try simp only [List.getElem?_cons_succ] at c2); (try simp only [List.getElem?_cons_zero] at c2)
    have d0 := rowD.cell 0
    (try simp only [List.getElem?_cons_succ] at d0); (try simp only [List.getElem?_cons_zero] at d0)
    have hal : (answer (tp.length + 1) x.fData).length = x.fData.length + 2 := answer_len _ _
    have HG6 := Lib.hid hg6
    have hg66 := Lib.hid tpe6.glt
    have HFR := Lib.hid hfr6
    have hsz6 := Nat.le_trans hsz4 k6.size
    have hbX6 : Hid (bX < w6.heap.size ∧ bC < bX) := ⟨Nat.lt_of_lt_of_le hbX.out.1 k6.size, hbX.out.2⟩
    have hsz56 := Lib.hid k6.size
    have HZ5 : Hid (w.heap.size ≤ w5.heap.size ∧ bX < w5.heap.size) := ⟨hsz4, hbX.out.1⟩
    clear kk tpe hd2 k6 hk6C hk6X hg6 hfr6 hbX own6 hsz4
    go_wp2_with fail
    refine hK.out _ _ (⟨c1, d0, c2⟩) (fun hHeld => ?_)
    clear hK K
    (try simp only [Act.put]); (try simp only [List.setIfInBounds_toArray]); (try simp only [List.set_cons_succ]); (try simp only [List.set_cons_zero])
    refine wpAnyH_ready (rs := [9]) (by kernel_rfl) (by simp) ?_
    refine AllReadyH.cons rfl (fun K hK => ?_) AllReadyH.nil
    go_simp
    go_fit (cl_c a6 (x.fData.length + 2) c6 (answer (tp.length + 1) x.fData) w6 hal lies6 (by omega))
    rintro e w7 ⟨a7, c7, rfl, own7, k7⟩
    clear c1 c2 d0 lies6
    have rowC := rowC.keep k7 id
    have rowX := rowX.keep k7 id
    have rowD := rowD.keep k7 id
    have mp := mp.keep k7 id (fun _ _ => id)
    have tpe7 := tpe6.keep k7 id (fun _ _ => id)
    have kk7 := kk6.trans k7.nix
    have c1 := rowC.cell 1
    (try simp only [List.getElem?_cons_succ] at c1); (try simp only [List.getElem?_cons_zero] at c1)
    have c2 := rowC.cell 2
    (try simp only [List.getElem?_cons_succ] at c2); (try simp only [List.getElem?_cons_zero] at c2)
    have d0 := rowD.cell 0
    (try simp only [List.getElem?_cons_succ] at d0); (try simp only [List.getElem?_cons_zero] at d0)
    have hst := store_run (P := Try.prog) (cs := [.int .u64 x.fSeq, .slice a7 (x.fData.length + 2) c7]) S_told rowX rfl rfl rfl
    have hsz67 := Lib.hid k7.size
    clear k7 kk6
    go_wp2_with fail
    refine hK.out _ _ (⟨c1, d0, c2⟩) (fun hHeld => ?_)
    clear hK K
    (try simp only [Act.put]); (try simp only [List.setIfInBounds_toArray]); (try simp only [List.set_cons_succ]); (try simp only [List.set_cons_zero])
    refine wpAnyH_take (i := 10) (v := ?_) rfl (by kernel_rfl) (by kernel_rfl) (by kernel_rfl) (fun _ _ _ h => h) (Or.inl ⟨by kernel_rfl, ?_⟩) hHeld ?_
    rotate_left
    · intro w' hSw
      (try dsimp only at hSw)
      (try simp only [List.getElem_toArray]); (try simp only [List.getElem_cons_succ]); (try simp only [List.getElem_cons_zero])
      go_simp
      try with_reducible rfl
    (try simp only [Act.put]); (try simp only [List.setIfInBounds_toArray]); (try simp only [List.set_cons_succ]); (try simp only [List.set_cons_zero])
    refine wpAnyH_ready (rs := [11]) (by kernel_rfl) (by simp) ?_
    refine AllReadyH.cons rfl (fun K hK => ?_) AllReadyH.nil
    have k8 : Keep (fun b => b = bX) w7 (w7.setRow bX [.int .u64 x.fSeq, .slice a7 (x.fData.length + 2) c7].toArray) := (Keep.refl (fun b => b = bX) w7).setRow (fun _ => rfl) _
    have rowX := rowX.setRow [.int .u64 x.fSeq, .slice a7 (x.fData.length + 2) c7]
    have rowC := rowC.keep k8 (fun e => by have := hbX6.out; omega)
    have rowD := rowD.keep k8 (fun e => by have := hbX6.out; have := H0.out; have := hbC.out; omega)
    have c1 := rowC.cell 1
    (try simp only [List.getElem?_cons_succ] at c1); (try simp only [List.getElem?_cons_zero] at c1)
    have c2 := rowC.cell 2
    (try simp only [List.getElem?_cons_succ] at c2); (try simp only [List.getElem?_cons_zero] at c2)
    have d0 := rowD.cell 0
    (try simp only [List.getElem?_cons_succ] at d0); (try simp only [List.getElem?_cons_zero] at d0)
    (try simp only [List.getElem_toArray]); (try simp only [List.getElem_cons_succ]); (try simp only [List.getElem_cons_zero])
    go_simp
    refine hK.out _ _ (⟨c1, d0, c2⟩) (fun hHeld => ?_)
    clear hK K
    (try simp only [Act.put]); (try simp only [List.setIfInBounds_toArray]); (try simp only [List.set_cons_succ]); (try simp only [List.set_cons_zero])
    refine wpAnyH_done (by kernel_rfl) ?_ _
    have lies7 : Lies w7 (fun b => w6.heap.size ≤ b ∧ b < w7.heap.size) a7 ((answer (tp.length + 1) x.fData).map bv) := (Lies.of_owned own7).mono (fun b hb => ⟨hb.1, (own7.lt b hb.2).2⟩)
    have lies8 := lies7.keep k8 (fun b hb e => by have := hbX6.out; omega)
    have hO4 : ∀ b, O b → b ≠ bX ∧ b < w5.heap.size := fun b hb => by have := hO2.out b hb; have := hbX6.out; have := hbC.out; have := HZ5.out; constructor <;> omega
    have hg6X : ∀ b, g6 = some b → b ≠ bX := fun b hb => (HFR.out b hb).elim (fun h => (hO4 b (PA.out.og b h)).1) (fun h e => by have := HZ5.out; omega)
    have mp8 := mp.keep k8 (hO4 _ PA.out.oM).1 (fun b hb => (hO4 b hb.1).1)
    have tpe8 := tpe7.keep k8 (hO4 _ PA.out.oT).1 hg6X
    have kk8 : Keep O w (w7.setRow bX [.int .u64 x.fSeq, .slice a7 (x.fData.length + 2) c7].toArray) := kk7.then k8 (fun i hi e => by have := hbX6.out; have := hbC.out; omega)
    have hsz8 : w6.heap.size ≤ (w7.setRow bX [.int .u64 x.fSeq, .slice a7 (x.fData.length + 2) c7].toArray).heap.size ∧ w7.heap.size = (w7.setRow bX [.int .u64 x.fSeq, .slice a7 (x.fData.length + 2) c7].toArray).heap.size := ⟨Nat.le_trans hsz67.out k8.size, by simp [World.setRow]⟩
    have hD7 : bD ≠ bX ∧ bT ≠ bX ∧ bM ≠ bX := ⟨(hO4 _ PA.out.oD).1, (hO4 _ PA.out.oT).1, (hO4 _ PA.out.oM).1⟩
    clear hHeld hst c1 c2 d0 k8 kk7 tpe7 tpe6 lies7 mp own7
    generalize (w7.setRow bX [.int .u64 x.fSeq, .slice a7 (x.fData.length + 2) c7].toArray) = w8 at *
    have PA' : Hid (Parts (fun b => O b ∨ (w.heap.size ≤ b ∧ b < w8.heap.size)) bD bT bM g6) := ⟨.inl PA.out.oD, .inl PA.out.oT, .inl PA.out.oM, fun b hb => (HFR.out b hb).elim (fun h => .inl (PA.out.og b h)) (fun h => .inr ⟨Nat.le_trans HZ5.out.1 h, tpe8.glt b hb⟩), PA.out.dt, PA.out.dm, PA.out.tm,
      fun e => (HFR.out _ e).elim PA.out.gd (fun h => by have := HZ5.out; have := H0.out; omega), fun e => (HFR.out _ e).elim PA.out.gm (fun h => by have := HZ5.out; have := H0.out; omega), tpe8.ne⟩
    have mp8' := mp8.mono (q := Ans (fun b => O b ∨ (w.heap.size ≤ b ∧ b < w8.heap.size)) bD bT bM g6) (fun b hb => ⟨.inl hb.1, hb.2.1, hb.2.2.1, hb.2.2.2.1, fun e => (HFR.out _ e).elim hb.2.2.2.2 (fun h => by have := hO4 b hb.1; omega)⟩)
    have lies8' := lies8.mono (q := Ans (fun b => O b ∨ (w.heap.size ≤ b ∧ b < w8.heap.size)) bD bT bM g6) (fun b hb => ⟨.inr ⟨by omega, by omega⟩, by have := H0.out; omega, by have := H0.out; omega, by have := H0.out; omega, fun e => by have := hg66.out b e; omega⟩)
    have hv8 : RdT w8 (Ans (fun b => O b ∨ (w.heap.size ≤ b ∧ b < w8.heap.size)) bD bT bM g6) (.agg #[.int .u64 x.fSeq, .slice a7 (x.fData.length + 2) c7]) (some (x.fSeq, answer (tp.length + 1) x.fData)) :=
      ⟨a7, c7, by show _ = Value.agg #[.int .u64 x.fSeq, .slice a7 (answer (tp.length + 1) x.fData).length c7]; rw [hal], lies8', by show (answer _ _).length ≤ _; omega, hs⟩
    have hlt8 : Hid (∀ b, (O b ∨ (w.heap.size ≤ b ∧ b < w8.heap.size)) → (O b ∨ w.heap.size ≤ b) ∧ b < w8.heap.size) := fun b hb => hb.elim (fun h => ⟨.inl h, by have := hO4 b h; have := hsz56.out; omega⟩) (fun h => ⟨.inr h.1, h.2⟩)
    obtain ⟨O', hO'⟩ : ∃ O' : Nat → Prop, O' = fun b => O b ∨ (w.heap.size ≤ b ∧ b < w8.heap.size) := ⟨_, rfl⟩
    have hlt8 : Hid (∀ b, O' b → (O b ∨ w.heap.size ≤ b) ∧ b < w8.heap.size) := hO' ▸ hlt8
    rw [← hO'] at PA' mp8' hv8
    clear hO' lies8'
    go_wp2_with fail
    have rowC := rowC.same (w' := w8.drew)
    have rowD := rowD.same (w' := w8.drew)
    have rowX := rowX.same (w' := w8.drew)
    have tpe9 := tpe8.keep (Keep.drew (Keep.refl Nix w8)) id (fun _ _ => id)
    have mp9 := mp8'.keep (Keep.drew (Keep.refl Nix w8)) id (fun _ _ => id)
    have hv9 := hv8.keep (Keep.drew (Keep.refl Nix w8)) (fun _ _ => id)
    have kk9 := kk8.drew
    have lies9 := lies8.same (w' := w8.drew)
    have hlt8 : Hid (∀ b, O' b → (O b ∨ w.heap.size ≤ b) ∧ b < w8.drew.heap.size) := hlt8
    have hsz9 : w7.heap.size = w8.drew.heap.size := hsz8.2
    clear mp8 mp8' hv8 kk8 lies8 tpe8 hsz8
    obtain ⟨wU, hU, mpU, kU⟩ := put_run mp9 HN.out hc (fun h => h.2.2.2.1 rfl) hv9
    have d1 := rowD.cell 1
    (try simp only [List.getElem?_cons_succ] at d1); (try simp only [List.getElem?_cons_zero] at d1)
    have c0 := rowC.cell 0
    (try simp only [List.getElem?_cons_succ] at c0); (try simp only [List.getElem?_cons_zero] at c0)
    have hX := Whole.row (P := Try.prog) (T := 73) S_told rfl rowX
    have hgU : bM < w8.drew.heap.size := mp9.1.lt
    have HB : Hid (bM ≠ bC ∧ bM ≠ bX ∧ bD ≠ bM) := ⟨by have := H0.out; have := hbC.out; omega, hD7.2.2, PA.out.dm⟩
    clear mp9 hv9
    unfold Whole at hX
    refine wp_region_held_drew (S := (fun w' => w'.cell? ⟨bD, 1, none⟩ = some (.map (some bM)) ∧ w'.cell? ⟨bC, 0, none⟩ = some (.int .u64 x.fClient) ∧ (wholeSem 73 (.pointer (some ⟨bX, 0, none⟩))).run Try.prog w' = .ok (.value (.agg #[.int .u64 x.fSeq, .slice a7 (x.fData.length + 2) c7])) w')) (by kernel_rfl) (⟨d1, c0, hX⟩) (fun hHeld => ?_)
    refine wpAnyH_take (i := 0) (v := ?_) rfl (by kernel_rfl) (by kernel_rfl) (by kernel_rfl) (fun _ _ _ h => h) (Or.inl ⟨by kernel_rfl, ?_⟩) hHeld ?_
    rotate_left
    · intro w' hSw
      (try dsimp only at hSw)
      (try simp only [List.getElem_toArray]); (try simp only [List.getElem_cons_succ]); (try simp only [List.getElem_cons_zero])
      go_simp
      try with_reducible rfl
    (try simp only [Act.put]); (try simp only [List.setIfInBounds_toArray]); (try simp only [List.set_cons_succ]); (try simp only [List.set_cons_zero])
    refine wpAnyH_take (i := 1) (v := ?_) rfl (by kernel_rfl) (by kernel_rfl) (by kernel_rfl) (fun _ _ _ h => h) (Or.inl ⟨by kernel_rfl, ?_⟩) hHeld ?_
    rotate_left
    · intro w' hSw
      (try dsimp only at hSw)
      (try simp only [List.getElem_toArray]); (try simp only [List.getElem_cons_succ]); (try simp only [List.getElem_cons_zero])
      go_simp
      try with_reducible rfl
    (try simp only [Act.put]); (try simp only [List.setIfInBounds_toArray]); (try simp only [List.set_cons_succ]); (try simp only [List.set_cons_zero])
    refine wpAnyH_take (i := 2) (v := ?_) rfl (by kernel_rfl) (by kernel_rfl) (by kernel_rfl) (fun _ _ _ h => h) (Or.inl ⟨by kernel_rfl, ?_⟩) hHeld ?_
    rotate_left
    · intro w' hSw
      (try dsimp only at hSw)
      (try simp only [List.getElem_toArray]); (try simp only [List.getElem_cons_succ]); (try simp only [List.getElem_cons_zero])
      go_simp
      try with_reducible rfl
    (try simp only [Act.put]); (try simp only [List.setIfInBounds_toArray]); (try simp only [List.set_cons_succ]); (try simp only [List.set_cons_zero])
    refine wpAnyH_take (i := 3) (v := ?_) rfl (by kernel_rfl) (by kernel_rfl) (by kernel_rfl) (fun _ _ _ h => h) (Or.inl ⟨by kernel_rfl, ?_⟩) hHeld ?_
    rotate_left
    · intro w' hSw
      (try dsimp only at hSw)
      (try simp only [List.getElem_toArray]); (try simp only [List.getElem_cons_succ]); (try simp only [List.getElem_cons_zero])
      go_simp
      try with_reducible rfl
    (try simp only [Act.put]); (try simp only [List.setIfInBounds_toArray]); (try simp only [List.set_cons_succ]); (try simp only [List.set_cons_zero])
    refine wpAnyH_take (i := 4) (v := ?_) rfl (by kernel_rfl) (by kernel_rfl) (by kernel_rfl) (fun _ _ _ h => h) (Or.inl ⟨by kernel_rfl, ?_⟩) hHeld ?_
    rotate_left
    · intro w' hSw
      (try dsimp only at hSw)
      (try simp only [List.getElem_toArray]); (try simp only [List.getElem_cons_succ]); (try simp only [List.getElem_cons_zero])
      go_simp
      try with_reducible rfl
    (try simp only [Act.put]); (try simp only [List.setIfInBounds_toArray]); (try simp only [List.set_cons_succ]); (try simp only [List.set_cons_zero])
    refine wpAnyH_take (i := 5) (v := ?_) rfl (by kernel_rfl) (by kernel_rfl) (by kernel_rfl) (fun _ _ _ h => h) (Or.inl ⟨by kernel_rfl, ?_⟩) hHeld ?_
    rotate_left
    · intro w' hSw
      (try dsimp only at hSw)
      (try simp only [List.getElem_toArray]); (try simp only [List.getElem_cons_succ]); (try simp only [List.getElem_cons_zero])
      go_simp
      try with_reducible rfl
    (try simp only [Act.put]); (try simp only [List.setIfInBounds_toArray]); (try simp only [List.set_cons_succ]); (try simp only [List.set_cons_zero])
    refine wpAnyH_take (i := 6) (v := ?_) rfl (by kernel_rfl) (by kernel_rfl) (by kernel_rfl) (fun _ _ _ h => h) (Or.inl ⟨by kernel_rfl, ?_⟩) hHeld ?_
    rotate_left
    · intro w' hSw
      (try dsimp only at hSw)
      (try simp only [List.getElem_toArray]); (try simp only [List.getElem_cons_succ]); (try simp only [List.getElem_cons_zero])
      go_simp
      try with_reducible rfl
    (try simp only [Act.put]); (try simp only [List.setIfInBounds_toArray]); (try simp only [List.set_cons_succ]); (try simp only [List.set_cons_zero])
    generalize w8.drew = w9 at *
    refine wpAnyH_ready (rs := [7]) (by kernel_rfl) (by simp) ?_
    refine AllReadyH.cons rfl (fun K hK => ?_) AllReadyH.nil
    (try simp only [List.getElem_toArray]); (try simp only [List.getElem_cons_succ]); (try simp only [List.getElem_cons_zero])
    go_simp
    have rowC := rowC.keep kU (fun e => HB.out.1 e.symm)
    have rowD := rowD.keep kU HB.out.2.2
    have rowX := rowX.keep kU (fun e => HB.out.2.1 e.symm)
    have tpeU := tpe9.keep kU (fun e => PA.out.tm e) (fun b hb e => PA'.out.gm (e ▸ hb))
    have liesU := lies9.keep kU (fun b hb e => by have := H0.out; omega)
    have kkU := kk9.then kU (fun i _ e => e ▸ PA.out.oM)
    clear d1 c0 hX hU
    have d1 := rowD.cell 1
    (try simp only [List.getElem?_cons_succ] at d1); (try simp only [List.getElem?_cons_zero] at d1)
    have c0 := rowC.cell 0
    (try simp only [List.getElem?_cons_succ] at c0); (try simp only [List.getElem?_cons_zero] at c0)
    have hX := Whole.row (P := Try.prog) (T := 73) S_told rfl rowX
    unfold Whole at hX
    refine hK.out _ _ (⟨d1, c0, hX⟩) (fun hHeld => ?_)
    clear hK K
    (try simp only [Act.put]); (try simp only [List.setIfInBounds_toArray]); (try simp only [List.set_cons_succ]); (try simp only [List.set_cons_zero])
    refine wpAnyH_done (by kernel_rfl) ?_ _
    have hltU : ∀ b, O' b → (O b ∨ w.heap.size ≤ b) ∧ b < wU.heap.size := fun b hb => ⟨(hlt8.out b hb).1, Nat.lt_of_lt_of_le (hlt8.out b hb).2 kU.size⟩
    have HLU := Lib.hid hltU
    clear hX d1 c0 hHeld hlt8 hltU tpe9 lies9 kk9
    have c1 := rowC.cell 1
    (try simp only [List.getElem?_cons_succ] at c1); (try simp only [List.getElem?_cons_zero] at c1)
    have x0 := rowX.cell 0
    (try simp only [List.getElem?_cons_succ] at x0); (try simp only [List.getElem?_cons_zero] at x0)
    have x1 := rowX.cell 1
    (try simp only [List.getElem?_cons_succ] at x1); (try simp only [List.getElem?_cons_zero] at x1)
    have hirr : ¬ x.fSeq < x.fSeq := Int.lt_irrefl _
    go_wp2_with fail
    go_fit (cl_c a7 (x.fData.length + 2) c7 (answer (tp.length + 1) x.fData) wU hal liesU (by omega))
    rintro e w10 ⟨a9, c9, rfl, own10, k10⟩
    clear c1 x0 x1
    go_wp2_with fail
    go_ret
    rw [HE.out]
    refine ⟨a9, c9, wU.heap.size, O', by show _ = Ending.returned (.slice a9 (answer (tp.length + 1) x.fData).length c9); rw [hal]; rfl, kkU.size, k10.size, ?_, ⟨fun b hb => Nat.lt_of_lt_of_le (HLU.out b hb).2 k10.size, bM, g6, _, rowD.keep k10 id, tpeU.keep k10 id (fun _ _ => id), PA'.out, mpU.keep k10 id (fun _ _ => id)⟩, kkU.trans k10.nix, HLU.out, fun h => by simp at h⟩
    show w10.ownsRow _ _ _ (.slice a9 (answer (tp.length + 1) x.fData).length c9) (answer (tp.length + 1) x.fData).length _
    rw [hal]; exact own10
  · have hgt' : x.fSeq ≤ seqO LC := by omega
    clear hgt
    have c1 := rowC.cell 1
    (try simp only [List.getElem?_cons_succ] at c1); (try simp only [List.getElem?_cons_zero] at c1)
    have x0 := rowX.cell 0
    (try simp only [List.getElem?_cons_succ] at x0); (try simp only [List.getElem?_cons_zero] at x0)
    by_cases hlt' : x.fSeq < seqO LC
    · have HE : Hid (doS tp last x = (tp, last, [])) := by
        show _ = _; unfold doS; rw [hLC.out, if_neg (by omega), if_pos hlt']
      go_wp2_with fail
      go_ret
      rw [HE.out]
      exact ⟨none, 0, w4.heap.size, O, rfl, hsz4, Nat.le_refl _, World.ownsRow_nil _ _ _ _, Mach.more ⟨fun b hb => Nat.lt_of_lt_of_le (hO2.out b hb) hsz4, bM, g, D, rowD, tpe, PA.out, mp⟩ (Nat.le_succ _), kk.nix, fun b hb => ⟨.inl hb, Nat.lt_of_lt_of_le (hO2.out b hb) hsz4⟩, fun _ => kk⟩
    · have HE : Hid (doS tp last x = (tp, last, ansO LC)) := by
        show _ = _; unfold doS; rw [hLC.out, if_neg (by omega), if_neg hlt']
      have x1 := rowX.cell 1
      (try simp only [List.getElem?_cons_succ] at x1); (try simp only [List.getElem?_cons_zero] at x1)
      go_wp2_with fail
      go_fit (cl_c aT (ansO LC).length cT (ansO LC) w4 rfl hla hll)
      rintro e w5 ⟨a5, c5, rfl, own5, k5⟩
      go_wp2_with fail
      go_ret
      rw [HE.out]
      exact ⟨a5, c5, w4.heap.size, O, rfl, hsz4, k5.size, own5, Mach.more ⟨fun b hb => Nat.lt_of_lt_of_le (hO2.out b hb) (Nat.le_trans hsz4 k5.size), bM, g, D, rowD.keep k5 id, tpe.keep k5 id (fun _ _ => id), PA.out, mp.keep k5 id (fun _ _ => id)⟩ (Nat.le_succ _), (kk.trans k5).nix, fun b hb => ⟨.inl hb, Nat.lt_of_lt_of_le (hO2.out b hb) hsz4⟩, fun _ => kk.trans k5⟩
end
end Go.Proofs.Ythchpdflnpfjkaa
