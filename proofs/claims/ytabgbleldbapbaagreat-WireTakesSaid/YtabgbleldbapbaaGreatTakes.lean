/- THE LAW WireTakes, walked. Printed by gen13.py. -/
import Derived.Test.YtabgbleldbapbaaGreatTakB
import Derived.Test.YtabgbleldbapbaaGreatTakD
import Derived.Test.YtabgbleldbapbaaGreatSameB
import Derived.Test.YtabgbleldbapbaaGreatSpoil
import Derived.Test.YtabgbleldbapbaaGreatOutK
import Derived.Lib.SlBytesConst
namespace Go.Proofs.YtabgbleldbapbaaGreat
open Go.RowKit

theorem Lies.mark (w : World) (cs : Array Value) (t : TypeId) (m : Nat × Nat) (p : Nat → Prop) (hp : p w.heap.size) : Lies (w.alloc (.cells cs t m)) p (some ⟨w.heap.size, 0, none⟩) cs.toList :=
  fun _ => ⟨w.heap.size, 0, rfl, hp, by simp, fun j u hu => (cell_of_row _ w.heap.size _ cs t m (heap_alloc_new _ _)).trans (by rw [Nat.zero_add]; simpa using hu)⟩
set_option maxRecDepth 100000 in
theorem wawake_c (w : World) : Calls Tryz.prog 5 #[] w fun e w' => e = .returned (.bool true) ∧ Keep Nix w w' := by
  have kc := fun (w : World) (C : Array Value) (n c : Nat) => Lib.run_convert_bytes_const (P := Tryz.prog) w 22 5 C n c Tryz.underlying22 Tryz.underlying5
  go_enter Tryz.func5, Tryz.ntmps5
  go_wp2_with fail
  have hx : rGCall (w.alloc (.cells #[.int .u8 97] 5 (1, 2))) (fun b => b = w.heap.size) [.int .u64 1, .int .u64 2, .slice (some ⟨w.heap.size, 0, none⟩) 1 1] ⟨1, 2, [97]⟩ :=
    ⟨[_], [_], [_], rfl, ⟨rfl, rfl⟩, ⟨rfl, rfl⟩, some ⟨w.heap.size, 0, none⟩, 1, rfl, Lies.mark w #[.int .u8 97] _ _ _ rfl, by decide, by decide⟩
  have hlen : (encGCall ⟨1, 2, [97]⟩).length ≤ far := by decide +kernel
  go_fit (wTCall_c _ (fun b => b = w.heap.size) (fun b hb => by simp; omega) ⟨1, 2, [97]⟩ _ hx hlen)
  rintro e w1 ⟨a, cap, rfl, own, k⟩
  have ee : encGCall ⟨1, 2, [97]⟩ = [1, 2, 1, 97] := by decide +kernel
  rw [ee] at own ⊢
  obtain ⟨b, rfl, _, _, hc⟩ := cells_of_owned own (by simp)
  have c0 := hc 0 _ rfl
  have c1 := hc 1 _ rfl
  have c2 := hc 2 _ rfl
  have c3 := hc 3 _ rfl
  have kk : Keep Nix w w1 := ((Keep.refl Nix w).alloc _).trans k
  clear hc own ee hx k
  simp only [bv] at c0 c1 c2 c3
  go_wp2
  go_ret
  exact ⟨rfl, kk⟩
/-- The keys of pairs, which may be spoiled. -/
def PairsAt (w : World) (p : Nat → Prop) (a : Option Addr) (n : Nat) : Prop :=
  0 < n → ∃ b off, a = some ⟨b, off, none⟩ ∧ p b ∧ b < w.heap.size ∧ ∀ k, k < n → ∃ aK nK cK, w.cell? ⟨b, off + k * 3, none⟩ = some (.slice aK nK cK) ∧ U8s w p aK nK ∧ nK ≤ maxLen
theorem PairsAt.of {w : World} {p : Nat → Prop} {a : Option Addr} {n cap : Nat} {l : List GPair} (h : rList wGPair w p [.slice a n cap] l) : PairsAt w p a n := by
  intro hn
  obtain ⟨e, -, -⟩ := rList_len h
  subst e
  obtain ⟨b, off, cap', c, h1, h2, h3, -, -⟩ := rList_at wGPair_lawful (by decide) h 0 hn
  simp only [List.cons.injEq, Value.slice.injEq, and_true] at h1
  obtain ⟨rfl, -, -⟩ := h1
  refine ⟨b, off, rfl, h2, h3, fun k hk => ?_⟩
  obtain ⟨b', off', cap'', c', g1, g2, g3, g4, g5⟩ := rList_at wGPair_lawful (by decide) h k hk
  simp only [List.cons.injEq, Value.slice.injEq, Option.some.injEq, Addr.mk.injEq, and_true] at g1
  obtain ⟨⟨rfl, rfl⟩, -, -⟩ := g1
  obtain ⟨c0, c1, c2, hc, q0, q1, q2⟩ := g4
  obtain ⟨aK, cK, rfl, q3⟩ := rBytesW_open q0
  obtain ⟨aK2, cK2, e3, q4, -, q5⟩ := q3
  simp only [List.cons.injEq, Value.slice.injEq, and_true] at e3
  obtain ⟨rfl, -, rfl⟩ := e3
  refine ⟨aK, _, cK, ?_, U8s.of q4, by have := far_len; omega⟩
  have := g5 0 (.slice aK l[k].fKey.length cK) (by rw [hc]; rfl)
  rw [Nat.add_zero] at this
  exact this
theorem Bent.slice {p : Nat → Prop} {w w' : World} (h : Bent p w w') {b o : Nat} {a : Option Addr} {n c : Nat} (hc : w.cell? ⟨b, o, none⟩ = some (.slice a n c)) : w'.cell? ⟨b, o, none⟩ = some (.slice a n c) := by
  rcases h.cells _ _ _ hc with h1 | ⟨m, m', h1, -⟩
  · exact h1
  · cases h1
theorem PairsAt.bent {w w' : World} {p q : Nat → Prop} {a : Option Addr} {n : Nat} (h : PairsAt w p a n) (k : Bent q w w') : PairsAt w' p a n := by
  intro hn
  obtain ⟨b, off, h1, h2, h3, h4⟩ := h hn
  refine ⟨b, off, h1, h2, Nat.lt_of_lt_of_le h3 k.keep.size, fun j hj => ?_⟩
  obtain ⟨aK, nK, cK, g1, g2, g3⟩ := h4 j hj
  refine ⟨aK, nK, cK, ?_, g2.bent k, g3⟩
  rcases k.cells _ _ _ g1 with g4 | ⟨m, m', g4, -⟩
  · exact g4
  · cases g4
namespace wireTakes
theorem ldz_Call (a : Act) (dst : Option Tmp) (x : Operand) (ty : TypeId) (pos : String) (after : Array Edge) (guard : Option (Nat × Bool)) : execOp a.eval { dst := dst, op := .load 27 x, type := ty, pos := pos, after := after, guard := guard } = wholeSem 27 (a.eval x) := rfl
theorem ldz_Command (a : Act) (dst : Option Tmp) (x : Operand) (ty : TypeId) (pos : String) (after : Array Edge) (guard : Option (Nat × Bool)) : execOp a.eval { dst := dst, op := .load 43 x, type := ty, pos := pos, after := after, guard := guard } = wholeSem 43 (a.eval x) := rfl
theorem ldz_Reply (a : Act) (dst : Option Tmp) (x : Operand) (ty : TypeId) (pos : String) (after : Array Edge) (guard : Option (Nat × Bool)) : execOp a.eval { dst := dst, op := .load 55 x, type := ty, pos := pos, after := after, guard := guard } = wholeSem 55 (a.eval x) := rfl
theorem ldz_Catalog (a : Act) (dst : Option Tmp) (x : Operand) (ty : TypeId) (pos : String) (after : Array Edge) (guard : Option (Nat × Bool)) : execOp a.eval { dst := dst, op := .load 50 x, type := ty, pos := pos, after := after, guard := guard } = wholeSem 50 (a.eval x) := rfl
theorem ldz_Ask (a : Act) (dst : Option Tmp) (x : Operand) (ty : TypeId) (pos : String) (after : Array Edge) (guard : Option (Nat × Bool)) : execOp a.eval { dst := dst, op := .load 62 x, type := ty, pos := pos, after := after, guard := guard } = wholeSem 62 (a.eval x) := rfl
attribute [local go_sem ↓] ldz_Call st_Call ldz_Command st_Command ldz_Reply st_Reply ldz_Catalog st_Catalog ldz_Ask st_Ask
set_option maxRecDepth 100000 in
set_option maxHeartbeats 16000000 in
theorem walk' (W : World) (a : Option Addr) (n cap : Nat) (l : List UInt8) (hn : l.length = n) (hl : Lies W (· < W.heap.size) a (l.map bv)) :
    Calls Tryz.prog 3 #[.slice a n cap] W fun e w' => e = .returned (.bool true) ∧ Keep Nix W w' := by
  rcases Int.lt_or_le 20000 (n : Int) with hbig | hsm
  · have hd : decide ((20000 : Int) < (n : Int)) = true := decide_eq_true hbig
    have HL := Lib.hid hl
    clear hl hn hbig
    go_enter Tryz.func3, Tryz.ntmps3
    go_wp2_with fail
    go_fit (wawake_c _)
    rintro e w1 ⟨rfl, k1⟩
    go_wp2
    go_ret
    exact ⟨rfl, k1⟩
  have hd : decide ((20000 : Int) < (n : Int)) = false := decide_eq_false (by omega)
  have hn0 : n ≤ 20000 := by omega
  have HN := Lib.hid hn
  clear hsm hn
  go_enter Tryz.func3, Tryz.ntmps3
  go_wp2_with fail
  go_fit (ownB_c a n cap l 71 W HN.out hl (by omega))
  rintro e w0 ⟨bI, rfl, hbI, rowI, kk⟩
  clear hd
  have s0 := kk.size
  have hbI2 := rowI.lt
  replace hl := hl.keep kk (fun _ _ h => h)
  have hI : Lies w0 (fun b => b = bI) (some ⟨bI, 0, none⟩) (l.map bv) := rowI.lies (fun b => b = bI) rfl (fun j u hu => by
    rw [List.map_append, Nat.zero_add, List.getElem?_append_left (List.getElem?_eq_some_iff.1 hu).1]; exact hu)
  go_wp2_with fail
  go_fit (wTakeCall_c (some ⟨bI, 0, none⟩) n (n + 3) l _ HN.out hI (by omega))
  rintro e w1 ⟨cpCall, rfl, hpCall, ho, k1⟩
  have s1 := k1.size
  have hlpCall := Lib.hid (wGCall_lawful.len hpCall)
  replace rowI := rowI.keep k1 id
  replace hl := hl.keep k1 (fun _ _ h => h)
  replace hI := hI.keep k1 (fun _ _ h => h)
  replace kk := kk.trans k1
  have hst := store_run (P := Tryz.prog) (cs := cpCall) S_Call (RowIs.alloc w1 #[.int .u64 0, .int .u64 0, .slice none 0 0] 27) rfl hlpCall.out ho
  have rowpCall := (RowIs.alloc w1 #[.int .u64 0, .int .u64 0, .slice none 0 0] 27).setRow cpCall
  have kV : Keep Nix w1 ((w1.alloc (.cells #[.int .u64 0, .int .u64 0, .slice none 0 0] 27)).setRow w1.heap.size cpCall.toArray) := ((Keep.refl Nix w1).alloc (.cells #[.int .u64 0, .int .u64 0, .slice none 0 0] 27)).setRow (fun h => absurd h (Nat.lt_irrefl _)) cpCall.toArray
  have t1 : w1.heap.size + 1 ≤ ((w1.alloc (.cells #[.int .u64 0, .int .u64 0, .slice none 0 0] 27)).setRow w1.heap.size cpCall.toArray).heap.size := by have := rowpCall.lt; omega
  clear k1 ho
  replace rowI := rowI.keep kV id
  replace hl := hl.keep kV (fun _ _ h => h)
  replace hI := hI.keep kV (fun _ _ h => h)
  replace kk := kk.trans kV
  replace hpCall := wGCall_lawful.nix hpCall kV
  clear kV
  go_wp2_with fail
  clear hst
  go_fit (iTakeCall_c a n cap l _ HN.out hl (by omega))
  rintro e w2 ⟨crCall, rfl, hrCall, ho, k1⟩
  have s2 := k1.size
  have hlrCall := Lib.hid (rGCall_lawful.len hrCall)
  replace rowI := rowI.keep k1 id
  replace hl := hl.keep k1 (fun _ _ h => h)
  replace hI := hI.keep k1 (fun _ _ h => h)
  replace kk := kk.trans k1
  replace rowpCall := rowpCall.keep k1 id
  replace hpCall := wGCall_lawful.nix hpCall k1
  have hst := store_run (P := Tryz.prog) (cs := crCall) S_Call (RowIs.alloc w2 #[.int .u64 0, .int .u64 0, .slice none 0 0] 27) rfl hlrCall.out ho
  have rowrCall := (RowIs.alloc w2 #[.int .u64 0, .int .u64 0, .slice none 0 0] 27).setRow crCall
  have kV : Keep Nix w2 ((w2.alloc (.cells #[.int .u64 0, .int .u64 0, .slice none 0 0] 27)).setRow w2.heap.size crCall.toArray) := ((Keep.refl Nix w2).alloc (.cells #[.int .u64 0, .int .u64 0, .slice none 0 0] 27)).setRow (fun h => absurd h (Nat.lt_irrefl _)) crCall.toArray
  have t2 : w2.heap.size + 1 ≤ ((w2.alloc (.cells #[.int .u64 0, .int .u64 0, .slice none 0 0] 27)).setRow w2.heap.size crCall.toArray).heap.size := by have := rowrCall.lt; omega
  clear k1 ho
  replace rowI := rowI.keep kV id
  replace hl := hl.keep kV (fun _ _ h => h)
  replace hI := hI.keep kV (fun _ _ h => h)
  replace kk := kk.trans kV
  replace rowpCall := rowpCall.keep kV id
  replace hpCall := wGCall_lawful.nix hpCall kV
  replace hrCall := rGCall_lawful.nix hrCall kV
  clear kV
  go_wp2_with fail
  clear hst
  go_fit (wTakeCommand_c (some ⟨bI, 0, none⟩) n (n + 3) l _ HN.out hI (by omega))
  rintro e w3 ⟨cpCommand, rfl, hpCommand, ho, k1⟩
  have s3 := k1.size
  have hlpCommand := Lib.hid (wGCommand_lawful.len hpCommand)
  replace rowI := rowI.keep k1 id
  replace hl := hl.keep k1 (fun _ _ h => h)
  replace hI := hI.keep k1 (fun _ _ h => h)
  replace kk := kk.trans k1
  replace rowpCall := rowpCall.keep k1 id
  replace hpCall := wGCall_lawful.nix hpCall k1
  replace rowrCall := rowrCall.keep k1 id
  replace hrCall := rGCall_lawful.nix hrCall k1
  have hst := store_run (P := Tryz.prog) (cs := cpCommand) S_Command (RowIs.alloc w3 #[.int .i64 0, .int .i64 0, .int .u64 0, .int .i64 0, .int .i64 0, .int .i64 0, .bool false, .slice none 0 0, .slice none 0 0, .slice none 0 0, .slice none 0 0, .slice none 0 0, .slice none 0 0, .int .i64 0, .string { data := #[] }, .slice none 0 0, .slice none 0 0, .int .i64 0, .int .i64 0, .string { data := #[] }, .slice none 0 0, .bool false, .int .i64 0, .bool false, .string { data := #[] }] 43) rfl hlpCommand.out ho
  have rowpCommand := (RowIs.alloc w3 #[.int .i64 0, .int .i64 0, .int .u64 0, .int .i64 0, .int .i64 0, .int .i64 0, .bool false, .slice none 0 0, .slice none 0 0, .slice none 0 0, .slice none 0 0, .slice none 0 0, .slice none 0 0, .int .i64 0, .string { data := #[] }, .slice none 0 0, .slice none 0 0, .int .i64 0, .int .i64 0, .string { data := #[] }, .slice none 0 0, .bool false, .int .i64 0, .bool false, .string { data := #[] }] 43).setRow cpCommand
  have kV : Keep Nix w3 ((w3.alloc (.cells #[.int .i64 0, .int .i64 0, .int .u64 0, .int .i64 0, .int .i64 0, .int .i64 0, .bool false, .slice none 0 0, .slice none 0 0, .slice none 0 0, .slice none 0 0, .slice none 0 0, .slice none 0 0, .int .i64 0, .string { data := #[] }, .slice none 0 0, .slice none 0 0, .int .i64 0, .int .i64 0, .string { data := #[] }, .slice none 0 0, .bool false, .int .i64 0, .bool false, .string { data := #[] }] 43)).setRow w3.heap.size cpCommand.toArray) := ((Keep.refl Nix w3).alloc (.cells #[.int .i64 0, .int .i64 0, .int .u64 0, .int .i64 0, .int .i64 0, .int .i64 0, .bool false, .slice none 0 0, .slice none 0 0, .slice none 0 0, .slice none 0 0, .slice none 0 0, .slice none 0 0, .int .i64 0, .string { data := #[] }, .slice none 0 0, .slice none 0 0, .int .i64 0, .int .i64 0, .string { data := #[] }, .slice none 0 0, .bool false, .int .i64 0, .bool false, .string { data := #[] }] 43)).setRow (fun h => absurd h (Nat.lt_irrefl _)) cpCommand.toArray
  have t3 : w3.heap.size + 1 ≤ ((w3.alloc (.cells #[.int .i64 0, .int .i64 0, .int .u64 0, .int .i64 0, .int .i64 0, .int .i64 0, .bool false, .slice none 0 0, .slice none 0 0, .slice none 0 0, .slice none 0 0, .slice none 0 0, .slice none 0 0, .int .i64 0, .string { data := #[] }, .slice none 0 0, .slice none 0 0, .int .i64 0, .int .i64 0, .string { data := #[] }, .slice none 0 0, .bool false, .int .i64 0, .bool false, .string { data := #[] }] 43)).setRow w3.heap.size cpCommand.toArray).heap.size := by have := rowpCommand.lt; omega
  clear k1 ho
  replace rowI := rowI.keep kV id
  replace hl := hl.keep kV (fun _ _ h => h)
  replace hI := hI.keep kV (fun _ _ h => h)
  replace kk := kk.trans kV
  replace rowpCall := rowpCall.keep kV id
  replace hpCall := wGCall_lawful.nix hpCall kV
  replace rowrCall := rowrCall.keep kV id
  replace hrCall := rGCall_lawful.nix hrCall kV
  replace hpCommand := wGCommand_lawful.nix hpCommand kV
  clear kV
  go_wp2_with fail
  clear hst
  go_fit (iTakeCommand_c a n cap l _ HN.out hl (by omega))
  rintro e w4 ⟨crCommand, rfl, hrCommand, ho, k1⟩
  have s4 := k1.size
  have hlrCommand := Lib.hid (rGCommand_lawful.len hrCommand)
  replace rowI := rowI.keep k1 id
  replace hl := hl.keep k1 (fun _ _ h => h)
  replace hI := hI.keep k1 (fun _ _ h => h)
  replace kk := kk.trans k1
  replace rowpCall := rowpCall.keep k1 id
  replace hpCall := wGCall_lawful.nix hpCall k1
  replace rowrCall := rowrCall.keep k1 id
  replace hrCall := rGCall_lawful.nix hrCall k1
  replace rowpCommand := rowpCommand.keep k1 id
  replace hpCommand := wGCommand_lawful.nix hpCommand k1
  have hst := store_run (P := Tryz.prog) (cs := crCommand) S_Command (RowIs.alloc w4 #[.int .i64 0, .int .i64 0, .int .u64 0, .int .i64 0, .int .i64 0, .int .i64 0, .bool false, .slice none 0 0, .slice none 0 0, .slice none 0 0, .slice none 0 0, .slice none 0 0, .slice none 0 0, .int .i64 0, .string { data := #[] }, .slice none 0 0, .slice none 0 0, .int .i64 0, .int .i64 0, .string { data := #[] }, .slice none 0 0, .bool false, .int .i64 0, .bool false, .string { data := #[] }] 43) rfl hlrCommand.out ho
  have rowrCommand := (RowIs.alloc w4 #[.int .i64 0, .int .i64 0, .int .u64 0, .int .i64 0, .int .i64 0, .int .i64 0, .bool false, .slice none 0 0, .slice none 0 0, .slice none 0 0, .slice none 0 0, .slice none 0 0, .slice none 0 0, .int .i64 0, .string { data := #[] }, .slice none 0 0, .slice none 0 0, .int .i64 0, .int .i64 0, .string { data := #[] }, .slice none 0 0, .bool false, .int .i64 0, .bool false, .string { data := #[] }] 43).setRow crCommand
  have kV : Keep Nix w4 ((w4.alloc (.cells #[.int .i64 0, .int .i64 0, .int .u64 0, .int .i64 0, .int .i64 0, .int .i64 0, .bool false, .slice none 0 0, .slice none 0 0, .slice none 0 0, .slice none 0 0, .slice none 0 0, .slice none 0 0, .int .i64 0, .string { data := #[] }, .slice none 0 0, .slice none 0 0, .int .i64 0, .int .i64 0, .string { data := #[] }, .slice none 0 0, .bool false, .int .i64 0, .bool false, .string { data := #[] }] 43)).setRow w4.heap.size crCommand.toArray) := ((Keep.refl Nix w4).alloc (.cells #[.int .i64 0, .int .i64 0, .int .u64 0, .int .i64 0, .int .i64 0, .int .i64 0, .bool false, .slice none 0 0, .slice none 0 0, .slice none 0 0, .slice none 0 0, .slice none 0 0, .slice none 0 0, .int .i64 0, .string { data := #[] }, .slice none 0 0, .slice none 0 0, .int .i64 0, .int .i64 0, .string { data := #[] }, .slice none 0 0, .bool false, .int .i64 0, .bool false, .string { data := #[] }] 43)).setRow (fun h => absurd h (Nat.lt_irrefl _)) crCommand.toArray
  have t4 : w4.heap.size + 1 ≤ ((w4.alloc (.cells #[.int .i64 0, .int .i64 0, .int .u64 0, .int .i64 0, .int .i64 0, .int .i64 0, .bool false, .slice none 0 0, .slice none 0 0, .slice none 0 0, .slice none 0 0, .slice none 0 0, .slice none 0 0, .int .i64 0, .string { data := #[] }, .slice none 0 0, .slice none 0 0, .int .i64 0, .int .i64 0, .string { data := #[] }, .slice none 0 0, .bool false, .int .i64 0, .bool false, .string { data := #[] }] 43)).setRow w4.heap.size crCommand.toArray).heap.size := by have := rowrCommand.lt; omega
  clear k1 ho
  replace rowI := rowI.keep kV id
  replace hl := hl.keep kV (fun _ _ h => h)
  replace hI := hI.keep kV (fun _ _ h => h)
  replace kk := kk.trans kV
  replace rowpCall := rowpCall.keep kV id
  replace hpCall := wGCall_lawful.nix hpCall kV
  replace rowrCall := rowrCall.keep kV id
  replace hrCall := rGCall_lawful.nix hrCall kV
  replace rowpCommand := rowpCommand.keep kV id
  replace hpCommand := wGCommand_lawful.nix hpCommand kV
  replace hrCommand := rGCommand_lawful.nix hrCommand kV
  clear kV
  go_wp2_with fail
  clear hst
  go_fit (wTakeReply_c (some ⟨bI, 0, none⟩) n (n + 3) l _ HN.out hI (by omega))
  rintro e w5 ⟨cpReply, rfl, hpReply, ho, k1⟩
  have s5 := k1.size
  have hlpReply := Lib.hid (wGReply_lawful.len hpReply)
  replace rowI := rowI.keep k1 id
  replace hl := hl.keep k1 (fun _ _ h => h)
  replace hI := hI.keep k1 (fun _ _ h => h)
  replace kk := kk.trans k1
  replace rowpCall := rowpCall.keep k1 id
  replace hpCall := wGCall_lawful.nix hpCall k1
  replace rowrCall := rowrCall.keep k1 id
  replace hrCall := rGCall_lawful.nix hrCall k1
  replace rowpCommand := rowpCommand.keep k1 id
  replace hpCommand := wGCommand_lawful.nix hpCommand k1
  replace rowrCommand := rowrCommand.keep k1 id
  replace hrCommand := rGCommand_lawful.nix hrCommand k1
  have hst := store_run (P := Tryz.prog) (cs := cpReply) S_Reply (RowIs.alloc w5 #[.int .i64 0, .int .u64 0, .int .i64 0, .bool false, .slice none 0 0, .slice none 0 0, .int .i64 0, .int .i64 0, .slice none 0 0, .slice none 0 0, .int .i64 0, .int .i64 0, .slice none 0 0, .int .i64 0, .slice none 0 0] 55) rfl hlpReply.out ho
  have rowpReply := (RowIs.alloc w5 #[.int .i64 0, .int .u64 0, .int .i64 0, .bool false, .slice none 0 0, .slice none 0 0, .int .i64 0, .int .i64 0, .slice none 0 0, .slice none 0 0, .int .i64 0, .int .i64 0, .slice none 0 0, .int .i64 0, .slice none 0 0] 55).setRow cpReply
  have kV : Keep Nix w5 ((w5.alloc (.cells #[.int .i64 0, .int .u64 0, .int .i64 0, .bool false, .slice none 0 0, .slice none 0 0, .int .i64 0, .int .i64 0, .slice none 0 0, .slice none 0 0, .int .i64 0, .int .i64 0, .slice none 0 0, .int .i64 0, .slice none 0 0] 55)).setRow w5.heap.size cpReply.toArray) := ((Keep.refl Nix w5).alloc (.cells #[.int .i64 0, .int .u64 0, .int .i64 0, .bool false, .slice none 0 0, .slice none 0 0, .int .i64 0, .int .i64 0, .slice none 0 0, .slice none 0 0, .int .i64 0, .int .i64 0, .slice none 0 0, .int .i64 0, .slice none 0 0] 55)).setRow (fun h => absurd h (Nat.lt_irrefl _)) cpReply.toArray
  have t5 : w5.heap.size + 1 ≤ ((w5.alloc (.cells #[.int .i64 0, .int .u64 0, .int .i64 0, .bool false, .slice none 0 0, .slice none 0 0, .int .i64 0, .int .i64 0, .slice none 0 0, .slice none 0 0, .int .i64 0, .int .i64 0, .slice none 0 0, .int .i64 0, .slice none 0 0] 55)).setRow w5.heap.size cpReply.toArray).heap.size := by have := rowpReply.lt; omega
  clear k1 ho
  replace rowI := rowI.keep kV id
  replace hl := hl.keep kV (fun _ _ h => h)
  replace hI := hI.keep kV (fun _ _ h => h)
  replace kk := kk.trans kV
  replace rowpCall := rowpCall.keep kV id
  replace hpCall := wGCall_lawful.nix hpCall kV
  replace rowrCall := rowrCall.keep kV id
  replace hrCall := rGCall_lawful.nix hrCall kV
  replace rowpCommand := rowpCommand.keep kV id
  replace hpCommand := wGCommand_lawful.nix hpCommand kV
  replace rowrCommand := rowrCommand.keep kV id
  replace hrCommand := rGCommand_lawful.nix hrCommand kV
  replace hpReply := wGReply_lawful.nix hpReply kV
  clear kV
  go_wp2_with fail
  clear hst
  go_fit (iTakeReply_c a n cap l _ HN.out hl (by omega))
  rintro e w6 ⟨crReply, rfl, hrReply, ho, k1⟩
  have s6 := k1.size
  have hlrReply := Lib.hid (rGReply_lawful.len hrReply)
  replace rowI := rowI.keep k1 id
  replace hl := hl.keep k1 (fun _ _ h => h)
  replace hI := hI.keep k1 (fun _ _ h => h)
  replace kk := kk.trans k1
  replace rowpCall := rowpCall.keep k1 id
  replace hpCall := wGCall_lawful.nix hpCall k1
  replace rowrCall := rowrCall.keep k1 id
  replace hrCall := rGCall_lawful.nix hrCall k1
  replace rowpCommand := rowpCommand.keep k1 id
  replace hpCommand := wGCommand_lawful.nix hpCommand k1
  replace rowrCommand := rowrCommand.keep k1 id
  replace hrCommand := rGCommand_lawful.nix hrCommand k1
  replace rowpReply := rowpReply.keep k1 id
  replace hpReply := wGReply_lawful.nix hpReply k1
  have hst := store_run (P := Tryz.prog) (cs := crReply) S_Reply (RowIs.alloc w6 #[.int .i64 0, .int .u64 0, .int .i64 0, .bool false, .slice none 0 0, .slice none 0 0, .int .i64 0, .int .i64 0, .slice none 0 0, .slice none 0 0, .int .i64 0, .int .i64 0, .slice none 0 0, .int .i64 0, .slice none 0 0] 55) rfl hlrReply.out ho
  have rowrReply := (RowIs.alloc w6 #[.int .i64 0, .int .u64 0, .int .i64 0, .bool false, .slice none 0 0, .slice none 0 0, .int .i64 0, .int .i64 0, .slice none 0 0, .slice none 0 0, .int .i64 0, .int .i64 0, .slice none 0 0, .int .i64 0, .slice none 0 0] 55).setRow crReply
  have kV : Keep Nix w6 ((w6.alloc (.cells #[.int .i64 0, .int .u64 0, .int .i64 0, .bool false, .slice none 0 0, .slice none 0 0, .int .i64 0, .int .i64 0, .slice none 0 0, .slice none 0 0, .int .i64 0, .int .i64 0, .slice none 0 0, .int .i64 0, .slice none 0 0] 55)).setRow w6.heap.size crReply.toArray) := ((Keep.refl Nix w6).alloc (.cells #[.int .i64 0, .int .u64 0, .int .i64 0, .bool false, .slice none 0 0, .slice none 0 0, .int .i64 0, .int .i64 0, .slice none 0 0, .slice none 0 0, .int .i64 0, .int .i64 0, .slice none 0 0, .int .i64 0, .slice none 0 0] 55)).setRow (fun h => absurd h (Nat.lt_irrefl _)) crReply.toArray
  have t6 : w6.heap.size + 1 ≤ ((w6.alloc (.cells #[.int .i64 0, .int .u64 0, .int .i64 0, .bool false, .slice none 0 0, .slice none 0 0, .int .i64 0, .int .i64 0, .slice none 0 0, .slice none 0 0, .int .i64 0, .int .i64 0, .slice none 0 0, .int .i64 0, .slice none 0 0] 55)).setRow w6.heap.size crReply.toArray).heap.size := by have := rowrReply.lt; omega
  clear k1 ho
  replace rowI := rowI.keep kV id
  replace hl := hl.keep kV (fun _ _ h => h)
  replace hI := hI.keep kV (fun _ _ h => h)
  replace kk := kk.trans kV
  replace rowpCall := rowpCall.keep kV id
  replace hpCall := wGCall_lawful.nix hpCall kV
  replace rowrCall := rowrCall.keep kV id
  replace hrCall := rGCall_lawful.nix hrCall kV
  replace rowpCommand := rowpCommand.keep kV id
  replace hpCommand := wGCommand_lawful.nix hpCommand kV
  replace rowrCommand := rowrCommand.keep kV id
  replace hrCommand := rGCommand_lawful.nix hrCommand kV
  replace rowpReply := rowpReply.keep kV id
  replace hpReply := wGReply_lawful.nix hpReply kV
  replace hrReply := rGReply_lawful.nix hrReply kV
  clear kV
  go_wp2_with fail
  clear hst
  go_fit (wTakeCatalog_c (some ⟨bI, 0, none⟩) n (n + 3) l _ HN.out hI (by omega))
  rintro e w7 ⟨cpCatalog, rfl, hpCatalog, ho, k1⟩
  have s7 := k1.size
  have hlpCatalog := Lib.hid (wGCatalog_lawful.len hpCatalog)
  replace rowI := rowI.keep k1 id
  replace hl := hl.keep k1 (fun _ _ h => h)
  replace hI := hI.keep k1 (fun _ _ h => h)
  replace kk := kk.trans k1
  replace rowpCall := rowpCall.keep k1 id
  replace hpCall := wGCall_lawful.nix hpCall k1
  replace rowrCall := rowrCall.keep k1 id
  replace hrCall := rGCall_lawful.nix hrCall k1
  replace rowpCommand := rowpCommand.keep k1 id
  replace hpCommand := wGCommand_lawful.nix hpCommand k1
  replace rowrCommand := rowrCommand.keep k1 id
  replace hrCommand := rGCommand_lawful.nix hrCommand k1
  replace rowpReply := rowpReply.keep k1 id
  replace hpReply := wGReply_lawful.nix hpReply k1
  replace rowrReply := rowrReply.keep k1 id
  replace hrReply := rGReply_lawful.nix hrReply k1
  have hst := store_run (P := Tryz.prog) (cs := cpCatalog) S_Catalog (RowIs.alloc w7 #[.int .i64 0, .int .i64 0, .slice none 0 0, .slice none 0 0] 50) rfl hlpCatalog.out ho
  have rowpCatalog := (RowIs.alloc w7 #[.int .i64 0, .int .i64 0, .slice none 0 0, .slice none 0 0] 50).setRow cpCatalog
  have kV : Keep Nix w7 ((w7.alloc (.cells #[.int .i64 0, .int .i64 0, .slice none 0 0, .slice none 0 0] 50)).setRow w7.heap.size cpCatalog.toArray) := ((Keep.refl Nix w7).alloc (.cells #[.int .i64 0, .int .i64 0, .slice none 0 0, .slice none 0 0] 50)).setRow (fun h => absurd h (Nat.lt_irrefl _)) cpCatalog.toArray
  have t7 : w7.heap.size + 1 ≤ ((w7.alloc (.cells #[.int .i64 0, .int .i64 0, .slice none 0 0, .slice none 0 0] 50)).setRow w7.heap.size cpCatalog.toArray).heap.size := by have := rowpCatalog.lt; omega
  clear k1 ho
  replace rowI := rowI.keep kV id
  replace hl := hl.keep kV (fun _ _ h => h)
  replace hI := hI.keep kV (fun _ _ h => h)
  replace kk := kk.trans kV
  replace rowpCall := rowpCall.keep kV id
  replace hpCall := wGCall_lawful.nix hpCall kV
  replace rowrCall := rowrCall.keep kV id
  replace hrCall := rGCall_lawful.nix hrCall kV
  replace rowpCommand := rowpCommand.keep kV id
  replace hpCommand := wGCommand_lawful.nix hpCommand kV
  replace rowrCommand := rowrCommand.keep kV id
  replace hrCommand := rGCommand_lawful.nix hrCommand kV
  replace rowpReply := rowpReply.keep kV id
  replace hpReply := wGReply_lawful.nix hpReply kV
  replace rowrReply := rowrReply.keep kV id
  replace hrReply := rGReply_lawful.nix hrReply kV
  replace hpCatalog := wGCatalog_lawful.nix hpCatalog kV
  clear kV
  go_wp2_with fail
  clear hst
  go_fit (iTakeCatalog_c a n cap l _ HN.out hl (by omega))
  rintro e w8 ⟨crCatalog, rfl, hrCatalog, ho, k1⟩
  have s8 := k1.size
  have hlrCatalog := Lib.hid (rGCatalog_lawful.len hrCatalog)
  replace rowI := rowI.keep k1 id
  replace hl := hl.keep k1 (fun _ _ h => h)
  replace hI := hI.keep k1 (fun _ _ h => h)
  replace kk := kk.trans k1
  replace rowpCall := rowpCall.keep k1 id
  replace hpCall := wGCall_lawful.nix hpCall k1
  replace rowrCall := rowrCall.keep k1 id
  replace hrCall := rGCall_lawful.nix hrCall k1
  replace rowpCommand := rowpCommand.keep k1 id
  replace hpCommand := wGCommand_lawful.nix hpCommand k1
  replace rowrCommand := rowrCommand.keep k1 id
  replace hrCommand := rGCommand_lawful.nix hrCommand k1
  replace rowpReply := rowpReply.keep k1 id
  replace hpReply := wGReply_lawful.nix hpReply k1
  replace rowrReply := rowrReply.keep k1 id
  replace hrReply := rGReply_lawful.nix hrReply k1
  replace rowpCatalog := rowpCatalog.keep k1 id
  replace hpCatalog := wGCatalog_lawful.nix hpCatalog k1
  have hst := store_run (P := Tryz.prog) (cs := crCatalog) S_Catalog (RowIs.alloc w8 #[.int .i64 0, .int .i64 0, .slice none 0 0, .slice none 0 0] 50) rfl hlrCatalog.out ho
  have rowrCatalog := (RowIs.alloc w8 #[.int .i64 0, .int .i64 0, .slice none 0 0, .slice none 0 0] 50).setRow crCatalog
  have kV : Keep Nix w8 ((w8.alloc (.cells #[.int .i64 0, .int .i64 0, .slice none 0 0, .slice none 0 0] 50)).setRow w8.heap.size crCatalog.toArray) := ((Keep.refl Nix w8).alloc (.cells #[.int .i64 0, .int .i64 0, .slice none 0 0, .slice none 0 0] 50)).setRow (fun h => absurd h (Nat.lt_irrefl _)) crCatalog.toArray
  have t8 : w8.heap.size + 1 ≤ ((w8.alloc (.cells #[.int .i64 0, .int .i64 0, .slice none 0 0, .slice none 0 0] 50)).setRow w8.heap.size crCatalog.toArray).heap.size := by have := rowrCatalog.lt; omega
  clear k1 ho
  replace rowI := rowI.keep kV id
  replace hl := hl.keep kV (fun _ _ h => h)
  replace hI := hI.keep kV (fun _ _ h => h)
  replace kk := kk.trans kV
  replace rowpCall := rowpCall.keep kV id
  replace hpCall := wGCall_lawful.nix hpCall kV
  replace rowrCall := rowrCall.keep kV id
  replace hrCall := rGCall_lawful.nix hrCall kV
  replace rowpCommand := rowpCommand.keep kV id
  replace hpCommand := wGCommand_lawful.nix hpCommand kV
  replace rowrCommand := rowrCommand.keep kV id
  replace hrCommand := rGCommand_lawful.nix hrCommand kV
  replace rowpReply := rowpReply.keep kV id
  replace hpReply := wGReply_lawful.nix hpReply kV
  replace rowrReply := rowrReply.keep kV id
  replace hrReply := rGReply_lawful.nix hrReply kV
  replace rowpCatalog := rowpCatalog.keep kV id
  replace hpCatalog := wGCatalog_lawful.nix hpCatalog kV
  replace hrCatalog := rGCatalog_lawful.nix hrCatalog kV
  clear kV
  go_wp2_with fail
  clear hst
  go_fit (wTakeAsk_c (some ⟨bI, 0, none⟩) n (n + 3) l _ HN.out hI (by omega))
  rintro e w9 ⟨cpAsk, rfl, hpAsk, ho, k1⟩
  have s9 := k1.size
  have hlpAsk := Lib.hid (wGAsk_lawful.len hpAsk)
  replace rowI := rowI.keep k1 id
  replace hl := hl.keep k1 (fun _ _ h => h)
  replace hI := hI.keep k1 (fun _ _ h => h)
  replace kk := kk.trans k1
  replace rowpCall := rowpCall.keep k1 id
  replace hpCall := wGCall_lawful.nix hpCall k1
  replace rowrCall := rowrCall.keep k1 id
  replace hrCall := rGCall_lawful.nix hrCall k1
  replace rowpCommand := rowpCommand.keep k1 id
  replace hpCommand := wGCommand_lawful.nix hpCommand k1
  replace rowrCommand := rowrCommand.keep k1 id
  replace hrCommand := rGCommand_lawful.nix hrCommand k1
  replace rowpReply := rowpReply.keep k1 id
  replace hpReply := wGReply_lawful.nix hpReply k1
  replace rowrReply := rowrReply.keep k1 id
  replace hrReply := rGReply_lawful.nix hrReply k1
  replace rowpCatalog := rowpCatalog.keep k1 id
  replace hpCatalog := wGCatalog_lawful.nix hpCatalog k1
  replace rowrCatalog := rowrCatalog.keep k1 id
  replace hrCatalog := rGCatalog_lawful.nix hrCatalog k1
  have hst := store_run (P := Tryz.prog) (cs := cpAsk) S_Ask (RowIs.alloc w9 #[.int .i64 0, .slice none 0 0, .int .i64 0, .string { data := #[] }, .slice none 0 0, .slice none 0 0, .int .i64 0, .int .i64 0, .string { data := #[] }, .slice none 0 0, .bool false, .int .i64 0, .bool false, .string { data := #[] }, .int .i64 0, .slice none 0 0] 62) rfl hlpAsk.out ho
  have rowpAsk := (RowIs.alloc w9 #[.int .i64 0, .slice none 0 0, .int .i64 0, .string { data := #[] }, .slice none 0 0, .slice none 0 0, .int .i64 0, .int .i64 0, .string { data := #[] }, .slice none 0 0, .bool false, .int .i64 0, .bool false, .string { data := #[] }, .int .i64 0, .slice none 0 0] 62).setRow cpAsk
  have kV : Keep Nix w9 ((w9.alloc (.cells #[.int .i64 0, .slice none 0 0, .int .i64 0, .string { data := #[] }, .slice none 0 0, .slice none 0 0, .int .i64 0, .int .i64 0, .string { data := #[] }, .slice none 0 0, .bool false, .int .i64 0, .bool false, .string { data := #[] }, .int .i64 0, .slice none 0 0] 62)).setRow w9.heap.size cpAsk.toArray) := ((Keep.refl Nix w9).alloc (.cells #[.int .i64 0, .slice none 0 0, .int .i64 0, .string { data := #[] }, .slice none 0 0, .slice none 0 0, .int .i64 0, .int .i64 0, .string { data := #[] }, .slice none 0 0, .bool false, .int .i64 0, .bool false, .string { data := #[] }, .int .i64 0, .slice none 0 0] 62)).setRow (fun h => absurd h (Nat.lt_irrefl _)) cpAsk.toArray
  have t9 : w9.heap.size + 1 ≤ ((w9.alloc (.cells #[.int .i64 0, .slice none 0 0, .int .i64 0, .string { data := #[] }, .slice none 0 0, .slice none 0 0, .int .i64 0, .int .i64 0, .string { data := #[] }, .slice none 0 0, .bool false, .int .i64 0, .bool false, .string { data := #[] }, .int .i64 0, .slice none 0 0] 62)).setRow w9.heap.size cpAsk.toArray).heap.size := by have := rowpAsk.lt; omega
  clear k1 ho
  replace rowI := rowI.keep kV id
  replace hl := hl.keep kV (fun _ _ h => h)
  replace hI := hI.keep kV (fun _ _ h => h)
  replace kk := kk.trans kV
  replace rowpCall := rowpCall.keep kV id
  replace hpCall := wGCall_lawful.nix hpCall kV
  replace rowrCall := rowrCall.keep kV id
  replace hrCall := rGCall_lawful.nix hrCall kV
  replace rowpCommand := rowpCommand.keep kV id
  replace hpCommand := wGCommand_lawful.nix hpCommand kV
  replace rowrCommand := rowrCommand.keep kV id
  replace hrCommand := rGCommand_lawful.nix hrCommand kV
  replace rowpReply := rowpReply.keep kV id
  replace hpReply := wGReply_lawful.nix hpReply kV
  replace rowrReply := rowrReply.keep kV id
  replace hrReply := rGReply_lawful.nix hrReply kV
  replace rowpCatalog := rowpCatalog.keep kV id
  replace hpCatalog := wGCatalog_lawful.nix hpCatalog kV
  replace rowrCatalog := rowrCatalog.keep kV id
  replace hrCatalog := rGCatalog_lawful.nix hrCatalog kV
  replace hpAsk := wGAsk_lawful.nix hpAsk kV
  clear kV
  go_wp2_with fail
  clear hst
  go_fit (iTakeAsk_c a n cap l _ HN.out hl (by omega))
  rintro e w10 ⟨crAsk, rfl, hrAsk, ho, k1⟩
  have s10 := k1.size
  have hlrAsk := Lib.hid (rGAsk_lawful.len hrAsk)
  replace rowI := rowI.keep k1 id
  replace hl := hl.keep k1 (fun _ _ h => h)
  replace hI := hI.keep k1 (fun _ _ h => h)
  replace kk := kk.trans k1
  replace rowpCall := rowpCall.keep k1 id
  replace hpCall := wGCall_lawful.nix hpCall k1
  replace rowrCall := rowrCall.keep k1 id
  replace hrCall := rGCall_lawful.nix hrCall k1
  replace rowpCommand := rowpCommand.keep k1 id
  replace hpCommand := wGCommand_lawful.nix hpCommand k1
  replace rowrCommand := rowrCommand.keep k1 id
  replace hrCommand := rGCommand_lawful.nix hrCommand k1
  replace rowpReply := rowpReply.keep k1 id
  replace hpReply := wGReply_lawful.nix hpReply k1
  replace rowrReply := rowrReply.keep k1 id
  replace hrReply := rGReply_lawful.nix hrReply k1
  replace rowpCatalog := rowpCatalog.keep k1 id
  replace hpCatalog := wGCatalog_lawful.nix hpCatalog k1
  replace rowrCatalog := rowrCatalog.keep k1 id
  replace hrCatalog := rGCatalog_lawful.nix hrCatalog k1
  replace rowpAsk := rowpAsk.keep k1 id
  replace hpAsk := wGAsk_lawful.nix hpAsk k1
  have hst := store_run (P := Tryz.prog) (cs := crAsk) S_Ask (RowIs.alloc w10 #[.int .i64 0, .slice none 0 0, .int .i64 0, .string { data := #[] }, .slice none 0 0, .slice none 0 0, .int .i64 0, .int .i64 0, .string { data := #[] }, .slice none 0 0, .bool false, .int .i64 0, .bool false, .string { data := #[] }, .int .i64 0, .slice none 0 0] 62) rfl hlrAsk.out ho
  have rowrAsk := (RowIs.alloc w10 #[.int .i64 0, .slice none 0 0, .int .i64 0, .string { data := #[] }, .slice none 0 0, .slice none 0 0, .int .i64 0, .int .i64 0, .string { data := #[] }, .slice none 0 0, .bool false, .int .i64 0, .bool false, .string { data := #[] }, .int .i64 0, .slice none 0 0] 62).setRow crAsk
  have kV : Keep Nix w10 ((w10.alloc (.cells #[.int .i64 0, .slice none 0 0, .int .i64 0, .string { data := #[] }, .slice none 0 0, .slice none 0 0, .int .i64 0, .int .i64 0, .string { data := #[] }, .slice none 0 0, .bool false, .int .i64 0, .bool false, .string { data := #[] }, .int .i64 0, .slice none 0 0] 62)).setRow w10.heap.size crAsk.toArray) := ((Keep.refl Nix w10).alloc (.cells #[.int .i64 0, .slice none 0 0, .int .i64 0, .string { data := #[] }, .slice none 0 0, .slice none 0 0, .int .i64 0, .int .i64 0, .string { data := #[] }, .slice none 0 0, .bool false, .int .i64 0, .bool false, .string { data := #[] }, .int .i64 0, .slice none 0 0] 62)).setRow (fun h => absurd h (Nat.lt_irrefl _)) crAsk.toArray
  have t10 : w10.heap.size + 1 ≤ ((w10.alloc (.cells #[.int .i64 0, .slice none 0 0, .int .i64 0, .string { data := #[] }, .slice none 0 0, .slice none 0 0, .int .i64 0, .int .i64 0, .string { data := #[] }, .slice none 0 0, .bool false, .int .i64 0, .bool false, .string { data := #[] }, .int .i64 0, .slice none 0 0] 62)).setRow w10.heap.size crAsk.toArray).heap.size := by have := rowrAsk.lt; omega
  clear k1 ho
  replace rowI := rowI.keep kV id
  replace hl := hl.keep kV (fun _ _ h => h)
  replace hI := hI.keep kV (fun _ _ h => h)
  replace kk := kk.trans kV
  replace rowpCall := rowpCall.keep kV id
  replace hpCall := wGCall_lawful.nix hpCall kV
  replace rowrCall := rowrCall.keep kV id
  replace hrCall := rGCall_lawful.nix hrCall kV
  replace rowpCommand := rowpCommand.keep kV id
  replace hpCommand := wGCommand_lawful.nix hpCommand kV
  replace rowrCommand := rowrCommand.keep kV id
  replace hrCommand := rGCommand_lawful.nix hrCommand kV
  replace rowpReply := rowpReply.keep kV id
  replace hpReply := wGReply_lawful.nix hpReply kV
  replace rowrReply := rowrReply.keep kV id
  replace hrReply := rGReply_lawful.nix hrReply kV
  replace rowpCatalog := rowpCatalog.keep kV id
  replace hpCatalog := wGCatalog_lawful.nix hpCatalog kV
  replace rowrCatalog := rowrCatalog.keep kV id
  replace hrCatalog := rGCatalog_lawful.nix hrCatalog kV
  replace rowpAsk := rowpAsk.keep kV id
  replace hpAsk := wGAsk_lawful.nix hpAsk kV
  replace hrAsk := rGAsk_lawful.nix hrAsk kV
  clear kV
  go_wp2_with fail
  clear hst
  go_fit (wawake_c _)
  rintro e v0 ⟨rfl, k1⟩
  have u0 := k1.size
  replace rowI := rowI.keep k1 id
  replace hl := hl.keep k1 (fun _ _ h => h)
  replace hI := hI.keep k1 (fun _ _ h => h)
  replace kk := kk.trans k1
  replace rowpCall := rowpCall.keep k1 id
  replace hpCall := wGCall_lawful.nix hpCall k1
  replace rowrCall := rowrCall.keep k1 id
  replace hrCall := rGCall_lawful.nix hrCall k1
  replace rowpCommand := rowpCommand.keep k1 id
  replace hpCommand := wGCommand_lawful.nix hpCommand k1
  replace rowrCommand := rowrCommand.keep k1 id
  replace hrCommand := rGCommand_lawful.nix hrCommand k1
  replace rowpReply := rowpReply.keep k1 id
  replace hpReply := wGReply_lawful.nix hpReply k1
  replace rowrReply := rowrReply.keep k1 id
  replace hrReply := rGReply_lawful.nix hrReply k1
  replace rowpCatalog := rowpCatalog.keep k1 id
  replace hpCatalog := wGCatalog_lawful.nix hpCatalog k1
  replace rowrCatalog := rowrCatalog.keep k1 id
  replace hrCatalog := rGCatalog_lawful.nix hrCatalog k1
  replace rowpAsk := rowpAsk.keep k1 id
  replace hpAsk := wGAsk_lawful.nix hpAsk k1
  replace rowrAsk := rowrAsk.keep k1 id
  replace hrAsk := rGAsk_lawful.nix hrAsk k1
  have ld1 : (wholeSem 27 (.pointer (some ⟨w1.heap.size, 0, none⟩))).run Tryz.prog v0 = .ok (.value (.agg cpCall.toArray)) v0 := Whole.row S_Call hlpCall.out rowpCall
  have ld2 : (wholeSem 27 (.pointer (some ⟨w2.heap.size, 0, none⟩))).run Tryz.prog v0 = .ok (.value (.agg crCall.toArray)) v0 := Whole.row S_Call hlrCall.out rowrCall
  clear k1
  go_wp2_with fail
  clear ld1 ld2
  go_fit (sCall_c _ _ cpCall crCall (wGCall_to hpCall) hrCall)
  rintro e v1 ⟨rfl, k1⟩
  have u1 := k1.size
  replace rowI := rowI.keep k1 id
  replace hl := hl.keep k1 (fun _ _ h => h)
  replace hI := hI.keep k1 (fun _ _ h => h)
  replace kk := kk.trans k1
  replace rowpCall := rowpCall.keep k1 id
  replace hpCall := wGCall_lawful.nix hpCall k1
  replace rowrCall := rowrCall.keep k1 id
  replace hrCall := rGCall_lawful.nix hrCall k1
  replace rowpCommand := rowpCommand.keep k1 id
  replace hpCommand := wGCommand_lawful.nix hpCommand k1
  replace rowrCommand := rowrCommand.keep k1 id
  replace hrCommand := rGCommand_lawful.nix hrCommand k1
  replace rowpReply := rowpReply.keep k1 id
  replace hpReply := wGReply_lawful.nix hpReply k1
  replace rowrReply := rowrReply.keep k1 id
  replace hrReply := rGReply_lawful.nix hrReply k1
  replace rowpCatalog := rowpCatalog.keep k1 id
  replace hpCatalog := wGCatalog_lawful.nix hpCatalog k1
  replace rowrCatalog := rowrCatalog.keep k1 id
  replace hrCatalog := rGCatalog_lawful.nix hrCatalog k1
  replace rowpAsk := rowpAsk.keep k1 id
  replace hpAsk := wGAsk_lawful.nix hpAsk k1
  replace rowrAsk := rowrAsk.keep k1 id
  replace hrAsk := rGAsk_lawful.nix hrAsk k1
  have ld1 : (wholeSem 43 (.pointer (some ⟨w3.heap.size, 0, none⟩))).run Tryz.prog v1 = .ok (.value (.agg cpCommand.toArray)) v1 := Whole.row S_Command hlpCommand.out rowpCommand
  have ld2 : (wholeSem 43 (.pointer (some ⟨w4.heap.size, 0, none⟩))).run Tryz.prog v1 = .ok (.value (.agg crCommand.toArray)) v1 := Whole.row S_Command hlrCommand.out rowrCommand
  clear k1
  go_wp2_with fail
  clear ld1 ld2
  go_fit (sCommand_c _ _ cpCommand crCommand (wGCommand_to hpCommand) hrCommand)
  rintro e v2 ⟨rfl, k1⟩
  have u2 := k1.size
  replace rowI := rowI.keep k1 id
  replace hl := hl.keep k1 (fun _ _ h => h)
  replace hI := hI.keep k1 (fun _ _ h => h)
  replace kk := kk.trans k1
  replace rowpCall := rowpCall.keep k1 id
  replace hpCall := wGCall_lawful.nix hpCall k1
  replace rowrCall := rowrCall.keep k1 id
  replace hrCall := rGCall_lawful.nix hrCall k1
  replace rowpCommand := rowpCommand.keep k1 id
  replace hpCommand := wGCommand_lawful.nix hpCommand k1
  replace rowrCommand := rowrCommand.keep k1 id
  replace hrCommand := rGCommand_lawful.nix hrCommand k1
  replace rowpReply := rowpReply.keep k1 id
  replace hpReply := wGReply_lawful.nix hpReply k1
  replace rowrReply := rowrReply.keep k1 id
  replace hrReply := rGReply_lawful.nix hrReply k1
  replace rowpCatalog := rowpCatalog.keep k1 id
  replace hpCatalog := wGCatalog_lawful.nix hpCatalog k1
  replace rowrCatalog := rowrCatalog.keep k1 id
  replace hrCatalog := rGCatalog_lawful.nix hrCatalog k1
  replace rowpAsk := rowpAsk.keep k1 id
  replace hpAsk := wGAsk_lawful.nix hpAsk k1
  replace rowrAsk := rowrAsk.keep k1 id
  replace hrAsk := rGAsk_lawful.nix hrAsk k1
  have ld1 : (wholeSem 55 (.pointer (some ⟨w5.heap.size, 0, none⟩))).run Tryz.prog v2 = .ok (.value (.agg cpReply.toArray)) v2 := Whole.row S_Reply hlpReply.out rowpReply
  have ld2 : (wholeSem 55 (.pointer (some ⟨w6.heap.size, 0, none⟩))).run Tryz.prog v2 = .ok (.value (.agg crReply.toArray)) v2 := Whole.row S_Reply hlrReply.out rowrReply
  clear k1
  go_wp2_with fail
  clear ld1 ld2
  go_fit (sReply_c _ _ cpReply crReply (wGReply_to hpReply) hrReply)
  rintro e v3 ⟨rfl, k1⟩
  have u3 := k1.size
  replace rowI := rowI.keep k1 id
  replace hl := hl.keep k1 (fun _ _ h => h)
  replace hI := hI.keep k1 (fun _ _ h => h)
  replace kk := kk.trans k1
  replace rowpCall := rowpCall.keep k1 id
  replace hpCall := wGCall_lawful.nix hpCall k1
  replace rowrCall := rowrCall.keep k1 id
  replace hrCall := rGCall_lawful.nix hrCall k1
  replace rowpCommand := rowpCommand.keep k1 id
  replace hpCommand := wGCommand_lawful.nix hpCommand k1
  replace rowrCommand := rowrCommand.keep k1 id
  replace hrCommand := rGCommand_lawful.nix hrCommand k1
  replace rowpReply := rowpReply.keep k1 id
  replace hpReply := wGReply_lawful.nix hpReply k1
  replace rowrReply := rowrReply.keep k1 id
  replace hrReply := rGReply_lawful.nix hrReply k1
  replace rowpCatalog := rowpCatalog.keep k1 id
  replace hpCatalog := wGCatalog_lawful.nix hpCatalog k1
  replace rowrCatalog := rowrCatalog.keep k1 id
  replace hrCatalog := rGCatalog_lawful.nix hrCatalog k1
  replace rowpAsk := rowpAsk.keep k1 id
  replace hpAsk := wGAsk_lawful.nix hpAsk k1
  replace rowrAsk := rowrAsk.keep k1 id
  replace hrAsk := rGAsk_lawful.nix hrAsk k1
  have ld1 : (wholeSem 50 (.pointer (some ⟨w7.heap.size, 0, none⟩))).run Tryz.prog v3 = .ok (.value (.agg cpCatalog.toArray)) v3 := Whole.row S_Catalog hlpCatalog.out rowpCatalog
  have ld2 : (wholeSem 50 (.pointer (some ⟨w8.heap.size, 0, none⟩))).run Tryz.prog v3 = .ok (.value (.agg crCatalog.toArray)) v3 := Whole.row S_Catalog hlrCatalog.out rowrCatalog
  clear k1
  go_wp2_with fail
  clear ld1 ld2
  go_fit (sCatalog_c _ _ cpCatalog crCatalog (wGCatalog_to hpCatalog) hrCatalog)
  rintro e v4 ⟨rfl, k1⟩
  have u4 := k1.size
  replace rowI := rowI.keep k1 id
  replace hl := hl.keep k1 (fun _ _ h => h)
  replace hI := hI.keep k1 (fun _ _ h => h)
  replace kk := kk.trans k1
  replace rowpCall := rowpCall.keep k1 id
  replace hpCall := wGCall_lawful.nix hpCall k1
  replace rowrCall := rowrCall.keep k1 id
  replace hrCall := rGCall_lawful.nix hrCall k1
  replace rowpCommand := rowpCommand.keep k1 id
  replace hpCommand := wGCommand_lawful.nix hpCommand k1
  replace rowrCommand := rowrCommand.keep k1 id
  replace hrCommand := rGCommand_lawful.nix hrCommand k1
  replace rowpReply := rowpReply.keep k1 id
  replace hpReply := wGReply_lawful.nix hpReply k1
  replace rowrReply := rowrReply.keep k1 id
  replace hrReply := rGReply_lawful.nix hrReply k1
  replace rowpCatalog := rowpCatalog.keep k1 id
  replace hpCatalog := wGCatalog_lawful.nix hpCatalog k1
  replace rowrCatalog := rowrCatalog.keep k1 id
  replace hrCatalog := rGCatalog_lawful.nix hrCatalog k1
  replace rowpAsk := rowpAsk.keep k1 id
  replace hpAsk := wGAsk_lawful.nix hpAsk k1
  replace rowrAsk := rowrAsk.keep k1 id
  replace hrAsk := rGAsk_lawful.nix hrAsk k1
  have ld1 : (wholeSem 62 (.pointer (some ⟨w9.heap.size, 0, none⟩))).run Tryz.prog v4 = .ok (.value (.agg cpAsk.toArray)) v4 := Whole.row S_Ask hlpAsk.out rowpAsk
  have ld2 : (wholeSem 62 (.pointer (some ⟨w10.heap.size, 0, none⟩))).run Tryz.prog v4 = .ok (.value (.agg crAsk.toArray)) v4 := Whole.row S_Ask hlrAsk.out rowrAsk
  clear k1
  go_wp2_with fail
  clear ld1 ld2
  go_fit (sAsk_c _ _ cpAsk crAsk (wGAsk_to hpAsk) hrAsk)
  rintro e v5 ⟨rfl, k1⟩
  have u5 := k1.size
  replace rowI := rowI.keep k1 id
  replace hl := hl.keep k1 (fun _ _ h => h)
  replace hI := hI.keep k1 (fun _ _ h => h)
  replace kk := kk.trans k1
  replace rowpCall := rowpCall.keep k1 id
  replace hpCall := wGCall_lawful.nix hpCall k1
  replace rowrCall := rowrCall.keep k1 id
  replace hrCall := rGCall_lawful.nix hrCall k1
  replace rowpCommand := rowpCommand.keep k1 id
  replace hpCommand := wGCommand_lawful.nix hpCommand k1
  replace rowrCommand := rowrCommand.keep k1 id
  replace hrCommand := rGCommand_lawful.nix hrCommand k1
  replace rowpReply := rowpReply.keep k1 id
  replace hpReply := wGReply_lawful.nix hpReply k1
  replace rowrReply := rowrReply.keep k1 id
  replace hrReply := rGReply_lawful.nix hrReply k1
  replace rowpCatalog := rowpCatalog.keep k1 id
  replace hpCatalog := wGCatalog_lawful.nix hpCatalog k1
  replace rowrCatalog := rowrCatalog.keep k1 id
  replace hrCatalog := rGCatalog_lawful.nix hrCatalog k1
  replace rowpAsk := rowpAsk.keep k1 id
  replace hpAsk := wGAsk_lawful.nix hpAsk k1
  replace rowrAsk := rowrAsk.keep k1 id
  replace hrAsk := rGAsk_lawful.nix hrAsk k1
  clear k1
  obtain ⟨d0, d1, d2, hdc, dq0, dq1, dq2⟩ := hpCall
  obtain ⟨rfl, -⟩ := dq0
  obtain ⟨rfl, -⟩ := dq1
  obtain ⟨aD, cD, rfl, dq3⟩ := rBytesW_open dq2
  obtain ⟨aD2, cD2, de, dq4, -, dq5⟩ := dq3
  simp only [List.cons.injEq, Value.slice.injEq, and_true] at de
  obtain ⟨rfl, -, rfl⟩ := de
  have x2 : v5.cell? ⟨w1.heap.size, 2, none⟩ = some (.slice aD (takeP pGCall zGCall l).1.fData.length cD) := by rw [rowpCall.cell, hdc]; rfl
  have uD := U8s.of dq4
  have nD : (takeP pGCall zGCall l).1.fData.length ≤ maxLen := by have := far_len; omega
  clear dq4 dq2 dq5 hdc
  generalize (takeP pGCall zGCall l).1.fData.length = nDn at x2 uD nD
  obtain ⟨f0, f1, f2, f3, f4, f5, f6, f7, f8, f9, f10, f11, f12, f13, f14, hfc, fq0, fq1, fq2, fq3, fq4, fq5, fq6, fq7, fq8, fq9, -⟩ := hpCommand
  obtain ⟨rfl, -⟩ := fq0
  obtain ⟨rfl, -⟩ := fq1
  obtain ⟨rfl, -⟩ := fq2
  obtain ⟨rfl, -⟩ := fq3
  obtain ⟨rfl, -⟩ := fq4
  obtain ⟨rfl, -⟩ := fq5
  obtain rfl := fq6
  obtain ⟨aK, cK, rfl, fq7'⟩ := rBytesW_open fq7
  obtain ⟨aK2, cK2, fe, fq7', -, fq7l⟩ := fq7'
  simp only [List.cons.injEq, Value.slice.injEq, and_true] at fe
  obtain ⟨rfl, -, rfl⟩ := fe
  have hl8 := wGSpan_lawful.len fq8
  match f8, hl8 with
  | [g0, g1], _ =>
  obtain ⟨aP, cP, rfl, fq9'⟩ := rList_open fq9
  have y7 : v5.cell? ⟨w3.heap.size, 7, none⟩ = some (.slice aK (takeP pGCommand zGCommand l).1.fKey.length cK) := by rw [rowpCommand.cell, hfc]; rfl
  have y10 : v5.cell? ⟨w3.heap.size, 10, none⟩ = some (.slice aP (takeP pGCommand zGCommand l).1.fPairs.length cP) := by rw [rowpCommand.cell, hfc]; rfl
  have uK := U8s.of fq7'
  have nK : (takeP pGCommand zGCommand l).1.fKey.length ≤ maxLen := by have := far_len; omega
  have uP := PairsAt.of fq9'
  have nP : (takeP pGCommand zGCommand l).1.fPairs.length ≤ 9223372036854775807 := by have := (rList_len fq9').2.2; have := far_len; unfold maxLen at this; omega
  clear hfc fq7 fq7' fq8 fq9 fq9' fq7l
  generalize (takeP pGCommand zGCommand l).1.fKey.length = nKn at y7 uK nK
  generalize (takeP pGCommand zGCommand l).1.fPairs.length = nPn at y10 uP nP
  go_wp2_with fail
  go_fit (spoilU_c aD nDn cD _ uD nD)
  rintro e v6 ⟨rfl, b1⟩
  clear x2 uD
  replace rowI := rowI.keep b1.keep (fun h => by have := h.1; omega)
  replace hl := hl.keep b1.keep (fun b hb h => by have := h.1; omega)
  replace kk := kk.then b1.keep (fun i hi h => by have := h.1; omega)
  replace y7 := b1.slice y7
  replace y10 := b1.slice y10
  replace uK := uK.bent b1
  replace uP := uP.bent b1
  clear b1
  go_wp2_with fail
  go_fit (spoilU_c aK nKn cK _ uK nK)
  rintro e v7 ⟨rfl, b2⟩
  clear y7 uK
  replace rowI := rowI.keep b2.keep (fun h => by have := h.1; omega)
  replace hl := hl.keep b2.keep (fun b hb h => by have := h.1; omega)
  replace kk := kk.then b2.keep (fun i hi h => by have := h.1; omega)
  replace y10 := b2.slice y10
  replace uP := uP.bent b2
  clear b2
  go_wp2_with fail
  go_loopw [24, 147] (fun _ i wr => ∃ k : Nat, k ≤ nPn ∧ i = .int .i64 k ∧ Bent (NewIn ((w2.alloc (.cells #[.int .u64 0, .int .u64 0, .slice none 0 0] 27)).setRow w2.heap.size crCall.toArray) w3) v7 wr) (fun _ i _ => nPn - (intOf i).toNat)
  case atStart => exact ⟨0, by omega, rfl, Bent.refl _ _⟩
  case round =>
    obtain ⟨k, hk, rfl, hb⟩ := hrel
    have y10' := hb.slice y10
    by_cases hlt : k < nPn
    · have hi0 : (0 : Int) ≤ (k : Int) := by omega
      have hi1 : (k : Int) < (nPn : Int) := by omega
      obtain ⟨bb, of, rfl, -, -, hz⟩ := (uP.bent hb) (by omega)
      obtain ⟨aZ, nZ, cZ, hz1, hz2, hz3⟩ := hz k hlt
      clear hz uP rowI hl kk y10
      go_wp2_with fail
      go_fit (spoilU_c aZ nZ cZ _ hz2 hz3)
      rintro e v8 ⟨rfl, b3⟩
      have hb2 := hb.trans b3
      clear b3 hb hz1 hz2
      go_wp2
      go_roundw
      case rel => exact ⟨k + 1, by omega, by go_num, hb2⟩
      case measure => simp [intOf]; omega
    · replace rowI := rowI.keep hb.keep (fun h => by have := h.1; omega)
      replace hl := hl.keep hb.keep (fun b hb h => by have := h.1; omega)
      replace kk := kk.then hb.keep (fun i hi h => by have := h.1; omega)
      clear hb y10 uP
      go_wp2_with fail
      go_fit (keptB_c bI a n cap l 71 _ HN.out hl (by omega) rowI)
      rintro e v9 ⟨rfl, k9⟩
      go_wp2
      go_ret
      exact ⟨rfl, kk.trans k9⟩
theorem walk {m0 : Nat} (W : World) (v0 : Value) (h0 : Arg Tryz.prog W m0 22 v0) :
    Calls Tryz.prog 3 #[v0] W fun e w' => e = .returned (.bool true) ∧ Keep Nix W w' := by
  obtain ⟨c, n, cap, rfl, h3⟩ := h0.slice Tryz.underlying22
  obtain ⟨l, hn, hl, -, -, -⟩ := bytes_in Tryz.underlying22 Tryz.underlying5 (by kernel_rfl) (by kernel_rfl) h3
  exact walk' W c n cap l hn hl
end wireTakes
end Go.Proofs.YtabgbleldbapbaaGreat
