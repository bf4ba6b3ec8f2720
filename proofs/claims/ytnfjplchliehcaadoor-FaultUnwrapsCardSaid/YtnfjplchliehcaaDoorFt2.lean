/- FAULTS: texts. Printed by mac.py (the rows by mkFt2.py). -/
import Derived.Test.YtnfjplchliehcaaDoorFt1
import Derived.BigQuiet
import Derived.Deep.MidRow
namespace Go.Proofs.YtnfjplchliehcaaDoor
open Go.RowKit Go.Extern.Stop Go.Stop Go.Extern

structure AggT (P : Program) (T n : Nat) : Prop where
  under : ∃ d, P.underlying T = some d ∧ d.isRow = true
  info : (P.info? T).map (·.size) = some n
theorem AggT.load {P : Program} {T n : Nat} (A : AggT P T n) {w : World} {b o : Nat} {cs : List Value} (hn : cs.length = n) (h : w.rangeAt b o cs) : (wholeSem T (.pointer (some ⟨b, o, none⟩))).run P w = .ok (.value (.agg cs.toArray)) w := by
  obtain ⟨d, h1, h2⟩ := A.under
  have := run_loadAt_mid (P := P) w b o T cs d h h1 h2 (by rw [hn]; exact A.info)
  unfold wholeSem
  simp [this]
theorem AggT.store {P : Program} {T n : Nat} (A : AggT P T n) {w : World} {b o : Nat} {cs : List Value} (hn : cs.length = n) (ht : w.there b o n) (h1 : ones cs = true) : (storeSem T (.pointer (some ⟨b, o, none⟩)) (.agg cs.toArray)).run P w = .ok .skip (w.setCells b o cs) := by
  have := run_storeAt_mid (P := P) w b o T cs.toArray (by simpa [hn] using ht) (by simpa [hn] using A.info) (by simpa [ones] using h1)
  unfold storeSem
  simp [this]
theorem AggT.rowStore {P : Program} {T n : Nat} (A : AggT P T n) {w : World} {T' b : Nat} {old cs : List Value} (hr : RowIs w b T' old) (ho : old.length = n) (hn : cs.length = n) (h1 : ones cs = true) :
    (storeSem T (.pointer (some ⟨b, 0, none⟩)) (.agg cs.toArray)).run P w = .ok .skip (w.setRow b cs.toArray) := by
  have := run_storeVar_row (P := P) w b T' T old.toArray cs.toArray hr (by simpa [hn] using A.info) (by simp; omega) (by simpa [ones] using h1)
  unfold storeSem
  simp [Instr.storeAt, Instr.sureAddr, this]
theorem AggT.rowLoad {P : Program} {T n : Nat} (A : AggT P T n) {w : World} {T' b : Nat} {cs : List Value} (hr : RowIs w b T' cs) (hn : cs.length = n) : (wholeSem T (.pointer (some ⟨b, 0, none⟩))).run P w = .ok (.value (.agg cs.toArray)) w :=
  A.load hn fun j v hv => by rw [Nat.zero_add, hr.cell]; exact hv
theorem AggT.boxed {P : Program} {T n : Nat} {zs cs : List Value} (A : AggT P T n) (w : World) (hz : zs.length = n) (hc : cs.length = n) (ho : ones cs = true) :
    (storeSem T (.pointer (some ⟨w.heap.size, 0, none⟩)) (.agg cs.toArray)).run P (w.alloc (.cells zs.toArray T)) = .ok .skip ((w.alloc (.cells zs.toArray T)).setRow w.heap.size cs.toArray) ∧ RowIs ((w.alloc (.cells zs.toArray T)).setRow w.heap.size cs.toArray) w.heap.size T cs ∧ Keep Nix w ((w.alloc (.cells zs.toArray T)).setRow w.heap.size cs.toArray) :=
  ⟨A.rowStore (RowIs.alloc w _ _) (by simpa using hz) hc ho, (RowIs.alloc w _ _).setRow cs, ((Keep.refl Nix w).alloc _).setRow (fun h => absurd h (Nat.lt_irrefl _)) _⟩

theorem A_names : AggT Tryd.prog 88 22 := ⟨⟨_, Tryd.underlying88, rfl⟩, by kernel_rfl⟩
theorem stz_names (a : Act) (dst : Option Tmp) (x y : Operand) (ty : TypeId) (pos : String) (after : Array Edge) (guard : Option (Nat × Bool)) : execOp a.eval { dst := dst, op := .store 88 x y, type := ty, pos := pos, after := after, guard := guard } = storeSem 88 (a.eval x) (a.eval y) := rfl
theorem bdz_names (a : Act) (dst : Option Tmp) (parts : Array (Nat × Operand)) (ty : TypeId) (pos : String) (after : Array Edge) (guard : Option (Nat × Bool)) : execOp a.eval { dst := dst, op := .build 88 parts, type := ty, pos := pos, after := after, guard := guard } = buildSem 88 (parts.map fun x => (x.1, a.eval x.2)) := rfl
def NSL : List Value := nameL.map fun s => .string (strB s)
def zN : List Value := List.replicate 22 (.string ⟨#[]⟩)
theorem names_run (w : World) : (buildSem 88 #[(0, Value.string ⟨#[111, 107]⟩), (1, Value.string ⟨#[97, 114, 103, 117, 109, 101, 110, 116]⟩), (2, Value.string ⟨#[110, 105, 108]⟩), (3, Value.string ⟨#[100, 111, 119, 110]⟩), (4, Value.string ⟨#[102, 117, 108, 108]⟩), (5, Value.string ⟨#[110, 111, 110, 101]⟩), (6, Value.string ⟨#[116, 119, 105, 99, 101]⟩), (7, Value.string ⟨#[115, 116, 97, 116, 101]⟩), (8, Value.string ⟨#[115, 104, 111, 114, 116]⟩), (9, Value.string ⟨#[102, 111, 114, 109]⟩), (10, Value.string ⟨#[108, 111, 110, 103]⟩), (11, Value.string ⟨#[98, 97, 100]⟩), (12, Value.string ⟨#[108, 111, 99, 107, 101, 100]⟩), (13, Value.string ⟨#[99, 104, 97, 110, 103, 101, 100]⟩), (14, Value.string ⟨#[114, 97, 110, 103, 101]⟩), (15, Value.string ⟨#[101, 112, 111, 99, 104]⟩), (16, Value.string ⟨#[97, 98, 111, 114, 116, 101, 100]⟩), (17, Value.string ⟨#[117, 110, 105, 113, 117, 101]⟩), (18, Value.string ⟨#[110, 111, 32, 105, 110, 100, 101, 120]⟩), (19, Value.string ⟨#[108, 101, 97, 100, 101, 114]⟩), (20, Value.string ⟨#[119, 97, 105, 116]⟩), (21, Value.string ⟨#[118, 101, 114, 115, 105, 111, 110]⟩)]).run Tryd.prog w = .ok (.value (.agg NSL.toArray)) w := by kernel_rfl
theorem names_one : ones NSL = true := by decide
theorem names_len : NSL.length = 22 := by decide
theorem names_at (k : Nat) (h : k < 22) : NSL[k]? = some (.string (strB (nameS (k : Int)))) := by
  unfold NSL nameS
  rw [if_pos (by omega), Int.toNat_natCast, List.getElem?_map, List.getD_eq_getElem?_getD, List.getElem?_eq_getElem (by exact h)]; rfl
section
attribute [local go_sem ↓] stz_names bdz_names
set_option maxRecDepth 100000 in
set_option maxHeartbeats 4000000 in
theorem errno_c (c : Int) (w : World) : Calls Tryd.prog 30 #[.int .i64 c] w fun e w' => e = .returned (.string (strB (nameS c))) ∧ Keep Nix w w' := by
  have hbd := names_run
  have hz : ∀ w' : World, (zeroValue 88).run Tryd.prog w' = .ok (.agg zN.toArray) w' := fun w' => by kernel_rfl
  obtain ⟨hst, row, kk⟩ := A_names.boxed (zs := zN) w rfl names_len names_one
  have ways : c < 0 ∨ (0 ≤ c ∧ 22 ≤ c) ∨ (0 ≤ c ∧ c < 22) := by omega
  rcases ways with h | ⟨h, h'⟩ | ⟨h, h'⟩
  · have HN : Hid (nameS c = [117, 110, 107, 110, 111, 119, 110]) := (by show nameS c = _; unfold nameS; rw [if_neg (by omega)])
    generalize NSL = NS at *
    go_enter Tryd.func30, Tryd.ntmps30
    go_wp2
    go_ret
    rw [HN.out]
    exact ⟨rfl, kk⟩
  · have HN : Hid (nameS c = [117, 110, 107, 110, 111, 119, 110]) := (by show nameS c = _; unfold nameS; rw [if_neg (by omega)])
    generalize NSL = NS at *
    go_enter Tryd.func30, Tryd.ntmps30
    go_wp2
    go_ret
    rw [HN.out]
    exact ⟨rfl, kk⟩
  · obtain ⟨k, rfl⟩ : ∃ k : Nat, c = (k : Int) := ⟨c.toNat, by omega⟩
    have x0 := (row.cell k).trans (names_at k (by omega))
    generalize nameS (k : Int) = s at *
    generalize NSL = NS at *
    go_enter Tryd.func30, Tryd.ntmps30
    go_wp2
    go_ret
    exact ⟨rfl, kk⟩
end
end Go.Proofs.YtnfjplchliehcaaDoor
