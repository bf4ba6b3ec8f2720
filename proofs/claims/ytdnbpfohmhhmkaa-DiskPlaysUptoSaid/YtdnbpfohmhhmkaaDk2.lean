/- DISK: sectors and writes in memory; what a disk is; New, Start, Arm. Printed by mac.py. -/
import Derived.Test.YtdnbpfohmhhmkaaDk1
import Derived.Deep.MidRow
import Derived.Laws.OwnMore
namespace Go.Proofs.Ytdnbpfohmhhmkaa
open Go.RowKit

/-! ### rows of cells taken whole -/
structure AggT (P : Program) (T n : Nat) : Prop where
  under : ∃ d, P.underlying T = some d ∧ d.isRow = true
  info : (P.info? T).map (·.size) = some n
theorem AggT.load {P : Program} {T n : Nat} (A : AggT P T n) {w : World} {b o : Nat} {cs : List Value} (hn : cs.length = n) (h : w.rangeAt b o cs) : (wholeSem T (.pointer (some ⟨b, o, none⟩))).run P w = .ok (.value (.agg cs.toArray)) w := by
  obtain ⟨d, h1, h2⟩ := A.under
  have := run_loadAt_mid (P := P) w b o T cs d h h1 h2 (by rw [hn]; exact A.info)
  unfold wholeSem
  simp [this]
theorem AggT.store {P : Program} {T n : Nat} (A : AggT P T n) {w : World} {b o : Nat} {cs : List Value} (hn : cs.length = n) (ht : w.there b o n) (h1 : ones cs = true) : (storeSem T (.pointer (some ⟨b, o, none⟩)) (.agg cs.toArray)).run P w = .ok .skip (w.setCells b o cs) := by
  have := run_storeAt_mid (P := P) w b o T cs.toArray (by simpa [hn] using ht) (by simpa [hn] using A.info) (by simpa [ones] using h1)
  unfold storeSem
  simp [this]
theorem A_sector : AggT Try.prog 65 64 := ⟨⟨_, Try.underlying65, rfl⟩, by kernel_rfl⟩
theorem A_write : AggT Try.prog 67 65 := ⟨⟨_, Try.underlying67, rfl⟩, by kernel_rfl⟩
theorem ldz_sector (a : Act) (dst : Option Tmp) (x : Operand) (ty : TypeId) (pos : String) (after : Array Edge) (guard : Option (Nat × Bool)) : execOp a.eval { dst := dst, op := .load 65 x, type := ty, pos := pos, after := after, guard := guard } = wholeSem 65 (a.eval x) := rfl
theorem stz_sector (a : Act) (dst : Option Tmp) (x y : Operand) (ty : TypeId) (pos : String) (after : Array Edge) (guard : Option (Nat × Bool)) : execOp a.eval { dst := dst, op := .store 65 x y, type := ty, pos := pos, after := after, guard := guard } = storeSem 65 (a.eval x) (a.eval y) := rfl
theorem ldz_write (a : Act) (dst : Option Tmp) (x : Operand) (ty : TypeId) (pos : String) (after : Array Edge) (guard : Option (Nat × Bool)) : execOp a.eval { dst := dst, op := .load 67 x, type := ty, pos := pos, after := after, guard := guard } = wholeSem 67 (a.eval x) := rfl
theorem stz_write (a : Act) (dst : Option Tmp) (x y : Operand) (ty : TypeId) (pos : String) (after : Array Edge) (guard : Option (Nat × Bool)) : execOp a.eval { dst := dst, op := .store 67 x y, type := ty, pos := pos, after := after, guard := guard } = storeSem 67 (a.eval x) (a.eval y) := rfl
theorem bdz_write (a : Act) (dst : Option Tmp) (parts : Array (Nat × Operand)) (ty : TypeId) (pos : String) (after : Array Edge) (guard : Option (Nat × Bool)) : execOp a.eval { dst := dst, op := .build 67 parts, type := ty, pos := pos, after := after, guard := guard } = buildSem 67 (parts.map fun x => (x.1, a.eval x.2)) := rfl
theorem lsz_write (a : Act) (dst : Option Tmp) (parts : Array (Nat × Operand)) (ty : TypeId) (pos : String) (after : Array Edge) (guard : Option (Nat × Bool)) : execOp a.eval { dst := dst, op := .buildSlice 60 1 parts, type := ty, pos := pos, after := after, guard := guard } = listSem 60 1 (parts.map fun x => (x.1, a.eval x.2)) := rfl

/-! ### what a disk is -/
def secs (S : List (List UInt8)) : List Value := (S.map (·.map bv)).flatten
def wcells (q : Int × List UInt8) : List Value := .int .i64 q.1 :: q.2.map bv
def wrts (Q : List (Int × List UInt8)) : List Value := (Q.map wcells).flatten
structure DiskOk (S : List (List UInt8)) (Q : List (Int × List UInt8)) (ar : Int) : Prop where
  s64 : ∀ b ∈ S, b.length = 64
  q64 : ∀ q ∈ Q, q.2.length = 64 ∧ 0 ≤ q.1 ∧ q.1 < S.length
  n : S.length ≤ 65536
  a0 : 0 ≤ ar
  a1 : ar ≤ 9223372036854775807
/-- A disk of the program's, in blocks of p. -/
def IsDisk (w : World) (p : Nat → Prop) (g : Nat) (S : List (List UInt8)) (Q : List (Int × List UInt8)) (dn : Bool) (ar : Int) : Prop :=
  ∃ (aS : Option Addr) (cS : Nat) (aQ : Option Addr) (cQ : Nat), RowIs w g 62 [.slice aS S.length cS, .slice aQ Q.length cQ, .bool dn, .int .i64 ar] ∧ w.ownsRow 0 65 64 (.slice aS S.length cS) S.length (secs S) ∧ w.ownsRow 0 67 65 (.slice aQ Q.length cQ) Q.length (wrts Q) ∧
    p g ∧ (∀ b, OwnB (.slice aS S.length cS) b → p b ∧ b ≠ g) ∧ (∀ b, OwnB (.slice aQ Q.length cQ) b → p b ∧ b ≠ g ∧ ¬ OwnB (.slice aS S.length cS) b)
theorem IsDisk.mono {w : World} {p q : Nat → Prop} {g : Nat} {S : List (List UInt8)} {Q : List (Int × List UInt8)} {dn : Bool} {ar : Int} (h : IsDisk w p g S Q dn ar) (hq : ∀ b, p b → q b) : IsDisk w q g S Q dn ar := by
  obtain ⟨aS, cS, aQ, cQ, h1, h2, h3, h4, h5, h6⟩ := h
  exact ⟨aS, cS, aQ, cQ, h1, h2, h3, hq g h4, fun b hb => ⟨hq b (h5 b hb).1, (h5 b hb).2⟩, fun b hb => ⟨hq b (h6 b hb).1, (h6 b hb).2⟩⟩
theorem IsDisk.keep {S' : Nat → Prop} {w w' : World} {p : Nat → Prop} {g : Nat} {S : List (List UInt8)} {Q : List (Int × List UInt8)} {dn : Bool} {ar : Int} (h : IsDisk w p g S Q dn ar) (k : Keep S' w w') (hs : ∀ b, p b → ¬ S' b) : IsDisk w' p g S Q dn ar := by
  obtain ⟨aS, cS, aQ, cQ, h1, h2, h3, h4, h5, h6⟩ := h
  exact ⟨aS, cS, aQ, cQ, h1.keep k (hs g h4), owned_keep h2 k (fun b hb => hs b (h5 b hb).1), owned_keep h3 k (fun b hb => hs b (h6 b hb).1), h4, h5, h6⟩
theorem secs_len {S : List (List UInt8)} (h : ∀ b ∈ S, b.length = 64) : (secs S).length = S.length * 64 := by
  unfold secs
  induction S with
  | nil => rfl
  | cons b S ih =>
    rw [List.map_cons, List.flatten_cons, List.length_append, ih (fun c hc => h c (List.mem_cons_of_mem _ hc)), List.length_map, h b (by simp), List.length_cons]; omega
/-- What New makes. -/
theorem made_zero (n : Nat) : (madeCells (List.replicate 64 (bv 0)).toArray (n * 64)).toList = secs (List.replicate n (List.replicate 64 0)) := by
  have h2 : secs (List.replicate n (List.replicate 64 0)) = List.replicate (n * 64) (bv 0) := by
    unfold secs
    rw [List.map_replicate, List.map_replicate, List.flatten_replicate_replicate]
  rw [h2]
  apply List.ext_getElem?
  intro j
  by_cases hj : j < n * 64
  · have h64 : j % 64 < 64 := Nat.mod_lt _ (by decide)
    have hg : ∀ z : List Value, z.length = 64 → (∀ i (h : i < z.length), z[i] = bv 0) → z.toArray[j % 64]! = bv 0 := fun z hz ha => by
      have hlt : j % 64 < z.toArray.size := by simpa [hz] using h64
      rw [getElem!_pos z.toArray _ hlt]
      exact ha _ _
    have hg := hg (List.replicate 64 (bv 0)) List.length_replicate (fun i h => List.getElem_replicate _)
    simpa [madeCells, hj] using hg
  · simp [madeCells, hj]
section
set_option maxRecDepth 100000
theorem arm_c (g : Nat) (s1 s2 s3 s4 : Value) (n : Int) (w : World) (row : RowIs w g 62 [s1, s2, s3, s4]) : Calls Try.prog 21 #[.pointer (some ⟨g, 0, none⟩), .int .i64 n] w fun e w' => e = .returned (.int .i64 0) ∧ RowIs w' g 62 [s1, s2, s3, .int .i64 (max n 0)] ∧ Keep (· = g) w w' := by
  have x3 := row.cell 3
  (try simp only [List.getElem?_cons_succ] at x3); (try simp only [List.getElem?_cons_zero] at x3)
  have f3 := row.frozen 3
  rcases Int.lt_or_le n 0 with h | h
  · have HR := Lib.hid (row.set 3 (.int .i64 0))
    have HK : Hid (Keep (· = g) w (w.setCell ⟨g, 3, none⟩ (.int .i64 0))) := (Keep.refl (· = g) w).setCell (fun _ => rfl) _
    have hm : Hid (max n 0 = 0) := by show max n 0 = 0; omega
    clear row
    go_enter Try.func21, Try.ntmps21
    go_wp2
    go_ret
    rw [hm.out]
    exact ⟨rfl, HR.out, HK.out⟩
  · have HR := Lib.hid (row.set 3 (.int .i64 n))
    have HK : Hid (Keep (· = g) w (w.setCell ⟨g, 3, none⟩ (.int .i64 n))) := (Keep.refl (· = g) w).setCell (fun _ => rfl) _
    have hm : Hid (max n 0 = n) := by show max n 0 = n; omega
    clear row
    go_enter Try.func21, Try.ntmps21
    go_wp2
    go_ret
    rw [hm.out]
    exact ⟨rfl, HR.out, HK.out⟩
theorem start_c (g : Nat) (s1 s2 s4 : Value) (dn : Bool) (w : World) (row : RowIs w g 62 [s1, s2, .bool dn, s4]) : Calls Try.prog 14 #[.pointer (some ⟨g, 0, none⟩)] w fun e w' => e = .returned (.int .i64 0) ∧ RowIs w' g 62 [s1, if dn then .slice none 0 0 else s2, .bool false, .int .i64 0] ∧ Keep (· = g) w w' := by
  have x3 := row.cell 3
  (try simp only [List.getElem?_cons_succ] at x3); (try simp only [List.getElem?_cons_zero] at x3)
  have f3 := row.frozen 3
  have row1 : RowIs (w.setCell ⟨g, 3, none⟩ (.int .i64 0)) g 62 [s1, s2, .bool dn, .int .i64 0] := row.set 3 _
  have k1 : Keep (· = g) w (w.setCell ⟨g, 3, none⟩ (.int .i64 0)) := (Keep.refl (· = g) w).setCell (fun _ => rfl) _
  have y2 := row1.cell 2
  (try simp only [List.getElem?_cons_succ] at y2); (try simp only [List.getElem?_cons_zero] at y2)
  have g2 := row1.frozen 2
  cases dn with
  | false =>
    have HR := Lib.hid row1
    have HK := Lib.hid k1
    clear row row1 k1
    go_enter Try.func14, Try.ntmps14
    go_wp2
    go_ret
    exact ⟨rfl, HR.out, HK.out⟩
  | true =>
    have row2 : RowIs ((w.setCell ⟨g, 3, none⟩ (.int .i64 0)).setCell ⟨g, 2, none⟩ (.bool false)) g 62 [s1, s2, .bool false, .int .i64 0] := row1.set 2 _
    have z1 := row2.cell 1
    (try simp only [List.getElem?_cons_succ] at z1); (try simp only [List.getElem?_cons_zero] at z1)
    have h1 := row2.frozen 1
    have HR := Lib.hid (row2.set 1 (.slice none 0 0))
    have HK : Hid (Keep (· = g) w (((w.setCell ⟨g, 3, none⟩ (.int .i64 0)).setCell ⟨g, 2, none⟩ (.bool false)).setCell ⟨g, 1, none⟩ (.slice none 0 0))) := (k1.setCell (fun _ => rfl) _).setCell (fun _ => rfl) _
    clear row row1 row2 k1
    go_enter Try.func14, Try.ntmps14
    go_wp2
    go_ret
    exact ⟨rfl, HR.out, HK.out⟩
end
end Go.Proofs.Ytdnbpfohmhhmkaa
