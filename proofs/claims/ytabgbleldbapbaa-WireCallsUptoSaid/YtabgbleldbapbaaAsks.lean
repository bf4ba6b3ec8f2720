/- THE LAW WireAsks, walked. -/
import Derived.Test.YtabgbleldbapbaaOutC
import Derived.Test.YtabgbleldbapbaaOutD
import Derived.Test.YtabgbleldbapbaaHelp
import Derived.Deep.RegionHeld3
import Derived.Lib.SlBytesConst
namespace Go.Proofs.Ytabgbleldbapbaa
open Go.RowKit

theorem bytesT_c {p q : Nat → Prop} (a b : Option Addr) (n ca m cb : Nat) (l : List UInt8) (w : World) (hn : l.length = n) (hm : l.length = m) (ha : Lies w p a (l.map bv)) (hb : Lies w q b (l.map bv)) :
    Calls Try.prog 7 #[.slice a n ca, .slice b m cb] w fun e w' => e = .returned (.bool true) ∧ w = w' :=
  (bytes_c a b n ca m cb l l w hn hm ha hb).mono fun e w' ⟨he, hw⟩ => ⟨by rw [he]; simp, hw⟩
theorem Lies.mark (w : World) (cs : Array Value) (t : TypeId) (m : Nat × Nat) (p : Nat → Prop) (hp : p w.heap.size) : Lies (w.alloc (.cells cs t m)) p (some ⟨w.heap.size, 0, none⟩) cs.toList :=
  fun _ => ⟨w.heap.size, 0, rfl, hp, by simp, fun j u hu => (cell_of_row _ w.heap.size _ cs t m (heap_alloc_new _ _)).trans (by rw [Nat.zero_add]; simpa using hu)⟩
set_option maxRecDepth 100000 in
theorem wawake_c (w : World) : Calls Try.prog 6 #[] w fun e w' => e = .returned (.bool true) ∧ Keep Nix w w' := by
  have kc := fun (w : World) (C : Array Value) (n c : Nat) => Lib.run_convert_bytes_const (P := Try.prog) w 33 5 C n c Try.underlying33 Try.underlying5
  go_enter Try.func6, Try.ntmps6
  go_wp2_with fail
  have hx : rGCall (w.alloc (.cells #[.int .u8 97] 5 (1, 2))) (fun b => b = w.heap.size) [.int .u64 1, .int .u64 2, .slice (some ⟨w.heap.size, 0, none⟩) 1 1] ⟨1, 2, [97]⟩ :=
    ⟨[_], [_], [_], rfl, ⟨rfl, rfl⟩, ⟨rfl, rfl⟩, some ⟨w.heap.size, 0, none⟩, 1, rfl, Lies.mark w #[.int .u8 97] _ _ _ rfl, by decide, by decide⟩
  have hlen : (encGCall ⟨1, 2, [97]⟩).length ≤ far := by decide +kernel
  go_fit (wTCall_c _ (fun b => b = w.heap.size) (fun b hb => by simp; omega) ⟨1, 2, [97]⟩ _ hx hlen)
  rintro e w1 ⟨a, cap, rfl, own, k⟩
  have ee : encGCall ⟨1, 2, [97]⟩ = [1, 2, 1, 97] := by decide +kernel
  rw [ee] at own ⊢
  obtain ⟨b, rfl, _, _, hc⟩ := cells_of_owned own (by simp)
  have c0 := hc 0 _ rfl
  have c1 := hc 1 _ rfl
  have c2 := hc 2 _ rfl
  have c3 := hc 3 _ rfl
  have kk : Keep Nix w w1 := ((Keep.refl Nix w).alloc _).trans k
  clear hc own ee hx k
  simp only [bv] at c0 c1 c2 c3
  go_wp2
  go_ret
  exact ⟨rfl, kk⟩
namespace wireAsks
theorem rowS {w : World} {b0 : Nat} {b1 : Nat} {c : GCatalog} {a : GAsk} {acTables : Option Addr} {ccTables : Nat} {acIndexes : Option Addr} {ccIndexes : Nat} {aaOps : Option Addr} {caOps : Nat} {aaTableColumns : Option Addr} {caTableColumns : Nat} {aaTableKey : Option Addr} {caTableKey : Nat} {aaIndexColumns : Option Addr} {caIndexColumns : Nat} {aaKey : Option Addr} {caKey : Nat} (r0 : RowIs w b0 25 [.int .i64 c.fVersion, .int .i64 c.fNext, .slice acTables c.fTables.length ccTables, .slice acIndexes c.fIndexes.length ccIndexes]) (r1 : RowIs w b1 35 [.int .i64 a.fKind, .slice aaOps a.fOps.length caOps, .int .i64 a.fTable.fID, .string (strB a.fTable.fName), .slice aaTableColumns a.fTable.fColumns.length caTableColumns, .slice aaTableKey a.fTable.fKey.length caTableKey, .int .i64 a.fIndex.fID, .int .i64 a.fIndex.fTable, .string (strB a.fIndex.fName), .slice aaIndexColumns a.fIndex.fColumns.length caIndexColumns, .bool a.fIndex.fUnique, .int .i64 a.fIndex.fState, .bool a.fIndex.fBad, .string (strB a.fName), .int .i64 a.fN, .slice aaKey a.fKey.length caKey]) : w.cell? ⟨b0, 0, none⟩ = some (.int .i64 c.fVersion) ∧ w.cell? ⟨b0, 1, none⟩ = some (.int .i64 c.fNext) ∧ w.cell? ⟨b0, 2, none⟩ = some (.slice acTables c.fTables.length ccTables) ∧ w.cell? ⟨b0, 3, none⟩ = some (.slice acIndexes c.fIndexes.length ccIndexes) ∧ w.cell? ⟨b1, 0, none⟩ = some (.int .i64 a.fKind) ∧ w.cell? ⟨b1, 1, none⟩ = some (.slice aaOps a.fOps.length caOps) ∧ w.cell? ⟨b1, 2, none⟩ = some (.int .i64 a.fTable.fID) ∧ w.cell? ⟨b1, 3, none⟩ = some (.string (strB a.fTable.fName)) ∧ w.cell? ⟨b1, 4, none⟩ = some (.slice aaTableColumns a.fTable.fColumns.length caTableColumns) ∧ w.cell? ⟨b1, 5, none⟩ = some (.slice aaTableKey a.fTable.fKey.length caTableKey) ∧ w.cell? ⟨b1, 6, none⟩ = some (.int .i64 a.fIndex.fID) ∧ w.cell? ⟨b1, 7, none⟩ = some (.int .i64 a.fIndex.fTable) ∧ w.cell? ⟨b1, 8, none⟩ = some (.string (strB a.fIndex.fName)) ∧ w.cell? ⟨b1, 9, none⟩ = some (.slice aaIndexColumns a.fIndex.fColumns.length caIndexColumns) ∧ w.cell? ⟨b1, 10, none⟩ = some (.bool a.fIndex.fUnique) ∧ w.cell? ⟨b1, 11, none⟩ = some (.int .i64 a.fIndex.fState) ∧ w.cell? ⟨b1, 12, none⟩ = some (.bool a.fIndex.fBad) ∧ w.cell? ⟨b1, 13, none⟩ = some (.string (strB a.fName)) ∧ w.cell? ⟨b1, 14, none⟩ = some (.int .i64 a.fN) ∧ w.cell? ⟨b1, 15, none⟩ = some (.slice aaKey a.fKey.length caKey) := ⟨r0.cell 0, r0.cell 1, r0.cell 2, r0.cell 3, r1.cell 0, r1.cell 1, r1.cell 2, r1.cell 3, r1.cell 4, r1.cell 5, r1.cell 6, r1.cell 7, r1.cell 8, r1.cell 9, r1.cell 10, r1.cell 11, r1.cell 12, r1.cell 13, r1.cell 14, r1.cell 15⟩
set_option maxRecDepth 100000 in
set_option maxHeartbeats 16000000 in
theorem walk' (W : World) (c : GCatalog) (csc : List Value) (hc : rGCatalog W (· < W.heap.size) csc c) (hbc : (encGCatalog c).length ≤ far) (a : GAsk) (csa : List Value) (ha : rGAsk W (· < W.heap.size) csa a) (hba : (encGAsk a).length ≤ far) :
    Calls Try.prog 3 #[.agg csc.toArray, .agg csa.toArray] W fun e w' => e = .returned (.bool true) ∧ Keep Nix W w' := by
  have gc := hc
  obtain ⟨acTables, ccTables, acIndexes, ccIndexes, rfl, z0, z1, z2, z3, -⟩ := rGCatalog_open hc
  have ncTables : c.fTables.length ≤ 140737488351232 := by have := (rList_len z2).2.2; have := far_len; omega
  have ncIndexes : c.fIndexes.length ≤ 140737488351232 := by have := (rList_len z3).2.2; have := far_len; omega
  clear hc z0 z1 z2 z3
  have ga := ha
  obtain ⟨aaOps, caOps, aaTableColumns, caTableColumns, aaTableKey, caTableKey, aaIndexColumns, caIndexColumns, aaKey, caKey, rfl, z0, z1, z2, z3, z4, z5, z6, -⟩ := rGAsk_open ha
  have naOps : a.fOps.length ≤ 140737488351232 := by have := (rList_len z1).2.2; have := far_len; omega
  clear ha z0 z1 z2 z3 z4 z5 z6
  have row0 : RowIs ((W.alloc (.cells #[.int .i64 c.fVersion, .int .i64 c.fNext, .slice acTables c.fTables.length ccTables, .slice acIndexes c.fIndexes.length ccIndexes] 25)).alloc (.cells #[.int .i64 a.fKind, .slice aaOps a.fOps.length caOps, .int .i64 a.fTable.fID, .string (strB a.fTable.fName), .slice aaTableColumns a.fTable.fColumns.length caTableColumns, .slice aaTableKey a.fTable.fKey.length caTableKey, .int .i64 a.fIndex.fID, .int .i64 a.fIndex.fTable, .string (strB a.fIndex.fName), .slice aaIndexColumns a.fIndex.fColumns.length caIndexColumns, .bool a.fIndex.fUnique, .int .i64 a.fIndex.fState, .bool a.fIndex.fBad, .string (strB a.fName), .int .i64 a.fN, .slice aaKey a.fKey.length caKey] 35)) (W.heap.size) 25 [.int .i64 c.fVersion, .int .i64 c.fNext, .slice acTables c.fTables.length ccTables, .slice acIndexes c.fIndexes.length ccIndexes] := by
    exact (RowIs.alloc W _ _).keep ((Keep.refl Nix _).alloc _) id
  have row1 : RowIs ((W.alloc (.cells #[.int .i64 c.fVersion, .int .i64 c.fNext, .slice acTables c.fTables.length ccTables, .slice acIndexes c.fIndexes.length ccIndexes] 25)).alloc (.cells #[.int .i64 a.fKind, .slice aaOps a.fOps.length caOps, .int .i64 a.fTable.fID, .string (strB a.fTable.fName), .slice aaTableColumns a.fTable.fColumns.length caTableColumns, .slice aaTableKey a.fTable.fKey.length caTableKey, .int .i64 a.fIndex.fID, .int .i64 a.fIndex.fTable, .string (strB a.fIndex.fName), .slice aaIndexColumns a.fIndex.fColumns.length caIndexColumns, .bool a.fIndex.fUnique, .int .i64 a.fIndex.fState, .bool a.fIndex.fBad, .string (strB a.fName), .int .i64 a.fN, .slice aaKey a.fKey.length caKey] 35)) (W.heap.size + 1) 35 [.int .i64 a.fKind, .slice aaOps a.fOps.length caOps, .int .i64 a.fTable.fID, .string (strB a.fTable.fName), .slice aaTableColumns a.fTable.fColumns.length caTableColumns, .slice aaTableKey a.fTable.fKey.length caTableKey, .int .i64 a.fIndex.fID, .int .i64 a.fIndex.fTable, .string (strB a.fIndex.fName), .slice aaIndexColumns a.fIndex.fColumns.length caIndexColumns, .bool a.fIndex.fUnique, .int .i64 a.fIndex.fState, .bool a.fIndex.fBad, .string (strB a.fName), .int .i64 a.fN, .slice aaKey a.fKey.length caKey] := by
    have hsz : (W.alloc (.cells #[.int .i64 c.fVersion, .int .i64 c.fNext, .slice acTables c.fTables.length ccTables, .slice acIndexes c.fIndexes.length ccIndexes] 25)).heap.size = W.heap.size + 1 := by simp
    rw [← hsz]
    exact RowIs.alloc (W.alloc (.cells #[.int .i64 c.fVersion, .int .i64 c.fNext, .slice acTables c.fTables.length ccTables, .slice acIndexes c.fIndexes.length ccIndexes] 25)) _ _
  have kk : Keep Nix W ((W.alloc (.cells #[.int .i64 c.fVersion, .int .i64 c.fNext, .slice acTables c.fTables.length ccTables, .slice acIndexes c.fIndexes.length ccIndexes] 25)).alloc (.cells #[.int .i64 a.fKind, .slice aaOps a.fOps.length caOps, .int .i64 a.fTable.fID, .string (strB a.fTable.fName), .slice aaTableColumns a.fTable.fColumns.length caTableColumns, .slice aaTableKey a.fTable.fKey.length caTableKey, .int .i64 a.fIndex.fID, .int .i64 a.fIndex.fTable, .string (strB a.fIndex.fName), .slice aaIndexColumns a.fIndex.fColumns.length caIndexColumns, .bool a.fIndex.fUnique, .int .i64 a.fIndex.fState, .bool a.fIndex.fBad, .string (strB a.fName), .int .i64 a.fN, .slice aaKey a.fKey.length caKey] 35)) := ((Keep.refl Nix W).alloc _).alloc _
  replace gc := (rGCatalog_lawful.nix gc kk)
  replace ga := (rGAsk_lawful.nix ga kk)
  have HP : Hid (∀ b, b < W.heap.size → b < W.heap.size) := fun _ h => h
  go_enter Try.func3, Try.ntmps3
  go_wp2_with fail
  all_goals first
    | (go_fit (wawake_c _); rintro e w1 ⟨rfl, k1⟩; go_wp2; go_ret; exact ⟨rfl, kk.trans k1⟩)
    | skip
  · replace kk := kk.drew
    replace row0 := row0.same (w' := (((W.alloc (.cells #[.int .i64 c.fVersion, .int .i64 c.fNext, .slice acTables c.fTables.length ccTables, .slice acIndexes c.fIndexes.length ccIndexes] 25)).alloc (.cells #[.int .i64 a.fKind, .slice aaOps a.fOps.length caOps, .int .i64 a.fTable.fID, .string (strB a.fTable.fName), .slice aaTableColumns a.fTable.fColumns.length caTableColumns, .slice aaTableKey a.fTable.fKey.length caTableKey, .int .i64 a.fIndex.fID, .int .i64 a.fIndex.fTable, .string (strB a.fIndex.fName), .slice aaIndexColumns a.fIndex.fColumns.length caIndexColumns, .bool a.fIndex.fUnique, .int .i64 a.fIndex.fState, .bool a.fIndex.fBad, .string (strB a.fName), .int .i64 a.fN, .slice aaKey a.fKey.length caKey] 35))).drew)
    replace row1 := row1.same (w' := (((W.alloc (.cells #[.int .i64 c.fVersion, .int .i64 c.fNext, .slice acTables c.fTables.length ccTables, .slice acIndexes c.fIndexes.length ccIndexes] 25)).alloc (.cells #[.int .i64 a.fKind, .slice aaOps a.fOps.length caOps, .int .i64 a.fTable.fID, .string (strB a.fTable.fName), .slice aaTableColumns a.fTable.fColumns.length caTableColumns, .slice aaTableKey a.fTable.fKey.length caTableKey, .int .i64 a.fIndex.fID, .int .i64 a.fIndex.fTable, .string (strB a.fIndex.fName), .slice aaIndexColumns a.fIndex.fColumns.length caIndexColumns, .bool a.fIndex.fUnique, .int .i64 a.fIndex.fState, .bool a.fIndex.fBad, .string (strB a.fName), .int .i64 a.fN, .slice aaKey a.fKey.length caKey] 35))).drew)
    replace gc := rGCatalog_lawful.nix gc ((Keep.refl Nix _).drew)
    replace ga := rGAsk_lawful.nix ga ((Keep.refl Nix _).drew)
    go_region_held3 (fun w' => w'.cell? ⟨W.heap.size, 0, none⟩ = some (.int .i64 c.fVersion) ∧ w'.cell? ⟨W.heap.size, 1, none⟩ = some (.int .i64 c.fNext) ∧ w'.cell? ⟨W.heap.size, 2, none⟩ = some (.slice acTables c.fTables.length ccTables) ∧ w'.cell? ⟨W.heap.size, 3, none⟩ = some (.slice acIndexes c.fIndexes.length ccIndexes) ∧ w'.cell? ⟨W.heap.size + 1, 0, none⟩ = some (.int .i64 a.fKind) ∧ w'.cell? ⟨W.heap.size + 1, 1, none⟩ = some (.slice aaOps a.fOps.length caOps) ∧ w'.cell? ⟨W.heap.size + 1, 2, none⟩ = some (.int .i64 a.fTable.fID) ∧ w'.cell? ⟨W.heap.size + 1, 3, none⟩ = some (.string (strB a.fTable.fName)) ∧ w'.cell? ⟨W.heap.size + 1, 4, none⟩ = some (.slice aaTableColumns a.fTable.fColumns.length caTableColumns) ∧ w'.cell? ⟨W.heap.size + 1, 5, none⟩ = some (.slice aaTableKey a.fTable.fKey.length caTableKey) ∧ w'.cell? ⟨W.heap.size + 1, 6, none⟩ = some (.int .i64 a.fIndex.fID) ∧ w'.cell? ⟨W.heap.size + 1, 7, none⟩ = some (.int .i64 a.fIndex.fTable) ∧ w'.cell? ⟨W.heap.size + 1, 8, none⟩ = some (.string (strB a.fIndex.fName)) ∧ w'.cell? ⟨W.heap.size + 1, 9, none⟩ = some (.slice aaIndexColumns a.fIndex.fColumns.length caIndexColumns) ∧ w'.cell? ⟨W.heap.size + 1, 10, none⟩ = some (.bool a.fIndex.fUnique) ∧ w'.cell? ⟨W.heap.size + 1, 11, none⟩ = some (.int .i64 a.fIndex.fState) ∧ w'.cell? ⟨W.heap.size + 1, 12, none⟩ = some (.bool a.fIndex.fBad) ∧ w'.cell? ⟨W.heap.size + 1, 13, none⟩ = some (.string (strB a.fName)) ∧ w'.cell? ⟨W.heap.size + 1, 14, none⟩ = some (.int .i64 a.fN) ∧ w'.cell? ⟨W.heap.size + 1, 15, none⟩ = some (.slice aaKey a.fKey.length caKey)) (first | exact rowS row0 row1)
      (first
        | (go_at_call 6; go_fit (wawake_c _); rintro e w1 ⟨rfl, k1⟩; replace row0 := row0.keep k1 id; replace row1 := row1.keep k1 id; replace gc := rGCatalog_lawful.nix gc k1; replace ga := rGAsk_lawful.nix ga k1; replace kk := kk.trans k1; clear k1)
        | (go_at_call 8; go_fit (wTCatalog_c _ (· < W.heap.size) (fun b hb => Nat.lt_of_lt_of_le hb kk.size) c _ gc hbc); rintro e w1 ⟨aa, ca, rfl, own, k1⟩; replace row0 := row0.keep k1 id; replace row1 := row1.keep k1 id; replace gc := rGCatalog_lawful.nix gc k1; replace ga := rGAsk_lawful.nix ga k1; replace kk := kk.trans k1; have l1 := Lies.of_owned own; clear own; clear k1)
        | (go_at_call 9; go_fit (oTCatalog_c _ (· < W.heap.size) (fun b hb => Nat.lt_of_lt_of_le hb kk.size) c _ gc hbc); rintro e w1 ⟨ab, cb, rfl, own, k1⟩; replace row0 := row0.keep k1 id; replace row1 := row1.keep k1 id; replace gc := rGCatalog_lawful.nix gc k1; replace ga := rGAsk_lawful.nix ga k1; replace kk := kk.trans k1; replace l1 := l1.keep k1 (fun _ _ h => h); have l2 := Lies.of_owned own; clear own; clear k1)
        | (go_at_call 10; go_fit (wTAsk_c _ (· < W.heap.size) (fun b hb => Nat.lt_of_lt_of_le hb kk.size) a _ ga hba); rintro e w1 ⟨aa, ca, rfl, own, k1⟩; replace row0 := row0.keep k1 id; replace row1 := row1.keep k1 id; replace gc := rGCatalog_lawful.nix gc k1; replace ga := rGAsk_lawful.nix ga k1; replace kk := kk.trans k1; have l1 := Lies.of_owned own; clear own; clear k1)
        | (go_at_call 11; go_fit (oTAsk_c _ (· < W.heap.size) (fun b hb => Nat.lt_of_lt_of_le hb kk.size) a _ ga hba); rintro e w1 ⟨ab, cb, rfl, own, k1⟩; replace row0 := row0.keep k1 id; replace row1 := row1.keep k1 id; replace gc := rGCatalog_lawful.nix gc k1; replace ga := rGAsk_lawful.nix ga k1; replace kk := kk.trans k1; replace l1 := l1.keep k1 (fun _ _ h => h); have l2 := Lies.of_owned own; clear own; clear k1)
        | (go_at_call 7; go_fit (bytesT_c _ _ _ _ _ _ _ _ rfl rfl l1 l2); rintro e w1 ⟨rfl, rfl⟩; clear l1 l2))
    all_goals
      go_wp2
      go_ret
      exact ⟨rfl, by first | exact kk | exact kk.same⟩
theorem walk (W : World) (v0 v1 : Value) (h0 : Arg Try.prog W 1048576 25 v0) (h1 : Arg Try.prog W 1048576 35 v1) :
    Calls Try.prog 3 #[v0, v1] W fun e w' => e = .returned (.bool true) ∧ Keep Nix W w' := by
  obtain ⟨cs0, rfl, r0⟩ := h0.struct Try.underlying25
  obtain ⟨x0, g0, s0⟩ := redGCatalog r0
  have b0 : (encGCatalog x0).length ≤ far := by have := encGCatalog_len x0; unfold far; omega
  obtain ⟨cs1, rfl, r1⟩ := h1.struct Try.underlying35
  obtain ⟨x1, g1, s1⟩ := redGAsk r1
  have b1 : (encGAsk x1).length ≤ far := by have := encGAsk_len x1; unfold far; omega
  exact walk' W x0 cs0 g0 b0 x1 cs1 g1 b1
end wireAsks
end Go.Proofs.Ytabgbleldbapbaa
