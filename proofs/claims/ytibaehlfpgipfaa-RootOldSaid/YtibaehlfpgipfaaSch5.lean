/- SCHEMA: the functions that are handed to slices.IndexFunc. Printed by gen19.py. -/
import Derived.Test.YtibaehlfpgipfaaSch4
namespace Go.Proofs.Ytibaehlfpgipfaa
open Go.RowKit

theorem int_eq_dec (x y : Int) : (x == y) = decide (x = y) := by rw [Bool.eq_iff_iff]; simp
theorem f_rightTable1 {p : Nat → Prop} (x : GColumn) (cs : List Value) (b : Nat) (y : List UInt8) (w : World) (hx : rGColumn w p cs x) (hb : b < w.heap.size) (hc : w.cell? ⟨b, 0, none⟩ = some (.string (strB y))) :
    Calls Try.prog 50 #[.agg cs.toArray, .pointer (some ⟨b, 0, none⟩)] w fun e w' => e = .returned (.bool (decide (x.fName = y))) ∧ Keep Nix w w' := by
  obtain ⟨rfl, -⟩ := rGColumn_open hx
  have kk : Keep Nix w (w.alloc (.cells #[.string (strB x.fName), .int .i64 x.fKind, .bool x.fNull] 55)) := (Keep.refl Nix w).alloc _
  have hc' : (w.alloc (.cells #[.string (strB x.fName), .int .i64 x.fKind, .bool x.fNull] 55)).cell? ⟨b, 0, none⟩ = some (.string (strB y)) := (kk.cell (p := ⟨b, 0, none⟩) hb id).trans hc
  have HE := Lib.hid (strB_eq x.fName y)
  clear hx hc
  go_enter Try.func50, Try.ntmps50
  go_wp2
  go_ret
  exact ⟨ret_bool (by first | exact HE.out | simp), kk⟩
theorem f_byID1 {p : Nat → Prop} (x : GTable) (cs : List Value) (b : Nat) (y : Int) (w : World) (hx : rGTable w p cs x) (hb : b < w.heap.size) (hc : w.cell? ⟨b, 0, none⟩ = some (.int .i64 y)) :
    Calls Try.prog 63 #[.agg cs.toArray, .pointer (some ⟨b, 0, none⟩)] w fun e w' => e = .returned (.bool (decide (x.fID = y))) ∧ Keep Nix w w' := by
  obtain ⟨aColumns, cColumns, aKey, cKey, rfl, -⟩ := rGTable_open hx
  have kk : Keep Nix w (w.alloc (.cells #[.int .i64 x.fID, .string (strB x.fName), .slice aColumns x.fColumns.length cColumns, .slice aKey x.fKey.length cKey] 49)) := (Keep.refl Nix w).alloc _
  have hc' : (w.alloc (.cells #[.int .i64 x.fID, .string (strB x.fName), .slice aColumns x.fColumns.length cColumns, .slice aKey x.fKey.length cKey] 49)).cell? ⟨b, 0, none⟩ = some (.int .i64 y) := (kk.cell (p := ⟨b, 0, none⟩) hb id).trans hc
  have HE := Lib.hid (int_eq_dec x.fID y)
  clear hx hc
  go_enter Try.func63, Try.ntmps63
  go_wp2
  go_ret
  exact ⟨ret_bool (by first | exact HE.out | simp), kk⟩
theorem f_Table1 {p : Nat → Prop} (x : GTable) (cs : List Value) (b : Nat) (y : List UInt8) (w : World) (hx : rGTable w p cs x) (hb : b < w.heap.size) (hc : w.cell? ⟨b, 0, none⟩ = some (.string (strB y))) :
    Calls Try.prog 47 #[.agg cs.toArray, .pointer (some ⟨b, 0, none⟩)] w fun e w' => e = .returned (.bool (decide (x.fName = y))) ∧ Keep Nix w w' := by
  obtain ⟨aColumns, cColumns, aKey, cKey, rfl, -⟩ := rGTable_open hx
  have kk : Keep Nix w (w.alloc (.cells #[.int .i64 x.fID, .string (strB x.fName), .slice aColumns x.fColumns.length cColumns, .slice aKey x.fKey.length cKey] 49)) := (Keep.refl Nix w).alloc _
  have hc' : (w.alloc (.cells #[.int .i64 x.fID, .string (strB x.fName), .slice aColumns x.fColumns.length cColumns, .slice aKey x.fKey.length cKey] 49)).cell? ⟨b, 0, none⟩ = some (.string (strB y)) := (kk.cell (p := ⟨b, 0, none⟩) hb id).trans hc
  have HE := Lib.hid (strB_eq x.fName y)
  clear hx hc
  go_enter Try.func47, Try.ntmps47
  go_wp2
  go_ret
  exact ⟨ret_bool (by first | exact HE.out | simp), kk⟩
theorem f_find1 {p : Nat → Prop} (x : GIndex) (cs : List Value) (b : Nat) (y : List UInt8) (w : World) (hx : rGIndex w p cs x) (hb : b < w.heap.size) (hc : w.cell? ⟨b, 0, none⟩ = some (.string (strB y))) :
    Calls Try.prog 55 #[.agg cs.toArray, .pointer (some ⟨b, 0, none⟩)] w fun e w' => e = .returned (.bool (decide (x.fName = y))) ∧ Keep Nix w w' := by
  obtain ⟨aColumns, cColumns, rfl, -⟩ := rGIndex_open hx
  have kk : Keep Nix w (w.alloc (.cells #[.int .i64 x.fID, .int .i64 x.fTable, .string (strB x.fName), .slice aColumns x.fColumns.length cColumns, .bool x.fUnique, .int .i64 x.fState, .bool x.fBad] 51)) := (Keep.refl Nix w).alloc _
  have hc' : (w.alloc (.cells #[.int .i64 x.fID, .int .i64 x.fTable, .string (strB x.fName), .slice aColumns x.fColumns.length cColumns, .bool x.fUnique, .int .i64 x.fState, .bool x.fBad] 51)).cell? ⟨b, 0, none⟩ = some (.string (strB y)) := (kk.cell (p := ⟨b, 0, none⟩) hb id).trans hc
  have HE := Lib.hid (strB_eq x.fName y)
  clear hx hc
  go_enter Try.func55, Try.ntmps55
  go_wp2
  go_ret
  exact ⟨ret_bool (by first | exact HE.out | simp), kk⟩
theorem f_Step1 {p : Nat → Prop} (x : GIndex) (cs : List Value) (b : Nat) (y : Int) (w : World) (hx : rGIndex w p cs x) (hb : b < w.heap.size) (hc : w.cell? ⟨b, 0, none⟩ = some (.int .i64 y)) :
    Calls Try.prog 38 #[.agg cs.toArray, .pointer (some ⟨b, 0, none⟩)] w fun e w' => e = .returned (.bool (decide (x.fID = y))) ∧ Keep Nix w w' := by
  obtain ⟨aColumns, cColumns, rfl, -⟩ := rGIndex_open hx
  have kk : Keep Nix w (w.alloc (.cells #[.int .i64 x.fID, .int .i64 x.fTable, .string (strB x.fName), .slice aColumns x.fColumns.length cColumns, .bool x.fUnique, .int .i64 x.fState, .bool x.fBad] 51)) := (Keep.refl Nix w).alloc _
  have hc' : (w.alloc (.cells #[.int .i64 x.fID, .int .i64 x.fTable, .string (strB x.fName), .slice aColumns x.fColumns.length cColumns, .bool x.fUnique, .int .i64 x.fState, .bool x.fBad] 51)).cell? ⟨b, 0, none⟩ = some (.int .i64 y) := (kk.cell (p := ⟨b, 0, none⟩) hb id).trans hc
  have HE := Lib.hid (int_eq_dec x.fID y)
  clear hx hc
  go_enter Try.func38, Try.ntmps38
  go_wp2
  go_ret
  exact ⟨ret_bool (by first | exact HE.out | simp), kk⟩
theorem f_rightTable2 {p : Nat → Prop} (l : List GColumn) (a : Option Addr) (n cap : Nat) (b : Nat) (k : Int) (w : World) (hl : rList rGColumn w p [.slice a n cap] l) (hc : w.cell? ⟨b, 2, none⟩ = some (.slice a n cap)) (h0 : 0 ≤ k) (h1 : k < l.length) :
    Calls Try.prog 53 #[.int .i64 k, .pointer (some ⟨b, 0, none⟩)] w fun e w' => e = .returned (.bool ((l[k.toNat]'(by omega)).fNull)) ∧ Keep Nix w w' := by
  obtain ⟨rfl, hcap, hf⟩ := rList_len hl
  obtain ⟨j, rfl⟩ : ∃ j : Nat, k = (j : Int) := ⟨k.toNat, by omega⟩
  have hj : j < l.length := by omega
  simp only [Int.toNat_natCast]
  obtain ⟨b1, o, c, cs, e1, -, hb1, r, hcell⟩ := rList_at rGColumn_lawful (by decide) hl j hj
  simp only [List.cons.injEq, Value.slice.injEq, and_true] at e1
  obtain ⟨rfl, -, -⟩ := e1
  obtain ⟨rfl, -⟩ := rGColumn_open r
  have x2 := hcell 2 _ rfl
  clear hl hf r hcell hcap
  generalize l[j] = z at x2
  go_enter Try.func53, Try.ntmps53
  go_wp2
  go_ret
  exact ⟨rfl, Keep.refl _ _⟩
end Go.Proofs.Ytibaehlfpgipfaa
