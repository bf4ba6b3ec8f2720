/- ROUTE: slices.Sort at ints: the shelf's contract, laid here. Printed by mac.py. -/
import Derived.Test.YtpblmaklbnpbfaaRt1
import Derived.Shelf.SortM.Plain
import Derived.Shelf.SortM.SortNone
import Derived.Sort.OwnSortedInts
import Derived.Shelf.SlGeneric
namespace Go.Proofs
open Go.RowKit Go.Sort Go.Shelf
namespace Ytpblmaklbnpbfaa
def mSortR : Ren where
  f := fun n => match n with
    | 5 => 41
    | 7 => 57
    | 8 => 58
    | 10 => 62
    | 11 => 63
    | 12 => 64
    | 13 => 65
    | 14 => 66
    | 15 => 67
    | 16 => 68
    | 17 => 69
    | 18 => 70
    | 19 => 71
    | 20 => 72
    | 30 => 74
    | 31 => 75
    | 32 => 76
    | 33 => 77
    | 34 => 78
    | 35 => 79
    | 40 => 81
    | n => n
  t := fun n => match n with
    | 0 => 0
    | 3 => 3
    | 4 => 4
    | 5 => 5
    | 9 => 9
    | 22 => 38
    | 23 => 38
    | 25 => 3
    | 32 => 73
    | 35 => 77
    | 36 => 78
    | 41 => 82
    | 44 => 58
    | 46 => 86
    | 53 => 87
    | 57 => 91
    | 63 => 95
    | 64 => 96
    | n => n
  g := fun n => n
set_option maxRecDepth 100000 in
theorem mSort : SlLaysM.n5 Try.prog mSortR where
  mixed := by kernel_rfl
  f5 := ⟨"slices.Sort[[]int,int]", by decide, Eq.trans Try.func41 (by kernel_rfl)⟩
  f7 := ⟨"slices.pdqsortOrdered[int]", by decide, Eq.trans Try.func57 (by kernel_rfl)⟩
  f8 := Eq.trans Try.func58 (by kernel_rfl)
  f10 := ⟨"slices.insertionSortOrdered[int]", by decide, Eq.trans Try.func62 (by kernel_rfl)⟩
  f11 := ⟨"slices.heapSortOrdered[int]", by decide, Eq.trans Try.func63 (by kernel_rfl)⟩
  f12 := ⟨"slices.breakPatternsOrdered[int]", by decide, Eq.trans Try.func64 (by kernel_rfl)⟩
  f13 := ⟨"slices.choosePivotOrdered[int]", by decide, Eq.trans Try.func65 (by kernel_rfl)⟩
  f14 := ⟨"slices.reverseRangeOrdered[int]", by decide, Eq.trans Try.func66 (by kernel_rfl)⟩
  f15 := ⟨"slices.partialInsertionSortOrdered[int]", by decide, Eq.trans Try.func67 (by kernel_rfl)⟩
  f16 := ⟨"cmp.Less[int]", by decide, Eq.trans Try.func68 (by kernel_rfl)⟩
  f17 := ⟨"slices.partitionEqualOrdered[int]", by decide, Eq.trans Try.func69 (by kernel_rfl)⟩
  f18 := ⟨"slices.partitionOrdered[int]", by decide, Eq.trans Try.func70 (by kernel_rfl)⟩
  f19 := Eq.trans Try.func71 (by kernel_rfl)
  f20 := Eq.trans Try.func72 (by kernel_rfl)
  f30 := ⟨"slices.siftDownOrdered[int]", by decide, Eq.trans Try.func74 (by kernel_rfl)⟩
  f31 := Eq.trans Try.func75 (by kernel_rfl)
  f32 := Eq.trans Try.func76 (by kernel_rfl)
  f33 := ⟨"slices.medianAdjacentOrdered[int]", by decide, Eq.trans Try.func77 (by kernel_rfl)⟩
  f34 := ⟨"slices.medianOrdered[int]", by decide, Eq.trans Try.func78 (by kernel_rfl)⟩
  f35 := ⟨"cmp.isNaN[int]", by decide, Eq.trans Try.func79 (by kernel_rfl)⟩
  f40 := ⟨"slices.order2Ordered[int]", by decide, Eq.trans Try.func81 (by kernel_rfl)⟩
  t0 := Try.underlying0
  a0 := Try.isAgg0
  z0 := Try.sizeOf0
  v0 := Try.zeroValue0
  t3 := Try.underlying3
  a3 := Try.isAgg3
  z3 := Try.sizeOf3
  v3 := Try.zeroValue3
  t4 := Try.underlying4
  a4 := Try.isAgg4
  z4 := Try.sizeOf4
  v4 := Try.zeroValue4
  t5 := Try.underlying5
  a5 := Try.isAgg5
  z5 := Try.sizeOf5
  v5 := Try.zeroValue5
  t9 := Try.underlying9
  a9 := Try.isAgg9
  z9 := Try.sizeOf9
  v9 := Try.zeroValue9
  t22 := Try.underlying38
  a22 := Try.isAgg38
  z22 := Try.sizeOf38
  v22 := Try.zeroValue38
  t23 := Try.underlying38
  a23 := Try.isAgg38
  z23 := Try.sizeOf38
  v23 := Try.zeroValue38
  t25 := Try.underlying3
  a25 := Try.isAgg3
  z25 := Try.sizeOf3
  v25 := Try.zeroValue3
  t32 := Try.underlying73
  a32 := Try.isAgg73
  z32 := Try.sizeOf73
  v32 := Try.zeroValue73
  t35 := Try.underlying77
  a35 := Try.isAgg77
  z35 := Try.sizeOf77
  v35 := Try.zeroValue77
  t36 := Try.underlying78
  a36 := Try.isAgg78
  z36 := Try.sizeOf78
  v36 := Try.zeroValue78
  t41 := Try.underlying82
  a41 := Try.isAgg82
  z41 := Try.sizeOf82
  v41 := Try.zeroValue82
  t44 := Try.underlying58
  a44 := Try.isAgg58
  z44 := Try.sizeOf58
  v44 := Try.zeroValue58
  t46 := Try.underlying86
  a46 := Try.isAgg86
  z46 := Try.sizeOf86
  v46 := Try.zeroValue86
  t53 := Try.underlying87
  a53 := Try.isAgg87
  z53 := Try.sizeOf87
  v53 := Try.zeroValue87
  t57 := Try.underlying91
  a57 := Try.isAgg91
  z57 := Try.sizeOf91
  v57 := Try.zeroValue91
  t63 := Try.underlying95
  a63 := Try.isAgg95
  z63 := Try.sizeOf95
  v63 := Try.zeroValue95
  t64 := Try.underlying96
  a64 := Try.isAgg96
  z64 := Try.sizeOf96
  v64 := Try.zeroValue96

abbrev sortI (l : List Int) : List Int := l.mergeSort fun x y => decide (x ≤ y)
abbrev ints (l : List Int) : List Value := l.map (Value.int .i64)
theorem sort_c {base : Nat} (v : Value) (n : Nat) (l : List Int) (w : World) (hn : l.length = n) (hf : n ≤ 1000) (own : w.ownsRow base 3 1 v n (ints l)) :
    Calls Try.prog 41 #[v] w fun e w' => e = .returned (.tuple #[]) ∧ w'.ownsRow base 3 1 v n (ints (sortI l)) ∧ Keep (OwnB v) w w' := by
  subst hn
  rcases own.2 with ⟨rfl, h0⟩ | ⟨g, cap, cur, rfl, hbase, hb, h1, h2, h3, h4⟩
  · obtain rfl : l = [] := List.eq_nil_of_length_eq_zero h0
    exact (AnyM.slices_Sort_int_none mSort none 0 w).mono fun e w' ⟨h, hw⟩ => by rw [hw]; exact ⟨h, by rw [show sortI [] = [] from by simp [sortI]]; exact own, Keep.refl _ _⟩
  · have hH : Holds (Value.int .i64) w g 0 l.toArray := holds_of_blockI hb (by simpa using h4)
    refine (AnyM.slices_Sort_int mSort g 0 cap l w hH (Array.getElem?_eq_some_iff.1 hb).1 (by omega)).mono ?_
    rintro e w' ⟨h, m, os, rfl⟩
    refine ⟨h, ?_, (Keep.refl _ w).grown (grownBy_sortedI _) (fun k hk _ => hk)⟩
    exact ownsRow_sortedI (by simp) hbase hb h1 h2 h3
end Ytpblmaklbnpbfaa
end Go.Proofs
