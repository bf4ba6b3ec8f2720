/- ROUTE: slices.Sort at ints: the shelf's contract, laid here. Printed by mac.py. -/
import Derived.Test.YtpblmaklbnpbfaaRt1
import Derived.Shelf.SortM.Plain
import Derived.Shelf.SortM.SortNone
import Derived.Sort.OwnSortedInts
import Derived.Ground.SlgmProg
namespace Go.Proofs
open Go.RowKit Go.Sort Go.Shelf
shelf_lay_g SlLaysM.n5 Slgm 5 at Try 41 as Ytpblmaklbnpbfaa.mSort
namespace Ytpblmaklbnpbfaa
abbrev sortI (l : List Int) : List Int := l.mergeSort fun x y => decide (x ≤ y)
abbrev ints (l : List Int) : List Value := l.map (Value.int .i64)
theorem sort_c {base : Nat} (v : Value) (n : Nat) (l : List Int) (w : World) (hn : l.length = n) (hf : n ≤ 1000) (own : w.ownsRow base 3 1 v n (ints l)) :
    Calls Try.prog 41 #[v] w fun e w' => e = .returned (.tuple #[]) ∧ w'.ownsRow base 3 1 v n (ints (sortI l)) ∧ Keep (OwnB v) w w' := by
  subst hn
  rcases own.2 with ⟨rfl, h0⟩ | ⟨g, cap, cur, rfl, hbase, hb, h1, h2, h3, h4⟩
  · obtain rfl : l = [] := List.eq_nil_of_length_eq_zero h0
    exact (AnyM.slices_Sort_int_none Ytpblmaklbnpbfaa.mSort none 0 w).mono fun e w' ⟨h, hw⟩ => by rw [hw]; exact ⟨h, by rw [show sortI [] = [] from by simp [sortI]]; exact own, Keep.refl _ _⟩
  · have hH : Holds (Value.int .i64) w g 0 l.toArray := holds_of_blockI hb (by simpa using h4)
    refine (AnyM.slices_Sort_int Ytpblmaklbnpbfaa.mSort g 0 cap l w hH (Array.getElem?_eq_some_iff.1 hb).1 (by omega)).mono ?_
    rintro e w' ⟨h, m, os, rfl⟩
    refine ⟨h, ?_, (Keep.refl _ w).grown (grownBy_sortedI _) (fun k hk _ => hk)⟩
    exact ownsRow_sortedI (by simp) hbase hb h1 h2 h3
end Ytpblmaklbnpbfaa
end Go.Proofs
