/- STRUCTS TAKEN WHOLE: a load of a whole struct, out of a block or out of the middle of one, in one step. -/
import Derived.Test.YtabgbleldbapbaaBase
namespace Go.Proofs.Ytabgbleldbapbaa
open Go.RowKit

/-- A load, as one thing. -/
def wholeSem (T : TypeId) (v : Value) : Sem Next := do pure (.value (← Instr.loadAt T v))
/-- What a load of a struct yields. -/
def Whole (P : Program) (w : World) (T : TypeId) (b o : Nat) (cs : List Value) : Prop := (wholeSem T (.pointer (some ⟨b, o, none⟩))).run P w = .ok (.value (.agg cs.toArray)) w
/-- A struct type's rows in the table. -/
structure StructT (P : Program) (T n : Nat) : Prop where
  under : ∃ fs, P.underlying T = some (.struct fs)
  info : (P.info? T).map (·.size) = some n
theorem Whole.at {P : Program} {w : World} {T n b o : Nat} {cs : List Value} (S : StructT P T n) (hn : cs.length = n) (h : ∀ j u, cs[j]? = some u → w.cell? ⟨b, o + j, none⟩ = some u) : Whole P w T b o cs := by
  obtain ⟨fs, hu⟩ := S.under
  have hl : (loadCells ⟨b, o, none⟩ cs.length).run P w = .ok cs.toArray w :=
    run_loadCells_list (P := P) w ⟨b, o, none⟩ cs (fun j v hv => by rw [Addr.add_lit]; exact h j v hv)
  have hi := S.info
  cases hq : P.info? T with
  | none => simp [hq] at hi
  | some i =>
    have hs : i.size = cs.length := by rw [hn]; simpa [hq] using hi
    have hagg : (isAgg T).run P w = .ok true w := by
      unfold isAgg
      rw [Sem.run_bind, run_underlying hu w]
      simp
    unfold Whole wholeSem
    simp [Instr.loadAt, Instr.sureAddr, loadVar, Sem.run_bind, hagg, sizeOf, typeInfo, hq, hs, hl]
theorem Whole.row {P : Program} {w : World} {T T' n b : Nat} {cs : List Value} (S : StructT P T n) (hn : cs.length = n) (h : RowIs w b T' cs) : Whole P w T b 0 cs :=
  Whole.at S hn fun j u hu => by rw [Nat.zero_add, h.cell]; exact hu
end Go.Proofs.Ytabgbleldbapbaa
