/- STRUCTS TAKEN WHOLE: a load, a store, a making of a whole struct in one step, its cells as they are. -/
import Derived.Test.YtibaehlfpgipfaaGreatQZBase
namespace Go.Proofs.YtibaehlfpgipfaaGreat
open Go.RowKit
def wholeSem (T : TypeId) (v : Value) : Sem Next := do pure (.value (← Instr.loadAt T v))
def storeSem (T : TypeId) (a v : Value) : Sem Next := do
 Instr.storeAt T a v
 pure .skip
def Whole (P : Program) (w : World) (T : TypeId) (b o : Nat) (cs : List Value) : Prop := (wholeSem T (.pointer (some ⟨b, o, none⟩))).run P w = .ok (.value (.agg cs.toArray)) w
structure StructT (P : Program) (T n : Nat) : Prop where
 under : ∃ fs, P.underlying T = some (.struct fs)
 info : (P.info? T).map (·.size) = some n
theorem Whole.at {P : Program} {w : World} {T n b o : Nat} {cs : List Value} (S : StructT P T n) (hn : cs.length = n) (h : ∀ j u, cs[j]? = some u → w.cell? ⟨b, o + j, none⟩ = some u) : Whole P w T b o cs := by
 obtain ⟨fs, hu⟩ := S.under
 have hl : (loadCells ⟨b, o, none⟩ cs.length).run P w = .ok cs.toArray w :=
  run_loadCells_list (P := P) w ⟨b, o, none⟩ cs (fun j v hv => by rw [Addr.add_lit]; exact h j v hv)
 have hi := S.info
 cases hq : P.info? T with
 | none => simp [hq] at hi
 | some i =>
  have hs : i.size = cs.length := by rw [hn]; simpa [hq] using hi
  have hagg : (isAgg T).run P w = .ok true w := by
   unfold isAgg
   rw [Sem.run_bind, run_underlying hu w]
   simp
  unfold Whole wholeSem
  simp [Instr.loadAt, Instr.sureAddr, loadVar, Sem.run_bind, hagg, sizeOf, typeInfo, hq, hs, hl]
theorem Whole.row {P : Program} {w : World} {T T' n b : Nat} {cs : List Value} (S : StructT P T n) (hn : cs.length = n) (h : RowIs w b T' cs) : Whole P w T b 0 cs :=
 Whole.at S hn fun j u hu => by rw [Nat.zero_add, h.cell]; exact hu
/-! ### parts -/
def joined : List Value → List Value
 | [] => []
 | v :: vs => v.cells.toList ++ joined vs
def ones (cs : List Value) : Bool := cs.all (·.oneCell')
theorem joined_len (v : Value) (vs : List Value) : (joined (v :: vs)).length = v.cells.size + (joined vs).length := by simp [joined]
theorem joined_len0 : (joined []).length = 0 := rfl
theorem size_agg (cs : List Value) : (Value.agg cs.toArray).cells.size = cs.length := by simp [Value.cells]
def numbered (i : Nat) : List Value → List (Nat × Value)
 | [] => []
 | v :: vs => (i, v) :: numbered (i + 1) vs
theorem put_cells (done c rest : List Value) (hr : c.length ≤ rest.length) :
  ∀ (i : Nat), i ≤ c.length → (c.drop i |>.zipIdx i).foldl (fun (cs : Array Value) (x : Value × Nat) => cs.setIfInBounds (done.length + x.2) x.1) (done ++ c.take i ++ rest.drop i).toArray = (done ++ c ++ rest.drop c.length).toArray := by
 intro i hi
 induction h : c.length - i generalizing i with
 | zero =>
  have : i = c.length := by omega
  subst this
  simp
 | succ n ih =>
  have hlt : i < c.length := by omega
  rw [List.drop_eq_getElem_cons hlt, List.zipIdx_cons, List.foldl_cons]
  have hlr : i < rest.length := by omega
  have : ((done ++ c.take i ++ rest.drop i).toArray.setIfInBounds (done.length + i) c[i]) = (done ++ c.take (i + 1) ++ rest.drop (i + 1)).toArray := by
   rw [List.setIfInBounds_toArray]
   congr 1
   rw [List.set_append_right _ _ (by simp; omega)]
   have e1 : done.length + i - (done ++ c.take i).length = 0 := by simp; omega
   have e2 : (rest.drop i).set 0 c[i] = c[i] :: rest.drop (i + 1) := by rw [List.drop_eq_getElem_cons hlr]; rfl
   rw [e1, e2, List.take_succ_eq_append_getElem hlt]
   simp only [List.append_assoc, List.cons_append, List.nil_append]
  simp only at this ⊢
  rw [this]
  exact ih (i + 1) hlt (by omega)
theorem fill_parts (place : Nat → Option (Nat × Nat)) : ∀ (vs : List Value) (i : Nat) (done rest : List Value), rest.length = (joined vs).length →
  (∀ k v, vs[k]? = some v → place (i + k) = some (done.length + (joined (vs.take k)).length, v.cells.size)) → Instr.fill place (done ++ rest).toArray (numbered i vs) = some (done ++ joined vs).toArray
 | [], i, done, rest, h, _ => by
  have : rest = [] := List.eq_nil_of_length_eq_zero (by simpa [joined] using h)
  subst this
  rfl
 | v :: vs, i, done, rest, h, hp => by
  have h0 := hp 0 v rfl
  simp only [Nat.add_zero, List.take_zero, joined, List.length_nil] at h0
  rw [joined_len] at h
  have hc : v.cells.toList.length = v.cells.size := Array.length_toList
  simp only [numbered, Instr.fill, h0]
  rw [if_neg (by simp; omega)]
  have hput := put_cells done v.cells.toList rest (by omega) 0 (Nat.zero_le _)
  simp only [List.drop_zero, List.take_zero, List.append_nil] at hput
  have hz : v.cells.zipIdx.foldl (fun cs x => match x with | (c, j) => cs.setIfInBounds (done.length + j) c) (done ++ rest).toArray = (done ++ v.cells.toList ++ rest.drop v.cells.toList.length).toArray := by
   rw [← hput, ← Array.foldl_toList, Array.toList_zipIdx]
  rw [hz]
  have := fill_parts place vs (i + 1) (done ++ v.cells.toList) (rest.drop v.cells.toList.length) (by simp; omega) (fun k u hu => by
   have := hp (k + 1) u (by simpa using hu)
   rw [show i + 1 + k = i + (k + 1) by omega, this, List.take_succ_cons, joined_len]
   simp only [List.length_append, hc]
   congr 2; omega)
  rw [this]
  simp [joined]
structure BuildT (P : Program) (T : Nat) (sizes : List Nat) : Prop where
 place : ∃ fs it z places, P.underlying T = some (.struct fs) ∧ P.info? T = some it ∧ it.zero = some z ∧ z.cells.size = sizes.sum ∧ fs.toList.mapM (fun f => (P.info? f.type).map fun i => (f.offset, i.size)) = some places ∧
  places.length = sizes.length ∧ ∀ k, k < sizes.length → places[k]? = some ((sizes.take k).sum, sizes.getD k 0)
theorem store_run {P : Program} {w : World} {T T' n b : Nat} {old cs : List Value} (S : StructT P T n) (hr : RowIs w b T' old) (ho : old.length = n) (hn : cs.length = n) (h1 : ones cs = true) :
  (storeSem T (.pointer (some ⟨b, 0, none⟩)) (.agg cs.toArray)).run P w = .ok .skip (w.setRow b cs.toArray) := by
 have := run_storeVar_row (P := P) w b T' T old.toArray cs.toArray hr (by simpa [hn] using S.info) (by simp; omega) (by simpa [ones] using h1)
 unfold storeSem
 simp [Instr.storeAt, Instr.sureAddr, this]
theorem RowIs.setRow {w : World} {b : Nat} {e : TypeId} {cs : List Value} (h : RowIs w b e cs) (ds : List Value) : RowIs (w.setRow b ds.toArray) b e ds := by
 unfold RowIs
 exact setRow_heap w b cs.toArray ds.toArray e (0, 0) h
theorem Keep.setRow {S : Nat → Prop} {a b : World} (h : Keep S a b) {g : Nat} (hg : g < a.heap.size → S g) (cs : Array Value) : Keep S a (b.setRow g cs) :=
 ⟨h.os, h.tape, h.output, by simpa using h.size, fun k hk hs => by
  rw [setRow_other _ _ _ _ (by rintro rfl; exact hs (hg hk))]; exact h.block k hk hs⟩
end Go.Proofs.YtibaehlfpgipfaaGreat
