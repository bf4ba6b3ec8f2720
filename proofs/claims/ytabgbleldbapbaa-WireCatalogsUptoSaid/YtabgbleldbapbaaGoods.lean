/- EACH STRUCT of package api: its reader and its writer fit each other. Printed by gen14.py. -/
import Derived.Test.YtabgbleldbapbaaGood
import Derived.Test.YtabgbleldbapbaaGetE
import Derived.Test.YtabgbleldbapbaaGetD
namespace Go.Proofs.Ytabgbleldbapbaa
open Go.RowKit

abbrev okF (_ : Bool) : Prop := True
abbrev okT (l : List UInt8) : Prop := l.length ≤ 65536
abbrev okL {α : Type} (ok : α → Prop) (l : List α) : Prop := l.length ≤ 5000 ∧ ∀ x ∈ l, ok x
/-- What is read out of cells, and has few bytes, is ok. -/
def OkOf {α : Type} (R : RD α) (enc : α → List UInt8) (ok : α → Prop) : Prop := ∀ (w : World) (p : Nat → Prop) (cs : List Value) (x : α), R w p cs x → (enc x).length ≤ 5000 → ok x ∧ 1 ≤ (enc x).length
theorem ok_int : OkOf (rInt .i64) encI isI64 := fun _ _ _ _ h _ => ⟨isI64_wf h.2, (numB_len _).2⟩
theorem ok_num : OkOf (rInt .u64) encU isU64 := fun _ _ _ _ h _ => ⟨isU64_wf h.2, (numB_len _).2⟩
theorem ok_flag : OkOf rBool encF okF := fun _ _ _ _ _ _ => ⟨trivial, (numB_len _).2⟩
theorem textB_ok {l : List UInt8} (h : (textB l).length ≤ 5000) : okT l ∧ 1 ≤ (textB l).length := by
  have := (numB_len l.length).2
  unfold textB at *
  simp only [List.length_append] at *
  exact ⟨by unfold okT; omega, by omega⟩
theorem ok_text : OkOf rStr textB okT := fun _ _ _ _ _ hl => textB_ok hl
theorem ok_bytes : OkOf rBytes textB okT := fun _ _ _ _ _ hl => textB_ok hl
theorem flat_ok {α : Type} {enc : α → List UInt8} : ∀ (l : List α), (l.flatMap enc).length ≤ 5000 → (∀ x ∈ l, (enc x).length ≤ 5000 → 1 ≤ (enc x).length) → l.length ≤ (l.flatMap enc).length ∧ ∀ x ∈ l, (enc x).length ≤ 5000
  | [], _, _ => ⟨Nat.le_refl _, fun x hx => absurd hx List.not_mem_nil⟩
  | y :: l, h, hk => by
    simp only [List.flatMap_cons, List.length_append, List.length_cons] at *
    obtain ⟨h1, h2⟩ := flat_ok l (by omega) (fun x hx => hk x (List.mem_cons_of_mem _ hx))
    have h3 := hk y List.mem_cons_self (by omega)
    refine ⟨by omega, fun x hx => ?_⟩
    rcases List.mem_cons.mp hx with rfl | hx
    · omega
    · exact h2 x hx
theorem OkOf.list {α : Type} {R : RD α} {enc : α → List UInt8} {ok : α → Prop} (h : OkOf R enc ok) : OkOf (rList R) (encL enc) (okL ok) := by
  rintro w p cs l ⟨a, cap, css, -, hn, -, -, -, hr⟩ hl
  have h1 := (numB_len l.length).2
  unfold encL at hl ⊢
  simp only [List.length_append] at hl ⊢
  have hx : ∀ x ∈ l, ∃ c, R w p c x := fun x hx => by
    obtain ⟨i, hi, rfl⟩ := List.getElem_of_mem hx
    exact ⟨css[i]'(by omega), hr i _ _ (List.getElem?_eq_getElem _) (List.getElem?_eq_getElem _)⟩
  obtain ⟨h2, h3⟩ := flat_ok (enc := enc) l (by omega) (fun x hx' hs => by
    obtain ⟨c, hc⟩ := hx x hx'
    exact (h w p c x hc hs).2)
  refine ⟨⟨by omega, fun x hx' => ?_⟩, by omega⟩
  obtain ⟨c, hc⟩ := hx x hx'
  exact (h w p c x hc (h3 x hx')).1
def okGColumn (x : GColumn) : Prop := (okT x.fName ∧ isI64 x.fKind) ∧ okF x.fNull
theorem seq_GColumn : pGColumn = fun s => ((fun q => (⟨q.1.1, q.1.2, q.2⟩ : GColumn)) ((seqP (seqP pBytes pInt) pFlag) s).1, ((seqP (seqP pBytes pInt) pFlag) s).2) := by
  funext s
  simp only [pGColumn, seqP]
theorem good_GColumn : Good pGColumn encGColumn okGColumn := by
  rw [seq_GColumn]
  exact ((good_bytes.seq good_int).seq good_flag).map (fun q => (⟨q.1.1, q.1.2, q.2⟩ : GColumn)) (fun y : GColumn => ((y.fName, y.fKind), y.fNull)) (fun _ => rfl) (fun _ => rfl)
theorem ok_GColumn : OkOf rGColumn encGColumn okGColumn := by
  rintro w p cs x ⟨c0, c1, c2, -, h0, h1, h2⟩ hl
  unfold encGColumn at hl ⊢
  simp only [List.length_append] at hl ⊢
  have g0 := ok_text _ _ _ _ h0 (by omega)
  have g1 := ok_int _ _ _ _ h1 (by omega)
  have g2 := ok_flag _ _ _ _ h2 (by omega)
  exact ⟨⟨⟨g0.1, g1.1⟩, g2.1⟩, by have := g0.2; omega⟩
def okGTable (x : GTable) : Prop := ((isI64 x.fID ∧ okT x.fName) ∧ (okL okGColumn) x.fColumns) ∧ (okL isI64) x.fKey
theorem seq_GTable : pGTable = fun s => ((fun q => (⟨q.1.1.1, q.1.1.2, q.1.2, q.2⟩ : GTable)) ((seqP (seqP (seqP pInt pBytes) (pList pGColumn)) (pList pInt)) s).1, ((seqP (seqP (seqP pInt pBytes) (pList pGColumn)) (pList pInt)) s).2) := by
  funext s
  simp only [pGTable, seqP]
theorem good_GTable : Good pGTable encGTable okGTable := by
  rw [seq_GTable]
  exact (((good_int.seq good_bytes).seq good_GColumn.list).seq good_int.list).map (fun q => (⟨q.1.1.1, q.1.1.2, q.1.2, q.2⟩ : GTable)) (fun y : GTable => (((y.fID, y.fName), y.fColumns), y.fKey)) (fun _ => rfl) (fun _ => rfl)
theorem ok_GTable : OkOf rGTable encGTable okGTable := by
  rintro w p cs x ⟨c0, c1, c2, c3, -, h0, h1, h2, h3⟩ hl
  unfold encGTable at hl ⊢
  simp only [List.length_append] at hl ⊢
  have g0 := ok_int _ _ _ _ h0 (by omega)
  have g1 := ok_text _ _ _ _ h1 (by omega)
  have g2 := ok_GColumn.list _ _ _ _ h2 (by omega)
  have g3 := ok_int.list _ _ _ _ h3 (by omega)
  exact ⟨⟨⟨⟨g0.1, g1.1⟩, g2.1⟩, g3.1⟩, by have := g0.2; omega⟩
def okGIndex (x : GIndex) : Prop := (((((isI64 x.fID ∧ isI64 x.fTable) ∧ okT x.fName) ∧ (okL isI64) x.fColumns) ∧ okF x.fUnique) ∧ isI64 x.fState) ∧ okF x.fBad
theorem seq_GIndex : pGIndex = fun s => ((fun q => (⟨q.1.1.1.1.1.1, q.1.1.1.1.1.2, q.1.1.1.1.2, q.1.1.1.2, q.1.1.2, q.1.2, q.2⟩ : GIndex)) ((seqP (seqP (seqP (seqP (seqP (seqP pInt pInt) pBytes) (pList pInt)) pFlag) pInt) pFlag) s).1, ((seqP (seqP (seqP (seqP (seqP (seqP pInt pInt) pBytes) (pList pInt)) pFlag) pInt) pFlag) s).2) := by
  funext s
  simp only [pGIndex, seqP]
theorem good_GIndex : Good pGIndex encGIndex okGIndex := by
  rw [seq_GIndex]
  exact ((((((good_int.seq good_int).seq good_bytes).seq good_int.list).seq good_flag).seq good_int).seq good_flag).map (fun q => (⟨q.1.1.1.1.1.1, q.1.1.1.1.1.2, q.1.1.1.1.2, q.1.1.1.2, q.1.1.2, q.1.2, q.2⟩ : GIndex)) (fun y : GIndex => ((((((y.fID, y.fTable), y.fName), y.fColumns), y.fUnique), y.fState), y.fBad)) (fun _ => rfl) (fun _ => rfl)
theorem ok_GIndex : OkOf rGIndex encGIndex okGIndex := by
  rintro w p cs x ⟨c0, c1, c2, c3, c4, c5, c6, -, h0, h1, h2, h3, h4, h5, h6⟩ hl
  unfold encGIndex at hl ⊢
  simp only [List.length_append] at hl ⊢
  have g0 := ok_int _ _ _ _ h0 (by omega)
  have g1 := ok_int _ _ _ _ h1 (by omega)
  have g2 := ok_text _ _ _ _ h2 (by omega)
  have g3 := ok_int.list _ _ _ _ h3 (by omega)
  have g4 := ok_flag _ _ _ _ h4 (by omega)
  have g5 := ok_int _ _ _ _ h5 (by omega)
  have g6 := ok_flag _ _ _ _ h6 (by omega)
  exact ⟨⟨⟨⟨⟨⟨⟨g0.1, g1.1⟩, g2.1⟩, g3.1⟩, g4.1⟩, g5.1⟩, g6.1⟩, by have := g0.2; omega⟩
def okGCatalog (x : GCatalog) : Prop := ((isI64 x.fVersion ∧ isI64 x.fNext) ∧ (okL okGTable) x.fTables) ∧ (okL okGIndex) x.fIndexes
theorem seq_GCatalog : pGCatalog = fun s => ((fun q => (⟨q.1.1.1, q.1.1.2, q.1.2, q.2⟩ : GCatalog)) ((seqP (seqP (seqP pInt pInt) (pList pGTable)) (pList pGIndex)) s).1, ((seqP (seqP (seqP pInt pInt) (pList pGTable)) (pList pGIndex)) s).2) := by
  funext s
  simp only [pGCatalog, seqP]
theorem good_GCatalog : Good pGCatalog encGCatalog okGCatalog := by
  rw [seq_GCatalog]
  exact (((good_int.seq good_int).seq good_GTable.list).seq good_GIndex.list).map (fun q => (⟨q.1.1.1, q.1.1.2, q.1.2, q.2⟩ : GCatalog)) (fun y : GCatalog => (((y.fVersion, y.fNext), y.fTables), y.fIndexes)) (fun _ => rfl) (fun _ => rfl)
theorem ok_GCatalog : OkOf rGCatalog encGCatalog okGCatalog := by
  rintro w p cs x ⟨c0, c1, c2, c3, -, h0, h1, h2, h3⟩ hl
  unfold encGCatalog at hl ⊢
  simp only [List.length_append] at hl ⊢
  have g0 := ok_int _ _ _ _ h0 (by omega)
  have g1 := ok_int _ _ _ _ h1 (by omega)
  have g2 := ok_GTable.list _ _ _ _ h2 (by omega)
  have g3 := ok_GIndex.list _ _ _ _ h3 (by omega)
  exact ⟨⟨⟨⟨g0.1, g1.1⟩, g2.1⟩, g3.1⟩, by have := g0.2; omega⟩
end Go.Proofs.Ytabgbleldbapbaa
