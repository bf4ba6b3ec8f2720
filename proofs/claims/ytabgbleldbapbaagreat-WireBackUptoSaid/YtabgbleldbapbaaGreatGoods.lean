/- EACH STRUCT of package api: its reader and its writer fit each other. Printed by gen14.py. -/
import Derived.Test.YtabgbleldbapbaaGreatGood
import Derived.Test.YtabgbleldbapbaaGreatGetE
import Derived.Test.YtabgbleldbapbaaGreatGetD
namespace Go.Proofs.YtabgbleldbapbaaGreat
open Go.RowKit

abbrev okF (_ : Bool) : Prop := True
abbrev okT (l : List UInt8) : Prop := l.length ≤ 65536
abbrev okL {α : Type} (ok : α → Prop) (l : List α) : Prop := l.length ≤ 5000 ∧ ∀ x ∈ l, ok x
/-- What is read out of cells, and has few bytes, is ok. -/
def OkOf {α : Type} (R : RD α) (enc : α → List UInt8) (ok : α → Prop) : Prop := ∀ (w : World) (p : Nat → Prop) (cs : List Value) (x : α), R w p cs x → (enc x).length ≤ 5000 → ok x ∧ 1 ≤ (enc x).length
theorem ok_int : OkOf (rInt .i64) encI isI64 := fun _ _ _ _ h _ => ⟨isI64_wf h.2, (numB_len _).2⟩
theorem ok_num : OkOf (rInt .u64) encU isU64 := fun _ _ _ _ h _ => ⟨isU64_wf h.2, (numB_len _).2⟩
theorem ok_flag : OkOf rBool encF okF := fun _ _ _ _ _ _ => ⟨trivial, (numB_len _).2⟩
theorem textB_ok {l : List UInt8} (h : (textB l).length ≤ 5000) : okT l ∧ 1 ≤ (textB l).length := by
  have := (numB_len l.length).2
  unfold textB at *
  simp only [List.length_append] at *
  exact ⟨by unfold okT; omega, by omega⟩
theorem ok_text : OkOf rStr textB okT := fun _ _ _ _ _ hl => textB_ok hl
theorem ok_bytes : OkOf rBytes textB okT := fun _ _ _ _ _ hl => textB_ok hl
theorem flat_ok {α : Type} {enc : α → List UInt8} : ∀ (l : List α), (l.flatMap enc).length ≤ 5000 → (∀ x ∈ l, (enc x).length ≤ 5000 → 1 ≤ (enc x).length) → l.length ≤ (l.flatMap enc).length ∧ ∀ x ∈ l, (enc x).length ≤ 5000
  | [], _, _ => ⟨Nat.le_refl _, fun x hx => absurd hx List.not_mem_nil⟩
  | y :: l, h, hk => by
    simp only [List.flatMap_cons, List.length_append, List.length_cons] at *
    obtain ⟨h1, h2⟩ := flat_ok l (by omega) (fun x hx => hk x (List.mem_cons_of_mem _ hx))
    have h3 := hk y List.mem_cons_self (by omega)
    refine ⟨by omega, fun x hx => ?_⟩
    rcases List.mem_cons.mp hx with rfl | hx
    · omega
    · exact h2 x hx
theorem OkOf.list {α : Type} {R : RD α} {enc : α → List UInt8} {ok : α → Prop} (h : OkOf R enc ok) : OkOf (rList R) (encL enc) (okL ok) := by
  rintro w p cs l ⟨a, cap, css, -, hn, -, -, -, hr⟩ hl
  have h1 := (numB_len l.length).2
  unfold encL at hl ⊢
  simp only [List.length_append] at hl ⊢
  have hx : ∀ x ∈ l, ∃ c, R w p c x := fun x hx => by
    obtain ⟨i, hi, rfl⟩ := List.getElem_of_mem hx
    exact ⟨css[i]'(by omega), hr i _ _ (List.getElem?_eq_getElem _) (List.getElem?_eq_getElem _)⟩
  obtain ⟨h2, h3⟩ := flat_ok (enc := enc) l (by omega) (fun x hx' hs => by
    obtain ⟨c, hc⟩ := hx x hx'
    exact (h w p c x hc hs).2)
  refine ⟨⟨by omega, fun x hx' => ?_⟩, by omega⟩
  obtain ⟨c, hc⟩ := hx x hx'
  exact (h w p c x hc (h3 x hx')).1
def okGValue (x : GValue) : Prop := (isI64 x.fKind ∧ isI64 x.fI) ∧ okT x.fS
theorem seq_GValue : pGValue = fun s => ((fun q => (⟨q.1.1, q.1.2, q.2⟩ : GValue)) ((seqP (seqP pInt pInt) pBytes) s).1, ((seqP (seqP pInt pInt) pBytes) s).2) := by
  funext s
  simp only [pGValue, seqP]
theorem good_GValue : Good pGValue encGValue okGValue := by
  rw [seq_GValue]
  exact ((good_int.seq good_int).seq good_bytes).map (fun q => (⟨q.1.1, q.1.2, q.2⟩ : GValue)) (fun y : GValue => ((y.fKind, y.fI), y.fS)) (fun _ => rfl) (fun _ => rfl)
theorem ok_GValue : OkOf rGValue encGValue okGValue := by
  rintro w p cs x ⟨c0, c1, c2, -, h0, h1, h2⟩ hl
  unfold encGValue at hl ⊢
  simp only [List.length_append] at hl ⊢
  have g0 := ok_int _ _ _ _ h0 (by omega)
  have g1 := ok_int _ _ _ _ h1 (by omega)
  have g2 := ok_text _ _ _ _ h2 (by omega)
  exact ⟨⟨⟨g0.1, g1.1⟩, g2.1⟩, by have := g0.2; omega⟩
def okGColumn (x : GColumn) : Prop := (okT x.fName ∧ isI64 x.fKind) ∧ okF x.fNull
theorem seq_GColumn : pGColumn = fun s => ((fun q => (⟨q.1.1, q.1.2, q.2⟩ : GColumn)) ((seqP (seqP pBytes pInt) pFlag) s).1, ((seqP (seqP pBytes pInt) pFlag) s).2) := by
  funext s
  simp only [pGColumn, seqP]
theorem good_GColumn : Good pGColumn encGColumn okGColumn := by
  rw [seq_GColumn]
  exact ((good_bytes.seq good_int).seq good_flag).map (fun q => (⟨q.1.1, q.1.2, q.2⟩ : GColumn)) (fun y : GColumn => ((y.fName, y.fKind), y.fNull)) (fun _ => rfl) (fun _ => rfl)
theorem ok_GColumn : OkOf rGColumn encGColumn okGColumn := by
  rintro w p cs x ⟨c0, c1, c2, -, h0, h1, h2⟩ hl
  unfold encGColumn at hl ⊢
  simp only [List.length_append] at hl ⊢
  have g0 := ok_text _ _ _ _ h0 (by omega)
  have g1 := ok_int _ _ _ _ h1 (by omega)
  have g2 := ok_flag _ _ _ _ h2 (by omega)
  exact ⟨⟨⟨g0.1, g1.1⟩, g2.1⟩, by have := g0.2; omega⟩
def okGTable (x : GTable) : Prop := ((isI64 x.fID ∧ okT x.fName) ∧ (okL okGColumn) x.fColumns) ∧ (okL isI64) x.fKey
theorem seq_GTable : pGTable = fun s => ((fun q => (⟨q.1.1.1, q.1.1.2, q.1.2, q.2⟩ : GTable)) ((seqP (seqP (seqP pInt pBytes) (pList pGColumn)) (pList pInt)) s).1, ((seqP (seqP (seqP pInt pBytes) (pList pGColumn)) (pList pInt)) s).2) := by
  funext s
  simp only [pGTable, seqP]
theorem good_GTable : Good pGTable encGTable okGTable := by
  rw [seq_GTable]
  exact (((good_int.seq good_bytes).seq good_GColumn.list).seq good_int.list).map (fun q => (⟨q.1.1.1, q.1.1.2, q.1.2, q.2⟩ : GTable)) (fun y : GTable => (((y.fID, y.fName), y.fColumns), y.fKey)) (fun _ => rfl) (fun _ => rfl)
theorem ok_GTable : OkOf rGTable encGTable okGTable := by
  rintro w p cs x ⟨c0, c1, c2, c3, -, h0, h1, h2, h3⟩ hl
  unfold encGTable at hl ⊢
  simp only [List.length_append] at hl ⊢
  have g0 := ok_int _ _ _ _ h0 (by omega)
  have g1 := ok_text _ _ _ _ h1 (by omega)
  have g2 := ok_GColumn.list _ _ _ _ h2 (by omega)
  have g3 := ok_int.list _ _ _ _ h3 (by omega)
  exact ⟨⟨⟨⟨g0.1, g1.1⟩, g2.1⟩, g3.1⟩, by have := g0.2; omega⟩
def okGIndex (x : GIndex) : Prop := (((((isI64 x.fID ∧ isI64 x.fTable) ∧ okT x.fName) ∧ (okL isI64) x.fColumns) ∧ okF x.fUnique) ∧ isI64 x.fState) ∧ okF x.fBad
theorem seq_GIndex : pGIndex = fun s => ((fun q => (⟨q.1.1.1.1.1.1, q.1.1.1.1.1.2, q.1.1.1.1.2, q.1.1.1.2, q.1.1.2, q.1.2, q.2⟩ : GIndex)) ((seqP (seqP (seqP (seqP (seqP (seqP pInt pInt) pBytes) (pList pInt)) pFlag) pInt) pFlag) s).1, ((seqP (seqP (seqP (seqP (seqP (seqP pInt pInt) pBytes) (pList pInt)) pFlag) pInt) pFlag) s).2) := by
  funext s
  simp only [pGIndex, seqP]
theorem good_GIndex : Good pGIndex encGIndex okGIndex := by
  rw [seq_GIndex]
  exact ((((((good_int.seq good_int).seq good_bytes).seq good_int.list).seq good_flag).seq good_int).seq good_flag).map (fun q => (⟨q.1.1.1.1.1.1, q.1.1.1.1.1.2, q.1.1.1.1.2, q.1.1.1.2, q.1.1.2, q.1.2, q.2⟩ : GIndex)) (fun y : GIndex => ((((((y.fID, y.fTable), y.fName), y.fColumns), y.fUnique), y.fState), y.fBad)) (fun _ => rfl) (fun _ => rfl)
theorem ok_GIndex : OkOf rGIndex encGIndex okGIndex := by
  rintro w p cs x ⟨c0, c1, c2, c3, c4, c5, c6, -, h0, h1, h2, h3, h4, h5, h6⟩ hl
  unfold encGIndex at hl ⊢
  simp only [List.length_append] at hl ⊢
  have g0 := ok_int _ _ _ _ h0 (by omega)
  have g1 := ok_int _ _ _ _ h1 (by omega)
  have g2 := ok_text _ _ _ _ h2 (by omega)
  have g3 := ok_int.list _ _ _ _ h3 (by omega)
  have g4 := ok_flag _ _ _ _ h4 (by omega)
  have g5 := ok_int _ _ _ _ h5 (by omega)
  have g6 := ok_flag _ _ _ _ h6 (by omega)
  exact ⟨⟨⟨⟨⟨⟨⟨g0.1, g1.1⟩, g2.1⟩, g3.1⟩, g4.1⟩, g5.1⟩, g6.1⟩, by have := g0.2; omega⟩
def okGCatalog (x : GCatalog) : Prop := ((isI64 x.fVersion ∧ isI64 x.fNext) ∧ (okL okGTable) x.fTables) ∧ (okL okGIndex) x.fIndexes
theorem seq_GCatalog : pGCatalog = fun s => ((fun q => (⟨q.1.1.1, q.1.1.2, q.1.2, q.2⟩ : GCatalog)) ((seqP (seqP (seqP pInt pInt) (pList pGTable)) (pList pGIndex)) s).1, ((seqP (seqP (seqP pInt pInt) (pList pGTable)) (pList pGIndex)) s).2) := by
  funext s
  simp only [pGCatalog, seqP]
theorem good_GCatalog : Good pGCatalog encGCatalog okGCatalog := by
  rw [seq_GCatalog]
  exact (((good_int.seq good_int).seq good_GTable.list).seq good_GIndex.list).map (fun q => (⟨q.1.1.1, q.1.1.2, q.1.2, q.2⟩ : GCatalog)) (fun y : GCatalog => (((y.fVersion, y.fNext), y.fTables), y.fIndexes)) (fun _ => rfl) (fun _ => rfl)
theorem ok_GCatalog : OkOf rGCatalog encGCatalog okGCatalog := by
  rintro w p cs x ⟨c0, c1, c2, c3, -, h0, h1, h2, h3⟩ hl
  unfold encGCatalog at hl ⊢
  simp only [List.length_append] at hl ⊢
  have g0 := ok_int _ _ _ _ h0 (by omega)
  have g1 := ok_int _ _ _ _ h1 (by omega)
  have g2 := ok_GTable.list _ _ _ _ h2 (by omega)
  have g3 := ok_GIndex.list _ _ _ _ h3 (by omega)
  exact ⟨⟨⟨⟨g0.1, g1.1⟩, g2.1⟩, g3.1⟩, by have := g0.2; omega⟩
def okGPair (x : GPair) : Prop := (okT x.fKey ∧ okT x.fValue) ∧ isI64 x.fVersion
theorem seq_GPair : pGPair = fun s => ((fun q => (⟨q.1.1, q.1.2, q.2⟩ : GPair)) ((seqP (seqP pBytes pBytes) pInt) s).1, ((seqP (seqP pBytes pBytes) pInt) s).2) := by
  funext s
  simp only [pGPair, seqP]
theorem good_GPair : Good pGPair encGPair okGPair := by
  rw [seq_GPair]
  exact ((good_bytes.seq good_bytes).seq good_int).map (fun q => (⟨q.1.1, q.1.2, q.2⟩ : GPair)) (fun y : GPair => ((y.fKey, y.fValue), y.fVersion)) (fun _ => rfl) (fun _ => rfl)
theorem ok_GPair : OkOf rGPair encGPair okGPair := by
  rintro w p cs x ⟨c0, c1, c2, -, h0, h1, h2⟩ hl
  unfold encGPair at hl ⊢
  simp only [List.length_append] at hl ⊢
  have g0 := ok_bytes _ _ _ _ h0 (by omega)
  have g1 := ok_bytes _ _ _ _ h1 (by omega)
  have g2 := ok_int _ _ _ _ h2 (by omega)
  exact ⟨⟨⟨g0.1, g1.1⟩, g2.1⟩, by have := g0.2; omega⟩
def okGWrite (x : GWrite) : Prop := (okT x.fKey ∧ okT x.fValue) ∧ okF x.fDrop
theorem seq_GWrite : pGWrite = fun s => ((fun q => (⟨q.1.1, q.1.2, q.2⟩ : GWrite)) ((seqP (seqP pBytes pBytes) pFlag) s).1, ((seqP (seqP pBytes pBytes) pFlag) s).2) := by
  funext s
  simp only [pGWrite, seqP]
theorem good_GWrite : Good pGWrite encGWrite okGWrite := by
  rw [seq_GWrite]
  exact ((good_bytes.seq good_bytes).seq good_flag).map (fun q => (⟨q.1.1, q.1.2, q.2⟩ : GWrite)) (fun y : GWrite => ((y.fKey, y.fValue), y.fDrop)) (fun _ => rfl) (fun _ => rfl)
theorem ok_GWrite : OkOf rGWrite encGWrite okGWrite := by
  rintro w p cs x ⟨c0, c1, c2, -, h0, h1, h2⟩ hl
  unfold encGWrite at hl ⊢
  simp only [List.length_append] at hl ⊢
  have g0 := ok_bytes _ _ _ _ h0 (by omega)
  have g1 := ok_bytes _ _ _ _ h1 (by omega)
  have g2 := ok_flag _ _ _ _ h2 (by omega)
  exact ⟨⟨⟨g0.1, g1.1⟩, g2.1⟩, by have := g0.2; omega⟩
def okGSpan (x : GSpan) : Prop := okT x.fFrom ∧ okT x.fTo
theorem seq_GSpan : pGSpan = fun s => ((fun q => (⟨q.1, q.2⟩ : GSpan)) ((seqP pBytes pBytes) s).1, ((seqP pBytes pBytes) s).2) := by
  funext s
  simp only [pGSpan, seqP]
theorem good_GSpan : Good pGSpan encGSpan okGSpan := by
  rw [seq_GSpan]
  exact (good_bytes.seq good_bytes).map (fun q => (⟨q.1, q.2⟩ : GSpan)) (fun y : GSpan => (y.fFrom, y.fTo)) (fun _ => rfl) (fun _ => rfl)
theorem ok_GSpan : OkOf rGSpan encGSpan okGSpan := by
  rintro w p cs x ⟨c0, c1, -, h0, h1⟩ hl
  unfold encGSpan at hl ⊢
  simp only [List.length_append] at hl ⊢
  have g0 := ok_bytes _ _ _ _ h0 (by omega)
  have g1 := ok_bytes _ _ _ _ h1 (by omega)
  exact ⟨⟨g0.1, g1.1⟩, by have := g0.2; omega⟩
def okGSeen (x : GSeen) : Prop := okGSpan x.fSpan ∧ (okL okGPair) x.fPairs
theorem seq_GSeen : pGSeen = fun s => ((fun q => (⟨q.1, q.2⟩ : GSeen)) ((seqP pGSpan (pList pGPair)) s).1, ((seqP pGSpan (pList pGPair)) s).2) := by
  funext s
  simp only [pGSeen, seqP]
theorem good_GSeen : Good pGSeen encGSeen okGSeen := by
  rw [seq_GSeen]
  exact (good_GSpan.seq good_GPair.list).map (fun q => (⟨q.1, q.2⟩ : GSeen)) (fun y : GSeen => (y.fSpan, y.fPairs)) (fun _ => rfl) (fun _ => rfl)
theorem ok_GSeen : OkOf rGSeen encGSeen okGSeen := by
  rintro w p cs x ⟨c0, c1, -, h0, h1⟩ hl
  unfold encGSeen at hl ⊢
  simp only [List.length_append] at hl ⊢
  have g0 := ok_GSpan _ _ _ _ h0 (by omega)
  have g1 := ok_GPair.list _ _ _ _ h1 (by omega)
  exact ⟨⟨g0.1, g1.1⟩, by have := g0.2; omega⟩
def okGSet (x : GSet) : Prop := isI64 x.fColumn ∧ okGValue x.fValue
theorem seq_GSet : pGSet = fun s => ((fun q => (⟨q.1, q.2⟩ : GSet)) ((seqP pInt pGValue) s).1, ((seqP pInt pGValue) s).2) := by
  funext s
  simp only [pGSet, seqP]
theorem good_GSet : Good pGSet encGSet okGSet := by
  rw [seq_GSet]
  exact (good_int.seq good_GValue).map (fun q => (⟨q.1, q.2⟩ : GSet)) (fun y : GSet => (y.fColumn, y.fValue)) (fun _ => rfl) (fun _ => rfl)
theorem ok_GSet : OkOf rGSet encGSet okGSet := by
  rintro w p cs x ⟨c0, c1, -, h0, h1⟩ hl
  unfold encGSet at hl ⊢
  simp only [List.length_append] at hl ⊢
  have g0 := ok_int _ _ _ _ h0 (by omega)
  have g1 := ok_GValue _ _ _ _ h1 (by omega)
  exact ⟨⟨g0.1, g1.1⟩, by have := g0.2; omega⟩
def okGOp (x : GOp) : Prop := (((((((((isI64 x.fKind ∧ okT x.fTable) ∧ okT x.fIndex) ∧ (okL okGValue) x.fRow) ∧ (okL okGValue) x.fKey) ∧ (okL okGSet) x.fSet) ∧ (okL okGValue) x.fFrom) ∧ (okL okGValue) x.fTo) ∧ isI64 x.fLimit) ∧ okF x.fReverse) ∧ (okL okT) x.fNames
theorem seq_GOp : pGOp = fun s => ((fun q => (⟨q.1.1.1.1.1.1.1.1.1.1, q.1.1.1.1.1.1.1.1.1.2, q.1.1.1.1.1.1.1.1.2, q.1.1.1.1.1.1.1.2, q.1.1.1.1.1.1.2, q.1.1.1.1.1.2, q.1.1.1.1.2, q.1.1.1.2, q.1.1.2, q.1.2, q.2⟩ : GOp)) ((seqP (seqP (seqP (seqP (seqP (seqP (seqP (seqP (seqP (seqP pInt pBytes) pBytes) (pList pGValue)) (pList pGValue)) (pList pGSet)) (pList pGValue)) (pList pGValue)) pInt) pFlag) (pList pBytes)) s).1, ((seqP (seqP (seqP (seqP (seqP (seqP (seqP (seqP (seqP (seqP pInt pBytes) pBytes) (pList pGValue)) (pList pGValue)) (pList pGSet)) (pList pGValue)) (pList pGValue)) pInt) pFlag) (pList pBytes)) s).2) := by
  funext s
  simp only [pGOp, seqP]
theorem good_GOp : Good pGOp encGOp okGOp := by
  rw [seq_GOp]
  exact ((((((((((good_int.seq good_bytes).seq good_bytes).seq good_GValue.list).seq good_GValue.list).seq good_GSet.list).seq good_GValue.list).seq good_GValue.list).seq good_int).seq good_flag).seq good_bytes.list).map (fun q => (⟨q.1.1.1.1.1.1.1.1.1.1, q.1.1.1.1.1.1.1.1.1.2, q.1.1.1.1.1.1.1.1.2, q.1.1.1.1.1.1.1.2, q.1.1.1.1.1.1.2, q.1.1.1.1.1.2, q.1.1.1.1.2, q.1.1.1.2, q.1.1.2, q.1.2, q.2⟩ : GOp)) (fun y : GOp => ((((((((((y.fKind, y.fTable), y.fIndex), y.fRow), y.fKey), y.fSet), y.fFrom), y.fTo), y.fLimit), y.fReverse), y.fNames)) (fun _ => rfl) (fun _ => rfl)
theorem ok_GOp : OkOf rGOp encGOp okGOp := by
  rintro w p cs x ⟨c0, c1, c2, c3, c4, c5, c6, c7, c8, c9, c10, -, h0, h1, h2, h3, h4, h5, h6, h7, h8, h9, h10⟩ hl
  unfold encGOp at hl ⊢
  simp only [List.length_append] at hl ⊢
  have g0 := ok_int _ _ _ _ h0 (by omega)
  have g1 := ok_text _ _ _ _ h1 (by omega)
  have g2 := ok_text _ _ _ _ h2 (by omega)
  have g3 := ok_GValue.list _ _ _ _ h3 (by omega)
  have g4 := ok_GValue.list _ _ _ _ h4 (by omega)
  have g5 := ok_GSet.list _ _ _ _ h5 (by omega)
  have g6 := ok_GValue.list _ _ _ _ h6 (by omega)
  have g7 := ok_GValue.list _ _ _ _ h7 (by omega)
  have g8 := ok_int _ _ _ _ h8 (by omega)
  have g9 := ok_flag _ _ _ _ h9 (by omega)
  have g10 := ok_bytes.list _ _ _ _ h10 (by omega)
  exact ⟨⟨⟨⟨⟨⟨⟨⟨⟨⟨⟨g0.1, g1.1⟩, g2.1⟩, g3.1⟩, g4.1⟩, g5.1⟩, g6.1⟩, g7.1⟩, g8.1⟩, g9.1⟩, g10.1⟩, by have := g0.2; omega⟩
def okGOwner (x : GOwner) : Prop := isI64 x.fGroup ∧ okT x.fFrom
theorem seq_GOwner : pGOwner = fun s => ((fun q => (⟨q.1, q.2⟩ : GOwner)) ((seqP pInt pBytes) s).1, ((seqP pInt pBytes) s).2) := by
  funext s
  simp only [pGOwner, seqP]
theorem good_GOwner : Good pGOwner encGOwner okGOwner := by
  rw [seq_GOwner]
  exact (good_int.seq good_bytes).map (fun q => (⟨q.1, q.2⟩ : GOwner)) (fun y : GOwner => (y.fGroup, y.fFrom)) (fun _ => rfl) (fun _ => rfl)
theorem ok_GOwner : OkOf rGOwner encGOwner okGOwner := by
  rintro w p cs x ⟨c0, c1, -, h0, h1⟩ hl
  unfold encGOwner at hl ⊢
  simp only [List.length_append] at hl ⊢
  have g0 := ok_int _ _ _ _ h0 (by omega)
  have g1 := ok_bytes _ _ _ _ h1 (by omega)
  exact ⟨⟨g0.1, g1.1⟩, by have := g0.2; omega⟩
def okGRoutes (x : GRoutes) : Prop := (((isI64 x.fEpoch ∧ isI64 x.fBase) ∧ (okL okGOwner) x.fSpans) ∧ isI64 x.fMoving) ∧ okT x.fCut
theorem seq_GRoutes : pGRoutes = fun s => ((fun q => (⟨q.1.1.1.1, q.1.1.1.2, q.1.1.2, q.1.2, q.2⟩ : GRoutes)) ((seqP (seqP (seqP (seqP pInt pInt) (pList pGOwner)) pInt) pBytes) s).1, ((seqP (seqP (seqP (seqP pInt pInt) (pList pGOwner)) pInt) pBytes) s).2) := by
  funext s
  simp only [pGRoutes, seqP]
theorem good_GRoutes : Good pGRoutes encGRoutes okGRoutes := by
  rw [seq_GRoutes]
  exact ((((good_int.seq good_int).seq good_GOwner.list).seq good_int).seq good_bytes).map (fun q => (⟨q.1.1.1.1, q.1.1.1.2, q.1.1.2, q.1.2, q.2⟩ : GRoutes)) (fun y : GRoutes => ((((y.fEpoch, y.fBase), y.fSpans), y.fMoving), y.fCut)) (fun _ => rfl) (fun _ => rfl)
theorem ok_GRoutes : OkOf rGRoutes encGRoutes okGRoutes := by
  rintro w p cs x ⟨c0, c1, c2, c3, c4, -, h0, h1, h2, h3, h4⟩ hl
  unfold encGRoutes at hl ⊢
  simp only [List.length_append] at hl ⊢
  have g0 := ok_int _ _ _ _ h0 (by omega)
  have g1 := ok_int _ _ _ _ h1 (by omega)
  have g2 := ok_GOwner.list _ _ _ _ h2 (by omega)
  have g3 := ok_int _ _ _ _ h3 (by omega)
  have g4 := ok_bytes _ _ _ _ h4 (by omega)
  exact ⟨⟨⟨⟨⟨g0.1, g1.1⟩, g2.1⟩, g3.1⟩, g4.1⟩, by have := g0.2; omega⟩
def okGCall (x : GCall) : Prop := (isU64 x.fClient ∧ isU64 x.fSeq) ∧ okT x.fData
theorem seq_GCall : pGCall = fun s => ((fun q => (⟨q.1.1, q.1.2, q.2⟩ : GCall)) ((seqP (seqP pNum pNum) pBytes) s).1, ((seqP (seqP pNum pNum) pBytes) s).2) := by
  funext s
  simp only [pGCall, seqP]
theorem good_GCall : Good pGCall encGCall okGCall := by
  rw [seq_GCall]
  exact ((good_num.seq good_num).seq good_bytes).map (fun q => (⟨q.1.1, q.1.2, q.2⟩ : GCall)) (fun y : GCall => ((y.fClient, y.fSeq), y.fData)) (fun _ => rfl) (fun _ => rfl)
theorem ok_GCall : OkOf rGCall encGCall okGCall := by
  rintro w p cs x ⟨c0, c1, c2, -, h0, h1, h2⟩ hl
  unfold encGCall at hl ⊢
  simp only [List.length_append] at hl ⊢
  have g0 := ok_num _ _ _ _ h0 (by omega)
  have g1 := ok_num _ _ _ _ h1 (by omega)
  have g2 := ok_bytes _ _ _ _ h2 (by omega)
  exact ⟨⟨⟨g0.1, g1.1⟩, g2.1⟩, by have := g0.2; omega⟩
def okGCommand (x : GCommand) : Prop := (((((((((((((isI64 x.fKind ∧ isI64 x.fEpoch) ∧ isU64 x.fTxn) ∧ isI64 x.fN) ∧ isI64 x.fFrom) ∧ isI64 x.fTo) ∧ okF x.fFlag) ∧ okT x.fKey) ∧ okGSpan x.fSpan) ∧ (okL okGPair) x.fPairs) ∧ (okL okGSeen) x.fSeens) ∧ (okL okGWrite) x.fWrites) ∧ okGTable x.fTable) ∧ okGIndex x.fIndex) ∧ okT x.fName
theorem seq_GCommand : pGCommand = fun s => ((fun q => (⟨q.1.1.1.1.1.1.1.1.1.1.1.1.1.1, q.1.1.1.1.1.1.1.1.1.1.1.1.1.2, q.1.1.1.1.1.1.1.1.1.1.1.1.2, q.1.1.1.1.1.1.1.1.1.1.1.2, q.1.1.1.1.1.1.1.1.1.1.2, q.1.1.1.1.1.1.1.1.1.2, q.1.1.1.1.1.1.1.1.2, q.1.1.1.1.1.1.1.2, q.1.1.1.1.1.1.2, q.1.1.1.1.1.2, q.1.1.1.1.2, q.1.1.1.2, q.1.1.2, q.1.2, q.2⟩ : GCommand)) ((seqP (seqP (seqP (seqP (seqP (seqP (seqP (seqP (seqP (seqP (seqP (seqP (seqP (seqP pInt pInt) pNum) pInt) pInt) pInt) pFlag) pBytes) pGSpan) (pList pGPair)) (pList pGSeen)) (pList pGWrite)) pGTable) pGIndex) pBytes) s).1, ((seqP (seqP (seqP (seqP (seqP (seqP (seqP (seqP (seqP (seqP (seqP (seqP (seqP (seqP pInt pInt) pNum) pInt) pInt) pInt) pFlag) pBytes) pGSpan) (pList pGPair)) (pList pGSeen)) (pList pGWrite)) pGTable) pGIndex) pBytes) s).2) := by
  funext s
  simp only [pGCommand, seqP]
theorem good_GCommand : Good pGCommand encGCommand okGCommand := by
  rw [seq_GCommand]
  exact ((((((((((((((good_int.seq good_int).seq good_num).seq good_int).seq good_int).seq good_int).seq good_flag).seq good_bytes).seq good_GSpan).seq good_GPair.list).seq good_GSeen.list).seq good_GWrite.list).seq good_GTable).seq good_GIndex).seq good_bytes).map (fun q => (⟨q.1.1.1.1.1.1.1.1.1.1.1.1.1.1, q.1.1.1.1.1.1.1.1.1.1.1.1.1.2, q.1.1.1.1.1.1.1.1.1.1.1.1.2, q.1.1.1.1.1.1.1.1.1.1.1.2, q.1.1.1.1.1.1.1.1.1.1.2, q.1.1.1.1.1.1.1.1.1.2, q.1.1.1.1.1.1.1.1.2, q.1.1.1.1.1.1.1.2, q.1.1.1.1.1.1.2, q.1.1.1.1.1.2, q.1.1.1.1.2, q.1.1.1.2, q.1.1.2, q.1.2, q.2⟩ : GCommand)) (fun y : GCommand => ((((((((((((((y.fKind, y.fEpoch), y.fTxn), y.fN), y.fFrom), y.fTo), y.fFlag), y.fKey), y.fSpan), y.fPairs), y.fSeens), y.fWrites), y.fTable), y.fIndex), y.fName)) (fun _ => rfl) (fun _ => rfl)
theorem ok_GCommand : OkOf rGCommand encGCommand okGCommand := by
  rintro w p cs x ⟨c0, c1, c2, c3, c4, c5, c6, c7, c8, c9, c10, c11, c12, c13, c14, -, h0, h1, h2, h3, h4, h5, h6, h7, h8, h9, h10, h11, h12, h13, h14⟩ hl
  unfold encGCommand at hl ⊢
  simp only [List.length_append] at hl ⊢
  have g0 := ok_int _ _ _ _ h0 (by omega)
  have g1 := ok_int _ _ _ _ h1 (by omega)
  have g2 := ok_num _ _ _ _ h2 (by omega)
  have g3 := ok_int _ _ _ _ h3 (by omega)
  have g4 := ok_int _ _ _ _ h4 (by omega)
  have g5 := ok_int _ _ _ _ h5 (by omega)
  have g6 := ok_flag _ _ _ _ h6 (by omega)
  have g7 := ok_bytes _ _ _ _ h7 (by omega)
  have g8 := ok_GSpan _ _ _ _ h8 (by omega)
  have g9 := ok_GPair.list _ _ _ _ h9 (by omega)
  have g10 := ok_GSeen.list _ _ _ _ h10 (by omega)
  have g11 := ok_GWrite.list _ _ _ _ h11 (by omega)
  have g12 := ok_GTable _ _ _ _ h12 (by omega)
  have g13 := ok_GIndex _ _ _ _ h13 (by omega)
  have g14 := ok_text _ _ _ _ h14 (by omega)
  exact ⟨⟨⟨⟨⟨⟨⟨⟨⟨⟨⟨⟨⟨⟨⟨g0.1, g1.1⟩, g2.1⟩, g3.1⟩, g4.1⟩, g5.1⟩, g6.1⟩, g7.1⟩, g8.1⟩, g9.1⟩, g10.1⟩, g11.1⟩, g12.1⟩, g13.1⟩, g14.1⟩, by have := g0.2; omega⟩
def okGReply (x : GReply) : Prop := ((((((isI64 x.fErr ∧ isU64 x.fTxn) ∧ isI64 x.fN) ∧ okF x.fFlag) ∧ (okL okGPair) x.fPairs) ∧ (okL isU64) x.fTxns) ∧ okGCatalog x.fCatalog) ∧ okGRoutes x.fRoutes
theorem seq_GReply : pGReply = fun s => ((fun q => (⟨q.1.1.1.1.1.1.1, q.1.1.1.1.1.1.2, q.1.1.1.1.1.2, q.1.1.1.1.2, q.1.1.1.2, q.1.1.2, q.1.2, q.2⟩ : GReply)) ((seqP (seqP (seqP (seqP (seqP (seqP (seqP pInt pNum) pInt) pFlag) (pList pGPair)) (pList pNum)) pGCatalog) pGRoutes) s).1, ((seqP (seqP (seqP (seqP (seqP (seqP (seqP pInt pNum) pInt) pFlag) (pList pGPair)) (pList pNum)) pGCatalog) pGRoutes) s).2) := by
  funext s
  simp only [pGReply, seqP]
theorem good_GReply : Good pGReply encGReply okGReply := by
  rw [seq_GReply]
  exact (((((((good_int.seq good_num).seq good_int).seq good_flag).seq good_GPair.list).seq good_num.list).seq good_GCatalog).seq good_GRoutes).map (fun q => (⟨q.1.1.1.1.1.1.1, q.1.1.1.1.1.1.2, q.1.1.1.1.1.2, q.1.1.1.1.2, q.1.1.1.2, q.1.1.2, q.1.2, q.2⟩ : GReply)) (fun y : GReply => (((((((y.fErr, y.fTxn), y.fN), y.fFlag), y.fPairs), y.fTxns), y.fCatalog), y.fRoutes)) (fun _ => rfl) (fun _ => rfl)
theorem ok_GReply : OkOf rGReply encGReply okGReply := by
  rintro w p cs x ⟨c0, c1, c2, c3, c4, c5, c6, c7, -, h0, h1, h2, h3, h4, h5, h6, h7⟩ hl
  unfold encGReply at hl ⊢
  simp only [List.length_append] at hl ⊢
  have g0 := ok_int _ _ _ _ h0 (by omega)
  have g1 := ok_num _ _ _ _ h1 (by omega)
  have g2 := ok_int _ _ _ _ h2 (by omega)
  have g3 := ok_flag _ _ _ _ h3 (by omega)
  have g4 := ok_GPair.list _ _ _ _ h4 (by omega)
  have g5 := ok_num.list _ _ _ _ h5 (by omega)
  have g6 := ok_GCatalog _ _ _ _ h6 (by omega)
  have g7 := ok_GRoutes _ _ _ _ h7 (by omega)
  exact ⟨⟨⟨⟨⟨⟨⟨⟨g0.1, g1.1⟩, g2.1⟩, g3.1⟩, g4.1⟩, g5.1⟩, g6.1⟩, g7.1⟩, by have := g0.2; omega⟩
def okGAsk (x : GAsk) : Prop := (((((isI64 x.fKind ∧ (okL okGOp) x.fOps) ∧ okGTable x.fTable) ∧ okGIndex x.fIndex) ∧ okT x.fName) ∧ isI64 x.fN) ∧ okT x.fKey
theorem seq_GAsk : pGAsk = fun s => ((fun q => (⟨q.1.1.1.1.1.1, q.1.1.1.1.1.2, q.1.1.1.1.2, q.1.1.1.2, q.1.1.2, q.1.2, q.2⟩ : GAsk)) ((seqP (seqP (seqP (seqP (seqP (seqP pInt (pList pGOp)) pGTable) pGIndex) pBytes) pInt) pBytes) s).1, ((seqP (seqP (seqP (seqP (seqP (seqP pInt (pList pGOp)) pGTable) pGIndex) pBytes) pInt) pBytes) s).2) := by
  funext s
  simp only [pGAsk, seqP]
theorem good_GAsk : Good pGAsk encGAsk okGAsk := by
  rw [seq_GAsk]
  exact ((((((good_int.seq good_GOp.list).seq good_GTable).seq good_GIndex).seq good_bytes).seq good_int).seq good_bytes).map (fun q => (⟨q.1.1.1.1.1.1, q.1.1.1.1.1.2, q.1.1.1.1.2, q.1.1.1.2, q.1.1.2, q.1.2, q.2⟩ : GAsk)) (fun y : GAsk => ((((((y.fKind, y.fOps), y.fTable), y.fIndex), y.fName), y.fN), y.fKey)) (fun _ => rfl) (fun _ => rfl)
theorem ok_GAsk : OkOf rGAsk encGAsk okGAsk := by
  rintro w p cs x ⟨c0, c1, c2, c3, c4, c5, c6, -, h0, h1, h2, h3, h4, h5, h6⟩ hl
  unfold encGAsk at hl ⊢
  simp only [List.length_append] at hl ⊢
  have g0 := ok_int _ _ _ _ h0 (by omega)
  have g1 := ok_GOp.list _ _ _ _ h1 (by omega)
  have g2 := ok_GTable _ _ _ _ h2 (by omega)
  have g3 := ok_GIndex _ _ _ _ h3 (by omega)
  have g4 := ok_text _ _ _ _ h4 (by omega)
  have g5 := ok_int _ _ _ _ h5 (by omega)
  have g6 := ok_bytes _ _ _ _ h6 (by omega)
  exact ⟨⟨⟨⟨⟨⟨⟨g0.1, g1.1⟩, g2.1⟩, g3.1⟩, g4.1⟩, g5.1⟩, g6.1⟩, by have := g0.2; omega⟩
end Go.Proofs.YtabgbleldbapbaaGreat
