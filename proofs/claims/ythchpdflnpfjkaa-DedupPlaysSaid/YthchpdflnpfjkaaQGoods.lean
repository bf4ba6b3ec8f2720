/- EACH STRUCT of package api: its reader and its writer fit each other. Printed by gen14.py. -/
import Derived.Test.YthchpdflnpfjkaaQGood
import Derived.Test.YthchpdflnpfjkaaQGtX
namespace Go.Proofs.Ythchpdflnpfjkaa
open Go.RowKit

abbrev okF (_ : Bool) : Prop := True
abbrev okT (l : List UInt8) : Prop := l.length ≤ 65536
abbrev okL {α : Type} (ok : α → Prop) (l : List α) : Prop := l.length ≤ 5000 ∧ ∀ x ∈ l, ok x
/-- What is read out of cells, and has few bytes, is ok. -/
def OkOf {α : Type} (R : RD α) (enc : α → List UInt8) (ok : α → Prop) : Prop := ∀ (w : World) (p : Nat → Prop) (cs : List Value) (x : α), R w p cs x → (enc x).length ≤ 5000 → ok x ∧ 1 ≤ (enc x).length
theorem ok_int : OkOf (rInt .i64) encI isI64 := fun _ _ _ _ h _ => ⟨isI64_wf h.2, (numB_len _).2⟩
theorem ok_num : OkOf (rInt .u64) encU isU64 := fun _ _ _ _ h _ => ⟨isU64_wf h.2, (numB_len _).2⟩
theorem ok_flag : OkOf rBool encF okF := fun _ _ _ _ _ _ => ⟨trivial, (numB_len _).2⟩
theorem textB_ok {l : List UInt8} (h : (textB l).length ≤ 5000) : okT l ∧ 1 ≤ (textB l).length := by
  have := (numB_len l.length).2
  unfold textB at *
  simp only [List.length_append] at *
  exact ⟨by unfold okT; omega, by omega⟩
theorem ok_text : OkOf rStr textB okT := fun _ _ _ _ _ hl => textB_ok hl
theorem ok_bytes : OkOf rBytes textB okT := fun _ _ _ _ _ hl => textB_ok hl
theorem flat_ok {α : Type} {enc : α → List UInt8} : ∀ (l : List α), (l.flatMap enc).length ≤ 5000 → (∀ x ∈ l, (enc x).length ≤ 5000 → 1 ≤ (enc x).length) → l.length ≤ (l.flatMap enc).length ∧ ∀ x ∈ l, (enc x).length ≤ 5000
  | [], _, _ => ⟨Nat.le_refl _, fun x hx => absurd hx List.not_mem_nil⟩
  | y :: l, h, hk => by
    simp only [List.flatMap_cons, List.length_append, List.length_cons] at *
    obtain ⟨h1, h2⟩ := flat_ok l (by omega) (fun x hx => hk x (List.mem_cons_of_mem _ hx))
    have h3 := hk y List.mem_cons_self (by omega)
    refine ⟨by omega, fun x hx => ?_⟩
    rcases List.mem_cons.mp hx with rfl | hx
    · omega
    · exact h2 x hx
theorem OkOf.list {α : Type} {R : RD α} {enc : α → List UInt8} {ok : α → Prop} (h : OkOf R enc ok) : OkOf (rList R) (encL enc) (okL ok) := by
  rintro w p cs l ⟨a, cap, css, -, hn, -, -, -, hr⟩ hl
  have h1 := (numB_len l.length).2
  unfold encL at hl ⊢
  simp only [List.length_append] at hl ⊢
  have hx : ∀ x ∈ l, ∃ c, R w p c x := fun x hx => by
    obtain ⟨i, hi, rfl⟩ := List.getElem_of_mem hx
    exact ⟨css[i]'(by omega), hr i _ _ (List.getElem?_eq_getElem _) (List.getElem?_eq_getElem _)⟩
  obtain ⟨h2, h3⟩ := flat_ok (enc := enc) l (by omega) (fun x hx' hs => by
    obtain ⟨c, hc⟩ := hx x hx'
    exact (h w p c x hc hs).2)
  refine ⟨⟨by omega, fun x hx' => ?_⟩, by omega⟩
  obtain ⟨c, hc⟩ := hx x hx'
  exact (h w p c x hc (h3 x hx')).1
def okGCall (x : GCall) : Prop := (isU64 x.fClient ∧ isU64 x.fSeq) ∧ okT x.fData
theorem seq_GCall : pGCall = fun s => ((fun q => (⟨q.1.1, q.1.2, q.2⟩ : GCall)) ((seqP (seqP pNum pNum) pBytes) s).1, ((seqP (seqP pNum pNum) pBytes) s).2) := by
  funext s
  simp only [pGCall, seqP]
theorem good_GCall : Good pGCall encGCall okGCall := by
  rw [seq_GCall]
  exact ((good_num.seq good_num).seq good_bytes).map (fun q => (⟨q.1.1, q.1.2, q.2⟩ : GCall)) (fun y : GCall => ((y.fClient, y.fSeq), y.fData)) (fun _ => rfl) (fun _ => rfl)
theorem ok_GCall : OkOf rGCall encGCall okGCall := by
  rintro w p cs x ⟨c0, c1, c2, -, h0, h1, h2⟩ hl
  unfold encGCall at hl ⊢
  simp only [List.length_append] at hl ⊢
  have g0 := ok_num _ _ _ _ h0 (by omega)
  have g1 := ok_num _ _ _ _ h1 (by omega)
  have g2 := ok_bytes _ _ _ _ h2 (by omega)
  exact ⟨⟨⟨g0.1, g1.1⟩, g2.1⟩, by have := g0.2; omega⟩
end Go.Proofs.Ythchpdflnpfjkaa
