/- slices.Clone. Printed by gen18.py. -/
import Derived.Test.YtibaehlfpgipfaaSch3
import Derived.WalkSpells
namespace Go.Proofs.Ytibaehlfpgipfaa
open Go.RowKit

theorem owns_empty (w : World) (e sz base : Nat) (hb : base ≤ w.heap.size) : (w.alloc (.cells #[] e)).ownsRow base e sz (.slice (some ⟨w.heap.size, 0, none⟩) 0 0) 0 [] := by
  refine ⟨by simp, .inr ⟨w.heap.size, 0, #[], rfl, hb, heap_alloc_new _ _, Nat.le_refl _, Nat.zero_le _, by simp, by simp⟩⟩
theorem list0_run {P : Program} {t e n bytes : Nat} (S : SliceT P t e n bytes) (w : World) : (Instr.buildSlice t 0 #[]).run P w = .ok (.slice (some ⟨w.heap.size, 0, none⟩) 0 0) (w.alloc (.cells #[] e)) := by
  obtain ⟨i, z, hi, hz, hsz, hby, hzs⟩ := S.info
  unfold Instr.buildSlice
  simp [run_underlying S.under, sizeOf, typeInfo, hi, newRow, newObj, Instr.fill]
  have e : ∀ f : Nat → Value, Array.map f (Array.range 0) = #[] := fun f => by apply Array.eq_empty_of_size_eq_zero; simp
  rw [e]
  rfl
/-- Cells that lie, taken as a list's. -/
theorem rList_css {α : Type} {R : RD α} {w : World} {p : Nat → Prop} {a : Option Addr} {n cap : Nat} {l : List α} (h : rList R w p [.slice a n cap] l) : ∃ css, Lies w p a css.flatten ∧ Els R w p css l := by
  obtain ⟨a', cap', css, e, h1, h2, h3, h4, h5⟩ := h
  simp only [List.cons.injEq, Value.slice.injEq, and_true] at e
  obtain ⟨rfl, rfl, rfl⟩ := e
  exact ⟨css, h2, h1, h5⟩
theorem Els.flat_len {α : Type} {R : RD α} {sz : Nat} {w : World} {p : Nat → Prop} (L : Lawful R sz) {css : List (List Value)} {l : List α} (h : Els R w p css l) : css.flatten.length = l.length * sz := by
  have key : ∀ (css : List (List Value)), (∀ c ∈ css, c.length = sz) → css.flatten.length = css.length * sz := by
    intro css
    induction css with
    | nil => intro _; simp
    | cons c css ih =>
      intro hc
      rw [List.flatten_cons, List.length_append, ih (fun d hd => hc d (by simp [hd])), hc c (by simp), List.length_cons, Nat.add_mul]; omega
  rw [key css (fun c hc => by
    obtain ⟨i, hi, rfl⟩ := List.mem_iff_getElem.1 hc
    exact L.len (h.2 i _ (l[i]'(by rw [← h.1]; exact hi)) (List.getElem?_eq_getElem hi) (List.getElem?_eq_getElem _))), h.1]
theorem Els.ones {α : Type} {R : RD α} {w : World} {p : Nat → Prop} (L : ∀ {cs : List Value} {x : α}, R w p cs x → Go.Proofs.Ytibaehlfpgipfaa.ones cs = true) {css : List (List Value)} {l : List α} (h : Els R w p css l) : ∀ u ∈ css.flatten, u.oneCell' = true := by
  intro u hu
  obtain ⟨c, hc, hu⟩ := List.mem_flatten.1 hu
  obtain ⟨i, hi, rfl⟩ := List.mem_iff_getElem.1 hc
  have := L (h.2 i _ (l[i]'(by rw [← h.1]; exact hi)) (List.getElem?_eq_getElem hi) (List.getElem?_eq_getElem _))
  exact List.all_eq_true.1 this u hu
set_option maxHeartbeats 1000000 in
theorem clColumn_c {p : Nat → Prop} (a : Option Addr) (n cap : Nat) (l : List GColumn) (w : World) (hl : rList rGColumn w p [.slice a n cap] l) (hr : n * 32 ≤ 140737488355328) :
    Calls Try.prog 44 #[.slice a n cap] w fun e w' => ∃ a' cap' css, e = .returned (.slice a' n cap') ∧ w'.ownsRow w.heap.size 55 3 (.slice a' n cap') n css.flatten ∧ Els rGColumn w' p css l ∧ Keep Nix w w' := by
  obtain ⟨rfl, hcap, hf⟩ := rList_len hl
  have hfar : l.length ≤ 9223372036854775807 := by have := far_len; unfold maxLen at this; omega
  obtain ⟨css, lies, els⟩ := rList_css hl
  have hm : l.length ≤ maxLen := by have := far_len; omega
  have H1 := els.ones rGColumn_ones
  have hfl := els.flat_len rGColumn_lawful
  clear hl hf
  cases a with
  | none =>
    have h0 : l.length = 0 := by
      by_cases h : css.flatten = []
      · rw [h] at hfl; simp at hfl; omega
      · obtain ⟨b, off, hb, -⟩ := lies h; cases hb
    obtain rfl : l = [] := List.eq_nil_of_length_eq_zero h0
    obtain rfl : css = [] := List.eq_nil_of_length_eq_zero (by have := els.1; simpa using this)
    have hnil := fun (w' : World) (n c : Nat) => Lib.run_eql_slice_nil (P := Try.prog) w' 46 55 none n c 0 0 Try.underlying46
    clear lies H1 hfl
    go_enter Try.func44, Try.ntmps44
    go_wp2_with fail
    go_ret
    exact ⟨none, 0, [], rfl, World.ownsRow_nil _ _ _ _, Els.nil _ _ _, Keep.refl _ _⟩
  | some ad =>
    have hnil := fun (w' : World) => Lib.run_eql_slice_nil (P := Try.prog) w' 46 55 (some ad) l.length cap 0 0 Try.underlying46
    have hl0 := fun w' => list0_run T_lColumn w'
    have own0 := owns_empty w 55 3 w.heap.size (Nat.le_refl _)
    have lies2 := lies.keep ((Keep.refl Nix w).alloc (.cells #[] 55)) (fun _ _ h => h)
    have hsz : w.heap.size ≤ (w.alloc (.cells #[] 55)).heap.size := by simp
    clear lies
    go_enter Try.func44, Try.ntmps44
    go_wp2_with (at_builtin; refine wpl_append T_lColumn rfl (.tmp 5) (.tmp 6) rfl w.heap.size rfl own0 css.flatten rfl hfl lies2 H1 ?c1 ?c2 hsz ?_)
    case c1 => rw [Nat.zero_add]; exact hm
    case c2 => rw [Nat.zero_add]; exact hr
    intro a' cap' w2 own2 hg
    have kk : Keep Nix w w2 := ((Keep.refl Nix w).alloc (.cells #[] 55)).grown hg (fun k hk hlt => by simp [Value.ownBlock] at hk; omega)
    (try rw [Nat.zero_add, List.nil_append] at own2)
    clear own0 hg lies2
    go_wp2
    go_ret
    exact ⟨a', cap', css, by simp, own2, els.keep rGColumn_lawful kk (fun _ _ h => h), kk⟩
set_option maxHeartbeats 1000000 in
theorem clint_c {p : Nat → Prop} (a : Option Addr) (n cap : Nat) (l : List Int) (w : World) (hl : rList (rInt .i64) w p [.slice a n cap] l) (hr : n * 8 ≤ 140737488355328) :
    Calls Try.prog 45 #[.slice a n cap] w fun e w' => ∃ a' cap' css, e = .returned (.slice a' n cap') ∧ w'.ownsRow w.heap.size 3 1 (.slice a' n cap') n css.flatten ∧ Els (rInt .i64) w' p css l ∧ Keep Nix w w' := by
  obtain ⟨rfl, hcap, hf⟩ := rList_len hl
  have hfar : l.length ≤ 9223372036854775807 := by have := far_len; unfold maxLen at this; omega
  obtain ⟨css, lies, els⟩ := rList_css hl
  have hm : l.length ≤ maxLen := by have := far_len; omega
  have H1 := els.ones rInt_ones
  have hfl := els.flat_len (rInt_lawful _)
  clear hl hf
  cases a with
  | none =>
    have h0 : l.length = 0 := by
      by_cases h : css.flatten = []
      · rw [h] at hfl; simp at hfl; omega
      · obtain ⟨b, off, hb, -⟩ := lies h; cases hb
    obtain rfl : l = [] := List.eq_nil_of_length_eq_zero h0
    obtain rfl : css = [] := List.eq_nil_of_length_eq_zero (by have := els.1; simpa using this)
    have hnil := fun (w' : World) (n c : Nat) => Lib.run_eql_slice_nil (P := Try.prog) w' 47 3 none n c 0 0 Try.underlying47
    clear lies H1 hfl
    go_enter Try.func45, Try.ntmps45
    go_wp2_with fail
    go_ret
    exact ⟨none, 0, [], rfl, World.ownsRow_nil _ _ _ _, Els.nil _ _ _, Keep.refl _ _⟩
  | some ad =>
    have hnil := fun (w' : World) => Lib.run_eql_slice_nil (P := Try.prog) w' 47 3 (some ad) l.length cap 0 0 Try.underlying47
    have hl0 := fun w' => list0_run T_lint w'
    have own0 := owns_empty w 3 1 w.heap.size (Nat.le_refl _)
    have lies2 := lies.keep ((Keep.refl Nix w).alloc (.cells #[] 3)) (fun _ _ h => h)
    have hsz : w.heap.size ≤ (w.alloc (.cells #[] 3)).heap.size := by simp
    clear lies
    go_enter Try.func45, Try.ntmps45
    go_wp2_with (at_builtin; refine wpl_append T_lint rfl (.tmp 5) (.tmp 6) rfl w.heap.size rfl own0 css.flatten rfl hfl lies2 H1 ?c1 ?c2 hsz ?_)
    case c1 => rw [Nat.zero_add]; exact hm
    case c2 => rw [Nat.zero_add]; exact hr
    intro a' cap' w2 own2 hg
    have kk : Keep Nix w w2 := ((Keep.refl Nix w).alloc (.cells #[] 3)).grown hg (fun k hk hlt => by simp [Value.ownBlock] at hk; omega)
    (try rw [Nat.zero_add, List.nil_append] at own2)
    clear own0 hg lies2
    go_wp2
    go_ret
    exact ⟨a', cap', css, by simp, own2, els.keep (rInt_lawful _) kk (fun _ _ h => h), kk⟩
end Go.Proofs.Ytibaehlfpgipfaa
