/- THE WALKS of package wire's writer, and of the reference's: numbers, flags, bytes, texts. -/
import Derived.Test.YthchpdflnpfjkaaQWr
import Derived.Test.YthchpdflnpfjkaaQLst
import Derived.Deep.RegionLaw
import Derived.Deep.AppendLies
namespace Go.Proofs.Ythchpdflnpfjkaa
open Go.RowKit

/-- The bytes behind the writer's are its own: the state behind 'w.b = append(w.b, ..)'. -/
theorem Wr.put {w w1 w2 : World} {T : TypeId} {r : Nat} {g : Option Nat} {out news : List UInt8} {p : Nat → Prop} {a : Option Addr} {cap cap2 gg n : Nat} (h : Wr w T r g out p) (hn : out.length + news.length = n)
    (row : RowIs w r T [.slice a out.length cap]) (hg : (Value.slice a out.length cap).ownBlock = g) (k1 : Keep Nix w w1)
    (own2 : w2.ownsRow 0 5 1 (.slice (some ⟨gg, 0, none⟩) n cap2) n (out.map bv ++ news.map bv))
    (hgrow : w1.grownBy w2 (Value.slice a out.length cap).ownBlock) (hat : (Value.slice a out.length cap).ownBlock = some gg ∨ gg = w1.heap.size) :
    ∃ g', Wr (w2.setCell ⟨r, 0, none⟩ (.slice (some ⟨gg, 0, none⟩) n cap2)) T r g' (out ++ news) p ∧ Chain r w g (w2.setCell ⟨r, 0, none⟩ (.slice (some ⟨gg, 0, none⟩) n cap2)) g' := by
  subst hn
  rw [hg] at hgrow hat
  have hr := h.lt
  have hne : gg ≠ r := by
    rcases hat with e | e
    · intro e'; subst e'; exact h.ne e
    · have := k1.size; omega
  have k2 : Keep (fun b => g = some b) w w2 := k1.nix.grown hgrow (fun b hb _ => hb)
  have row2 := (row.keep k2 (fun e => h.ne e)).set 0 (.slice (some ⟨gg, 0, none⟩) (out.length + news.length) cap2)
  have kset : Keep (· = r) w2 (w2.setCell ⟨r, 0, none⟩ (.slice (some ⟨gg, 0, none⟩) (out.length + news.length) cap2)) := Keep.setCell (S := (· = r)) (p := ⟨r, 0, none⟩) (Keep.refl _ _) (fun _ => rfl) _
  refine ⟨some gg, ⟨⟨some ⟨gg, 0, none⟩, cap2, by simpa using row2, ?_, rfl⟩, fun e => hne (by cases e; rfl), fun b hb => ?_⟩, ⟨k2.mono (fun _ e => .inr e) |>.then kset (fun i _ e => .inl e), fun b hb => ?_⟩⟩
  · have := owned_keep own2 kset (fun b hb e => by cases hb; exact hne e)
    rw [List.length_append, List.map_append]; exact this
  · obtain ⟨h1, h2, h3⟩ := h.hp b hb
    have := k2.size
    refine ⟨by simpa [World.setCell] using by omega, h2, fun e => ?_⟩
    cases e
    rcases hat with e | e
    · exact h3 e
    · have := k1.size; omega
  · cases hb
    rcases hat with e | e
    · exact .inl e
    · have := k1.size; exact .inr (by omega)
theorem Addr.add_lit0 (b j : Nat) : (⟨b, 0, none⟩ : Addr).add j = ⟨b, j, none⟩ := by rw [Addr.add_lit, Nat.zero_add]
set_option maxRecDepth 100000 in
theorem onum_c (w : World) (r : Nat) (g : Option Nat) (out : List UInt8) (p : Nat → Prop) (v : Int) (hw : Wr w 67 r g out p) (hv : isU64 v) (hb : out.length + (numB v.toNat).length ≤ far) :
    Calls Try.prog 21 #[.pointer (some ⟨r, 0, none⟩), .int .u64 v] w (Puts 67 r p w g (out ++ numB v.toNat)) := by
  obtain ⟨a, cap, hc, hf, own, hg, row⟩ := hw.cell
  have HB : Hid (out.length + (numB v.toNat).length ≤ far) := hb
  have hpos : 0 < (numB v.toNat).length := by have := numB_len (v.toNat); omega
  have hne1 : (numB v.toNat).map bv ≠ [] := by intro e; rw [List.map_eq_nil_iff] at e; rw [e] at hpos; simp at hpos
  have hne0 : some r ≠ (Value.slice a out.length cap).ownBlock := by rw [hg]; exact fun e => hw.ne e.symm
  obtain ⟨i0, z0, hi0, hz0, hz1, hz2, hz3⟩ := T_bytes.info
  clear hb
  go_enter Try.func21, Try.ntmps21
  go_wp2_with fail
  go_region_law (first
    | (refine step_append_lies _ (by rfl) _ _ _ (by rfl) 0 _ i0 _ 1 1 Try.underlying31 hi0 hz0 hz1 hz2 hz3 (by omega) _ _ _ (by rfl) own1' _ _ _ ((numB v.toNat).map bv) (by rfl) (by simp) hb2 (bv_one _)
        hpos (by have := HB.out; have := far_len; omega) (by have := HB.out; have := far_len; omega) (by omega) _ rfl ?_; intro gg cap2 w2 own2 hgrow hat hlt; have hc2 := (hgrow.cell_far ⟨r, 0, none⟩ hlt1 hne0).trans hc1; have hf2 := (hgrow.frozen_far ⟨r, 0, none⟩ hlt1 hne0).trans hf1)
    | (go_simp; go_at_call 42; go_fit (rnum_i v _ hv); rintro e w1 ⟨a1, c1, rfl, own1, k0⟩; have k1 := (Keep.same (Keep.refl Nix w) (c := w.drew)).trans k0; clear k0
       obtain ⟨b1, rfl, hb1⟩ := cells_of_owned own1 hne1
       have hb2 : ∀ j u, ((numB v.toNat).map bv)[j]? = some u → w1.cell? ((⟨b1, 0, none⟩ : Addr).add j) = some u := fun j u hu => by rw [Addr.add_lit0]; exact hb1.2.2 j u hu
       clear hb1
       have own1' := owned_keep own k1 (fun _ _ => id); have hlt1 := Nat.lt_of_lt_of_le hw.lt k1.size; have hc1 := (k1.cell (p := ⟨r, 0, none⟩) hw.lt id).trans hc; have hf1 := (k1.frozen (p := ⟨r, 0, none⟩) hw.lt id).trans hf
       go_wp2))
  all_goals
    obtain ⟨g', wr', ch'⟩ := hw.put rfl row hg k1 own2 hgrow hat
    clear own2 own1 own hgrow hat hb2 k1 row hw hc hf own1'
    go_wp2
    go_end0
    exact ⟨rfl, g', wr', ch'⟩
set_option maxRecDepth 100000 in
theorem obytes_c (w : World) (r : Nat) (g : Option Nat) (out : List UInt8) (p : Nat → Prop) (a0 : Option Addr) (n ca : Nat) (l : List UInt8) (hw : Wr w 67 r g out p) (hn : l.length = n) (ha : Lies w p a0 (l.map bv)) (hr : n ≤ 140737488351232) (hb : out.length + (textB l).length ≤ far) :
    Calls Try.prog 22 #[.pointer (some ⟨r, 0, none⟩), .slice a0 n ca] w (Puts 67 r p w g (out ++ textB l)) := by
  obtain ⟨a, cap, hc, hf, own, hg, row⟩ := hw.cell
  have HB : Hid (out.length + (textB l).length ≤ far) := hb
  have hpos : 0 < (textB l).length := by have := numB_len l.length; simp only [textB, List.length_append]; omega
  have hne1 : (textB l).map bv ≠ [] := by intro e; rw [List.map_eq_nil_iff] at e; rw [e] at hpos; simp at hpos
  have hne0 : some r ≠ (Value.slice a out.length cap).ownBlock := by rw [hg]; exact fun e => hw.ne e.symm
  obtain ⟨i0, z0, hi0, hz0, hz1, hz2, hz3⟩ := T_bytes.info
  clear hb
  go_enter Try.func22, Try.ntmps22
  go_wp2_with fail
  go_region_law (first
    | (refine step_append_lies _ (by rfl) _ _ _ (by rfl) 0 _ i0 _ 1 1 Try.underlying31 hi0 hz0 hz1 hz2 hz3 (by omega) _ _ _ (by rfl) own1' _ _ _ ((textB l).map bv) (by rfl) (by simp) hb2 (bv_one _)
        hpos (by have := HB.out; have := far_len; omega) (by have := HB.out; have := far_len; omega) (by omega) _ rfl ?_; intro gg cap2 w2 own2 hgrow hat hlt; have hc2 := (hgrow.cell_far ⟨r, 0, none⟩ hlt1 hne0).trans hc1; have hf2 := (hgrow.frozen_far ⟨r, 0, none⟩ hlt1 hne0).trans hf1)
    | (go_simp; go_at_call 43; go_fit (rtext_c a0 n ca l _ hn (ha.same (w' := w.drew)) hr); rintro e w1 ⟨a1, c1, rfl, own1, k0⟩; have k1 := (Keep.same (Keep.refl Nix w) (c := w.drew)).trans k0; clear k0
       obtain ⟨b1, rfl, hb1⟩ := cells_of_owned own1 hne1
       have hb2 : ∀ j u, ((textB l).map bv)[j]? = some u → w1.cell? ((⟨b1, 0, none⟩ : Addr).add j) = some u := fun j u hu => by rw [Addr.add_lit0]; exact hb1.2.2 j u hu
       clear hb1
       have own1' := owned_keep own k1 (fun _ _ => id); have hlt1 := Nat.lt_of_lt_of_le hw.lt k1.size; have hc1 := (k1.cell (p := ⟨r, 0, none⟩) hw.lt id).trans hc; have hf1 := (k1.frozen (p := ⟨r, 0, none⟩) hw.lt id).trans hf
       go_wp2))
  all_goals
    obtain ⟨g', wr', ch'⟩ := hw.put rfl row hg k1 own2 hgrow hat
    clear own2 own1 own hgrow hat hb2 k1 row hw hc hf own1'
    go_wp2
    go_end0
    exact ⟨rfl, g', wr', ch'⟩
end Go.Proofs.Ythchpdflnpfjkaa
