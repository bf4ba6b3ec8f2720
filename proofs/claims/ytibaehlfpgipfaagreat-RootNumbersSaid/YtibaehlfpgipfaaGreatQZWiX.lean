/- THE WALKS of package wire's writer, and of the reference's: numbers, flags, bytes, texts. -/
import Derived.Test.YtibaehlfpgipfaaGreatQZWr
import Derived.Test.YtibaehlfpgipfaaGreatQZLst
import Derived.Deep.RegionLaw
import Derived.Deep.AppendLies
namespace Go.Proofs.YtibaehlfpgipfaaGreat
open Go.RowKit
theorem Wr.put {w w1 w2 : World} {T : TypeId} {r : Nat} {g : Option Nat} {out news : List UInt8} {p : Nat → Prop} {a : Option Addr} {cap cap2 gg n : Nat} (h : Wr w T r g out p) (hn : out.length + news.length = n)
    (row : RowIs w r T [.slice a out.length cap]) (hg : (Value.slice a out.length cap).ownBlock = g) (k1 : Keep Nix w w1)
    (own2 : w2.ownsRow 0 5 1 (.slice (some ⟨gg, 0, none⟩) n cap2) n (out.map bv ++ news.map bv))
    (hgrow : w1.grownBy w2 (Value.slice a out.length cap).ownBlock) (hat : (Value.slice a out.length cap).ownBlock = some gg ∨ gg = w1.heap.size) :
    ∃ g', Wr (w2.setCell ⟨r, 0, none⟩ (.slice (some ⟨gg, 0, none⟩) n cap2)) T r g' (out ++ news) p ∧ Chain r w g (w2.setCell ⟨r, 0, none⟩ (.slice (some ⟨gg, 0, none⟩) n cap2)) g' := by
  subst hn
  rw [hg] at hgrow hat
  have hr := h.lt
  have hne : gg ≠ r := by
    rcases hat with e | e
    · intro e'; subst e'; exact h.ne e
    · have := k1.size; omega
  have k2 : Keep (fun b => g = some b) w w2 := k1.nix.grown hgrow (fun b hb _ => hb)
  have row2 := (row.keep k2 (fun e => h.ne e)).set 0 (.slice (some ⟨gg, 0, none⟩) (out.length + news.length) cap2)
  have kset : Keep (· = r) w2 (w2.setCell ⟨r, 0, none⟩ (.slice (some ⟨gg, 0, none⟩) (out.length + news.length) cap2)) := Keep.setCell (S := (· = r)) (p := ⟨r, 0, none⟩) (Keep.refl _ _) (fun _ => rfl) _
  refine ⟨some gg, ⟨⟨some ⟨gg, 0, none⟩, cap2, by simpa using row2, ?_, rfl⟩, fun e => hne (by cases e; rfl), fun b hb => ?_⟩, ⟨k2.mono (fun _ e => .inr e) |>.then kset (fun i _ e => .inl e), fun b hb => ?_⟩⟩
  · have := owned_keep own2 kset (fun b hb e => by cases hb; exact hne e)
    rw [List.length_append, List.map_append]; exact this
  · obtain ⟨h1, h2, h3⟩ := h.hp b hb
    have := k2.size
    refine ⟨by simpa [World.setCell] using by omega, h2, fun e => ?_⟩
    cases e
    rcases hat with e | e
    · exact h3 e
    · have := k1.size; omega
  · cases hb
    rcases hat with e | e
    · exact .inl e
    · have := k1.size; exact .inr (by omega)
theorem Addr.add_lit0 (b j : Nat) : (⟨b, 0, none⟩ : Addr).add j = ⟨b, j, none⟩ := by rw [Addr.add_lit, Nat.zero_add]
set_option maxRecDepth 100000 in
theorem wnum_c (w : World) (r : Nat) (g : Option Nat) (out : List UInt8) (p : Nat → Prop) (v : Int) (hw : Wr w 141 r g out p) (hv : isU64 v) (hb : out.length + (numB v.toNat).length ≤ far) :
    Calls Tryz.prog 94 #[.pointer (some ⟨r, 0, none⟩), .int .u64 v] w (Puts 141 r p w g (out ++ numB v.toNat)) := by
  obtain ⟨a, cap, hc, hf, own, hg, row⟩ := hw.cell
  have HB : Hid (out.length + (numB v.toNat).length ≤ far) := hb
  have hpos : 0 < (numB v.toNat).length := by have := numB_len (v.toNat); omega
  have hne1 : (numB v.toNat).map bv ≠ [] := by intro e; rw [List.map_eq_nil_iff] at e; rw [e] at hpos; simp at hpos
  have hne0 : some r ≠ (Value.slice a out.length cap).ownBlock := by rw [hg]; exact fun e => hw.ne e.symm
  obtain ⟨i0, z0, hi0, hz0, hz1, hz2, hz3⟩ := T_bytes.info
  clear hb
  go_enter Tryz.func94, Tryz.ntmps94
  go_wp2_with fail
  go_region_law (first
    | (refine step_append_lies _ (by rfl) _ _ _ (by rfl) 0 _ i0 _ 1 1 Tryz.underlying30 hi0 hz0 hz1 hz2 hz3 (by omega) _ _ _ (by rfl) own1' _ _ _ ((numB v.toNat).map bv) (by rfl) (by simp) hb2 (bv_one _)
        hpos (by have := HB.out; have := far_len; omega) (by have := HB.out; have := far_len; omega) (by omega) _ rfl ?_; intro gg cap2 w2 own2 hgrow hat hlt; have hc2 := (hgrow.cell_far ⟨r, 0, none⟩ hlt1 hne0).trans hc1; have hf2 := (hgrow.frozen_far ⟨r, 0, none⟩ hlt1 hne0).trans hf1)
    | (go_simp; go_at_call 28; go_fit (num_i v _ hv); rintro e w1 ⟨a1, c1, rfl, own1, k0⟩; have k1 := (Keep.same (Keep.refl Nix w) (c := w.drew)).trans k0; clear k0
       obtain ⟨b1, rfl, hb1⟩ := cells_of_owned own1 hne1
       have hb2 : ∀ j u, ((numB v.toNat).map bv)[j]? = some u → w1.cell? ((⟨b1, 0, none⟩ : Addr).add j) = some u := fun j u hu => by rw [Addr.add_lit0]; exact hb1.2.2 j u hu
       clear hb1
       have own1' := owned_keep own k1 (fun _ _ => id); have hlt1 := Nat.lt_of_lt_of_le hw.lt k1.size; have hc1 := (k1.cell (p := ⟨r, 0, none⟩) hw.lt id).trans hc; have hf1 := (k1.frozen (p := ⟨r, 0, none⟩) hw.lt id).trans hf
       go_wp2))
  all_goals
    obtain ⟨g', wr', ch'⟩ := hw.put rfl row hg k1 own2 hgrow hat
    clear own2 own1 own hgrow hat hb2 k1 row hw hc hf own1'
    go_wp2
    go_end0
    exact ⟨rfl, g', wr', ch'⟩
set_option maxRecDepth 100000 in
theorem wbytes_c (w : World) (r : Nat) (g : Option Nat) (out : List UInt8) (p : Nat → Prop) (a0 : Option Addr) (n ca : Nat) (l : List UInt8) (hw : Wr w 141 r g out p) (hn : l.length = n) (ha : Lies w p a0 (l.map bv)) (hr : n ≤ 140737488351232) (hb : out.length + (textB l).length ≤ far) :
    Calls Tryz.prog 154 #[.pointer (some ⟨r, 0, none⟩), .slice a0 n ca] w (Puts 141 r p w g (out ++ textB l)) := by
  obtain ⟨a, cap, hc, hf, own, hg, row⟩ := hw.cell
  have HB : Hid (out.length + (textB l).length ≤ far) := hb
  have hpos : 0 < (textB l).length := by have := numB_len l.length; simp only [textB, List.length_append]; omega
  have hne1 : (textB l).map bv ≠ [] := by intro e; rw [List.map_eq_nil_iff] at e; rw [e] at hpos; simp at hpos
  have hne0 : some r ≠ (Value.slice a out.length cap).ownBlock := by rw [hg]; exact fun e => hw.ne e.symm
  obtain ⟨i0, z0, hi0, hz0, hz1, hz2, hz3⟩ := T_bytes.info
  clear hb
  go_enter Tryz.func154, Tryz.ntmps154
  go_wp2_with fail
  go_region_law (first
    | (refine step_append_lies _ (by rfl) _ _ _ (by rfl) 0 _ i0 _ 1 1 Tryz.underlying30 hi0 hz0 hz1 hz2 hz3 (by omega) _ _ _ (by rfl) own1' _ _ _ ((textB l).map bv) (by rfl) (by simp) hb2 (bv_one _)
        hpos (by have := HB.out; have := far_len; omega) (by have := HB.out; have := far_len; omega) (by omega) _ rfl ?_; intro gg cap2 w2 own2 hgrow hat hlt; have hc2 := (hgrow.cell_far ⟨r, 0, none⟩ hlt1 hne0).trans hc1; have hf2 := (hgrow.frozen_far ⟨r, 0, none⟩ hlt1 hne0).trans hf1)
    | (go_simp; go_at_call 29; go_fit (text_c a0 n ca l _ hn (ha.same (w' := w.drew)) hr); rintro e w1 ⟨a1, c1, rfl, own1, k0⟩; have k1 := (Keep.same (Keep.refl Nix w) (c := w.drew)).trans k0; clear k0
       obtain ⟨b1, rfl, hb1⟩ := cells_of_owned own1 hne1
       have hb2 : ∀ j u, ((textB l).map bv)[j]? = some u → w1.cell? ((⟨b1, 0, none⟩ : Addr).add j) = some u := fun j u hu => by rw [Addr.add_lit0]; exact hb1.2.2 j u hu
       clear hb1
       have own1' := owned_keep own k1 (fun _ _ => id); have hlt1 := Nat.lt_of_lt_of_le hw.lt k1.size; have hc1 := (k1.cell (p := ⟨r, 0, none⟩) hw.lt id).trans hc; have hf1 := (k1.frozen (p := ⟨r, 0, none⟩) hw.lt id).trans hf
       go_wp2))
  all_goals
    obtain ⟨g', wr', ch'⟩ := hw.put rfl row hg k1 own2 hgrow hat
    clear own2 own1 own hgrow hat hb2 k1 row hw hc hf own1'
    go_wp2
    go_end0
    exact ⟨rfl, g', wr', ch'⟩
theorem wflag_c (w : World) (r : Nat) (g : Option Nat) (out : List UInt8) (p : Nat → Prop) (v : Bool) (hw : Wr w 141 r g out p) (hb : out.length + (encF v).length ≤ far) :
    Calls Tryz.prog 95 #[.pointer (some ⟨r, 0, none⟩), .bool v] w (Puts 141 r p w g (out ++ encF v)) := by
  cases v
  · go_enter Tryz.func95, Tryz.ntmps95
    go_wp2_with fail
    go_fit (wnum_c w r g out p 0 hw (by unfold isU64; omega) hb)
    rintro e w1 ⟨rfl, g1, wr1, ch1⟩
    go_wp2
    go_end0
    exact ⟨rfl, g1, wr1, ch1⟩
  · go_enter Tryz.func95, Tryz.ntmps95
    go_wp2_with fail
    go_fit (wnum_c w r g out p 1 hw (by unfold isU64; omega) hb)
    rintro e w1 ⟨rfl, g1, wr1, ch1⟩
    go_wp2
    go_end0
    exact ⟨rfl, g1, wr1, ch1⟩
end Go.Proofs.YtibaehlfpgipfaaGreat
namespace Go.Proofs.YtibaehlfpgipfaaGreat
open Go.RowKit
theorem wtext_c (w : World) (r : Nat) (g : Option Nat) (out : List UInt8) (p : Nat → Prop) (l : List UInt8) (hw : Wr w 141 r g out p) (hr : l.length ≤ far) (hb : out.length + (textB l).length ≤ far) :
    Calls Tryz.prog 174 #[.pointer (some ⟨r, 0, none⟩), .string (strB l)] w (Puts 141 r p w g (out ++ textB l)) := by
  obtain ⟨w1, cap, hcv, k1, hl, hs⟩ := conv_str (P := Tryz.prog) Tryz.underlying9 Tryz.underlying30 Tryz.underlying5 w l
  have hw1 : Wr w1 141 r g out (fun b => p b ∨ b = w.heap.size) := hw.grow k1 id (fun _ _ => id) (fun b hb => by
    rcases hb with hb | rfl
    · exact ⟨Nat.lt_of_lt_of_le (hw.hp b hb).1 k1.size, .inl hb⟩
    · exact ⟨by omega, .inr (Nat.le_refl _)⟩)
  have ch1 : Chain r w g w1 g := (Chain.refl r w g).nix k1
  have hl' := hl.mono (q := fun b => p b ∨ b = w.heap.size) (fun b hb => .inr hb)
  have HR := Lib.hid hr
  have HB := Lib.hid hb
  clear hr hb hl hs k1 hw
  go_enter Tryz.func174, Tryz.ntmps174
  go_wp2_with fail
  go_fit (wbytes_c w1 r g out _ _ l.length cap l hw1 rfl hl' (by have := HR.out; have := far_len; omega) HB.out)
  rintro e w2 ⟨rfl, g2, wr2, ch2⟩
  have wr3 := wr2.mono (q := p) (fun b hb => .inl hb)
  have ch3 := ch1.trans ch2
  clear wr2 ch2 ch1 hw1 hl' hcv
  go_wp2
  go_end0
  exact ⟨rfl, g2, wr3, ch3⟩
theorem rInt_cell {k : IntKind} {w w' : World} {p : Nat → Prop} {a : Option Addr} {n cap : Nat} {l : List Int} {S : Nat → Prop} (h : rList (rInt k) w p [.slice a n cap] l) (kk : Keep S w w') (hp : ∀ b, p b → ¬ S b) (i : Nat) (hi : i < l.length) :
    ∃ b off, a = some ⟨b, off, none⟩ ∧ w'.cell? ⟨b, off + i, none⟩ = some (.int k l[i]) ∧ (Lit.int k l[i]).wf = true := by
  obtain ⟨b, off, cap', c, h1, h2, h3, ⟨rfl, h4⟩, h5⟩ := rList_at (rInt_lawful k) (by decide) h i hi
  simp only [List.cons.injEq, Value.slice.injEq, and_true] at h1
  have := h5 0 _ rfl
  rw [Nat.mul_one, Nat.add_zero] at this
  exact ⟨b, off, h1.1, (kk.cell (p := ⟨b, off + i, none⟩) h3 (hp b h2)).trans this, h4⟩
theorem take_flat {α : Type} (f : α → List UInt8) (l : List α) (k : Nat) (h : k < l.length) : (l.take (k + 1)).flatMap f = (l.take k).flatMap f ++ f l[k] := by
  rw [List.take_succ_eq_append_getElem h, List.flatMap_append]; simp
theorem take_flat_len {α : Type} (f : α → List UInt8) (l : List α) (k : Nat) (h : k < l.length) : ((l.take k).flatMap f).length + (f l[k]).length ≤ (l.flatMap f).length := by
  conv => rhs; rw [← List.take_append_drop (k + 1) l]
  rw [List.flatMap_append, take_flat f l k h]; simp only [List.length_append]; omega
set_option maxRecDepth 100000 in
theorem wints_c (w : World) (r : Nat) (g : Option Nat) (out0 : List UInt8) (p : Nat → Prop) (a0 : Option Addr) (n ca : Nat) (l : List Int) (hl : rList (rInt .i64) w p [.slice a0 n ca] l) (hw : Wr w 141 r g out0 p) (hb : out0.length + (l.flatMap encI).length ≤ far) :
    Calls Tryz.prog 115 #[.pointer (some ⟨r, 0, none⟩), .slice a0 n ca] w (Puts 141 r p w g (out0 ++ l.flatMap encI)) := by
  obtain ⟨hn, hnc, hnf⟩ := rList_len hl
  have hnm : n ≤ 9223372036854775807 := by have := far_len; unfold maxLen at this; omega
  have HB := Lib.hid hb
  have HF := Lib.hid hnf
  have HN := Lib.hid hn
  clear hb hnf hn
  go_enter Tryz.func115, Tryz.ntmps115
  go_wp2_with fail
  go_loopw [8] (fun i wr => ∃ (k : Nat) (g' : Option Nat), k ≤ n ∧ i = .int .i64 k ∧ Wr wr 141 r g' (out0 ++ (l.take k).flatMap encI) p ∧ Chain r w g wr g') (fun i _ => n - (intOf i).toNat)
  case atStart => exact ⟨0, g, by omega, rfl, by simpa using hw, Chain.refl _ _ _⟩
  case round =>
    obtain ⟨k, gk, hk, rfl, wk, ck⟩ := hrel
    by_cases hlt : k < n
    · have hll : k < l.length := by rw [← HN.out]; exact hlt
      obtain ⟨b, off, rfl, hcell, hv0⟩ := rInt_cell hl ck.keep hw.free k hll
      have hv := isI64_wf hv0
      have hst := take_flat encI l k hll
      have hbk : (out0 ++ (l.take k).flatMap encI).length + (numB (zig l[k]).toNat).length ≤ far := by
        have h1 := take_flat_len encI l k hll
        have h2 := HB.out
        simp only [List.length_append]; unfold encI at h1 ⊢; unfold encI at h2; omega
      have hst' : out0 ++ (l.take (k + 1)).flatMap encI = out0 ++ (l.take k).flatMap encI ++ numB (zig l[k]).toNat := by rw [hst, List.append_assoc]; try rfl
      have HS := Lib.hid hst'
      clear hst hst' hv0
      generalize l[k] = v at hcell hv hbk HS
      generalize hout : out0 ++ (l.take k).flatMap encI = out at wk hbk HS
      clear hout
      obtain ⟨a, cap, hc, hf, own, hg, row⟩ := wk.cell
      have HB : Hid (out.length + (numB (zig v).toNat).length ≤ far) := hbk
      have hpos : 0 < (numB (zig v).toNat).length := by have := numB_len (zig v).toNat; omega
      have hne1 : (numB (zig v).toNat).map bv ≠ [] := by intro e; rw [List.map_eq_nil_iff] at e; rw [e] at hpos; simp at hpos
      have hne0 : some r ≠ (Value.slice a out.length cap).ownBlock := by rw [hg]; exact fun e => wk.ne e.symm
      obtain ⟨i0, z0, hi0, hz0, hz1, hz2, hz3⟩ := T_bytes.info
      have HV := Lib.hid hv
      have hi1 : IntKind.i64.wrap v = v := by rw [IntKind.wrap_i64]; have := HV.out; unfold isI64 at this; omega
      clear hbk hv hl
      go_wp2_with fail
      go_region_law (first
        | (refine step_append_lies _ (by rfl) _ _ _ (by rfl) 0 _ i0 _ 1 1 Tryz.underlying30 hi0 hz0 hz1 hz2 hz3 (by omega) _ _ _ (by rfl) own1' _ _ _ ((numB (zig v).toNat).map bv) (by rfl) (by simp) hb2 (bv_one _)
            hpos (by have := HB.out; have := far_len; omega) (by have := HB.out; have := far_len; omega) (by omega) _ rfl ?_; intro gg cap2 w2 own2 hgrow hat hlt; have hc2 := (hgrow.cell_far ⟨r, 0, none⟩ hlt1 hne0).trans hc1; have hf2 := (hgrow.frozen_far ⟨r, 0, none⟩ hlt1 hne0).trans hf1)
        | (go_simp; go_at_call 173; go_fit (int_i v _ HV.out); rintro e w1 ⟨a1, c1, rfl, own1, k0⟩; have k1 := (Keep.same (Keep.refl Nix wr) (c := wr.drew)).trans k0; clear k0
           obtain ⟨b1, rfl, hb1⟩ := cells_of_owned own1 hne1
           have hb2 : ∀ j u, ((numB (zig v).toNat).map bv)[j]? = some u → w1.cell? ((⟨b1, 0, none⟩ : Addr).add j) = some u := fun j u hu => by rw [Addr.add_lit0]; exact hb1.2.2 j u hu
           clear hb1
           have own1' := owned_keep own k1 (fun _ _ => id); have hlt1 := Nat.lt_of_lt_of_le wk.lt k1.size; have hc1 := (k1.cell (p := ⟨r, 0, none⟩) wk.lt id).trans hc; have hf1 := (k1.frozen (p := ⟨r, 0, none⟩) wk.lt id).trans hf
           go_wp2))
      all_goals
        obtain ⟨g', wr', ch'⟩ := wk.put rfl row hg k1 own2 hgrow hat
        clear own2 own1 own hgrow hat hb2 k1 row wk hc hf own1'
        go_wp2
        go_roundw
        case rel => exact ⟨k + 1, g', by omega, by go_num, by rw [HS.out]; exact wr', ck.trans ch'⟩
        case measure => simp [intOf]; omega
    · obtain rfl : k = n := by omega
      have e : l.take k = l := List.take_of_length_le (by rw [← HN.out]; omega)
      rw [e] at wk
      go_wp2_with fail
      go_end0
      exact ⟨rfl, gk, wk, ck⟩
theorem wint_c (w : World) (r : Nat) (g : Option Nat) (out : List UInt8) (p : Nat → Prop) (v : Int) (hw : Wr w 141 r g out p) (hv : isI64 v) (hb : out.length + (numB (zig v).toNat).length ≤ far) :
    Calls Tryz.prog 93 #[.pointer (some ⟨r, 0, none⟩), .int .i64 v] w (Puts 141 r p w g (out ++ numB (zig v).toNat)) := by
  have k1 : Keep Nix w (w.alloc (.cells #[.int .i64 v] 3)) := (Keep.refl _ _).alloc _
  have hw1 : Wr (w.alloc (.cells #[.int .i64 v] 3)) 141 r g out (fun b => p b ∨ b = w.heap.size) := hw.grow k1 id (fun _ _ => id) (fun b hb => by
    rcases hb with hb | rfl
    · exact ⟨Nat.lt_of_lt_of_le (hw.hp b hb).1 k1.size, .inl hb⟩
    · exact ⟨by simp, .inr (Nat.le_refl _)⟩)
  have ch1 : Chain r w g (w.alloc (.cells #[.int .i64 v] 3)) g := (Chain.refl r w g).nix k1
  have hl : rList (rInt .i64) (w.alloc (.cells #[.int .i64 v] 3)) (fun b => p b ∨ b = w.heap.size) [.slice (some ⟨w.heap.size, 0, none⟩) 1 1] [v] := by
    refine ⟨_, 1, [[.int .i64 v]], rfl, rfl, Lies.block w #[.int .i64 v] _ _ (.inr rfl), Nat.le_refl _, (show 1 ≤ far by decide), fun i c x hc hx => ?_⟩
    match i, hc, hx with
    | 0, hc, hx =>
      simp at hc hx; subst hc hx
      refine ⟨rfl, ?_⟩
      exact Go.WalkArith.wf_i64 hv
  have HB : Hid (out.length + ([v].flatMap encI).length ≤ far) := by
    show _ ≤ _
    simpa [encI] using hb
  clear hb hv k1 hw
  go_enter Tryz.func93, Tryz.ntmps93
  go_wp2_with fail
  go_fit (wints_c _ r g out _ _ 1 1 [v] hl hw1 HB.out)
  rintro e w2 ⟨rfl, g2, wr2, ch2⟩
  have wr3 := wr2.mono (q := p) (fun b hb => .inl hb)
  have ch3 := ch1.trans ch2
  rw [show [v].flatMap encI = numB (zig v).toNat by simp [encI]] at wr3
  clear wr2 ch2 ch1 hw1 hl
  go_wp2
  go_end0
  exact ⟨rfl, g2, wr3, ch3⟩
end Go.Proofs.YtibaehlfpgipfaaGreat
