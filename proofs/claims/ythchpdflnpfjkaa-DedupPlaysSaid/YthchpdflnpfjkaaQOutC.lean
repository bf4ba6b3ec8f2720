/- THE WALKS of the reference's writer on lists and structs. Printed by gen5.py. -/
import Derived.Test.YthchpdflnpfjkaaQOutB
import Derived.Test.YthchpdflnpfjkaaQOutT
namespace Go.Proofs.Ythchpdflnpfjkaa
open Go.RowKit

set_option maxRecDepth 100000 in
set_option maxHeartbeats 16000000 in
theorem oTCall_c (w : World) (p : Nat → Prop) (hp : ∀ b, p b → b < w.heap.size) (x : GCall) (cs : List Value) (hx : rGCall w p cs x) (hb : (encGCall x).length ≤ far) :
    Calls Try.prog 10 #[.agg cs.toArray] w (Made (encGCall x) w) := by
  obtain ⟨aData, cData, rfl, h0, h1, h2, -⟩ := rGCall_open hx
  obtain ⟨out, hout⟩ : ∃ out : List UInt8, Hid (out = []) := ⟨[], rfl⟩
  obtain ⟨g, hg⟩ : ∃ g : Option Nat, Hid (g = none) := ⟨none, rfl⟩
  have hw0 : Wr ((w.alloc (.cells #[.int .u64 x.fClient, .int .u64 x.fSeq, .slice aData x.fData.length cData] 35)).alloc (.cells #[.slice none 0 0] 67)) 67 (w.heap.size + 1) g out (PB p w.heap.size) := by
    rw [hout.out, hg.out]
    have := Wr.new (w.alloc (.cells #[.int .u64 x.fClient, .int .u64 x.fSeq, .slice aData x.fData.length cData] 35)) 67 (PB p w.heap.size) (fun b hb => by
      rcases hb with hb | rfl
      · have := hp b hb; simp; omega
      · simp)
    simpa using this
  have row0 : RowIs ((w.alloc (.cells #[.int .u64 x.fClient, .int .u64 x.fSeq, .slice aData x.fData.length cData] 35)).alloc (.cells #[.slice none 0 0] 67)) w.heap.size 35 [.int .u64 x.fClient, .int .u64 x.fSeq, .slice aData x.fData.length cData] := (RowIs.alloc w _ _).keep ((Keep.refl Nix _).alloc _) id
  replace h0 := Lib.hid h0
  replace h1 := Lib.hid h1
  replace h2 := And.intro ((h2.1.box (.cells #[.int .u64 x.fClient, .int .u64 x.fSeq, .slice aData x.fData.length cData] 35)).keep ((Keep.refl Nix _).alloc (.cells #[.slice none 0 0] 67)) (fun _ _ h => h)) h2.2
  replace h2 := Lib.hid h2
  have HL : Hid (out.length + ((encU x.fClient).length + (encU x.fSeq).length + (textB x.fData).length) ≤ far) := by
    show _ ≤ _
    rw [hout.out]
    simp only [encGCall, List.length_append] at hb; simp only [List.length_nil]; omega
  have c0 : Chain (w.heap.size + 1) ((w.alloc (.cells #[.int .u64 x.fClient, .int .u64 x.fSeq, .slice aData x.fData.length cData] 35)).alloc (.cells #[.slice none 0 0] 67)) g ((w.alloc (.cells #[.int .u64 x.fClient, .int .u64 x.fSeq, .slice aData x.fData.length cData] 35)).alloc (.cells #[.slice none 0 0] 67)) g := Chain.refl _ _ _
  clear hb hx
  go_enter Try.func10, Try.ntmps10
  go_wp2_with fail
  go_fit (onum_e _ (w.heap.size + 1) _ _ _ x.fClient hw0 h0.out (by have := HL.out; (try simp only [List.length_append]); omega))
  rintro e w1 ⟨rfl, g1, wr1, ch⟩
  have c1 := c0.trans ch
  clear ch c0
  have c0 := c1
  clear c1
  have x1 : w1.cell? ⟨w.heap.size, 1, none⟩ = some (.int .u64 x.fSeq) := (row0.go hw0 c0 (.inr rfl)).cell 1
  go_wp2_with fail
  go_fit (onum_e _ (w.heap.size + 1) _ _ _ x.fSeq wr1 h1.out (by have := HL.out; (try simp only [List.length_append]); omega))
  rintro e w2 ⟨rfl, g2, wr2, ch⟩
  have c2 := c0.trans ch
  clear ch c0 wr1 x1
  have c0 := c2
  clear c2
  have x2 : w2.cell? ⟨w.heap.size, 2, none⟩ = some (.slice aData x.fData.length cData) := (row0.go hw0 c0 (.inr rfl)).cell 2
  go_wp2_with fail
  go_fit (obytes_c _ (w.heap.size + 1) _ _ _ aData _ cData x.fData wr2 rfl (h2.out.1.go hw0 c0) (by have := h2.out.2.2; have := far_len; omega) (by have := HL.out; (try simp only [List.length_append]); omega))
  rintro e w3 ⟨rfl, g3, wr3, ch⟩
  have c3 := c0.trans ch
  clear ch c0 wr2 x2
  have c0 := c3
  clear c3
  have HE : Hid (encGCall x = out ++ encU x.fClient ++ encU x.fSeq ++ textB x.fData) := by show _ = _; rw [hout.out]; (try simp only [encGCall, List.nil_append, List.append_assoc])
  generalize out ++ encU x.fClient ++ encU x.fSeq ++ textB x.fData = O at HE wr3
  obtain ⟨aw, capw, hcw, hfw, ownw, hgw, -⟩ := wr3.cell
  clear wr3 row0 hw0 HL
  go_wp2_with fail
  go_ret
  rw [HE.out]
  rw [hg.out] at c0
  exact made_of (by omega) (((Keep.refl Nix w).alloc _).alloc _) c0 ownw hgw
end Go.Proofs.Ythchpdflnpfjkaa
