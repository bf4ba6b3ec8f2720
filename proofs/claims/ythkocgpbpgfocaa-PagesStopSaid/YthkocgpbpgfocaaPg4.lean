/- PAGES: a range over what a nil map tells: Take. Printed by mac.py. -/
import Derived.Test.YthkocgpbpgfocaaPg3
import Derived.RangeFuncNested
import Derived.RangeFuncBound
import Derived.RangeFuncCalls
import Derived.RangeFuncLeaves
import Derived.Shelf.Abstract
namespace Go.Proofs.Ythkocgpbpgfocaa
open Go.RowKit Go.Shelf

/-- A function whose body holds a range over a function. -/
theorem calls_marks {P : Program} {f : FuncId} {fn : Func} {c : Code} {args : Array Value} {w : World} {R : Ending → World → Prop} (hf : P.funcs[f]? = some fn) (hb : fn.body = some c)
    (h : c.wp P (bodyPostM Fence.wide 4 P fn R) { tmps := args ++ Array.replicate (fn.ntmps - args.size) undef, defers := [] } w) : Calls P f args w R :=
  (callsIn_wide (n := 4)).1 (callsIn_of_wp_marks hf hb trivial (wpIn_wide.2 h) rfl)
theorem seq_nil (g : Nat) (w : World) (row : RowIs w g 22 [.slice none 0 0]) :
    SeqStopsK Fence.wide 3 Try.prog 37 #[.pointer (some ⟨g, 0, none⟩)] (fun (x : Empty) => x.elim) (Below w.heap.size) (fun _ => True) (fun _ => False) 0 w := by
  intro l J Jx W hW hJ hJx hY h0
  refine (callsIn_wide (n := 3)).2 ?_
  have row1 : RowIs W g 22 [.slice none 0 0] := row.keep (Keep.of_below hW) id
  have x0 := row1.cell 0
  (try simp only [List.getElem?_cons_zero] at x0)
  show Calls Try.prog 37 #[.func (.yield l) #[] #[], .pointer (some ⟨g, 0, none⟩)] W _
  have HJ := Lib.hid h0
  clear hY hJ hJx h0 row row1 hW
  go_enter Try.func37, Try.ntmps37
  go_wp2
  refine wp_loop_rounds 1 ?_
  rw [rounds_succ]
  go_wp2
  go_end0
  exact ⟨⟨_, rfl⟩, .inl ⟨[], trivial, HJ.out⟩⟩
/-- A range over what a nil map tells: no round. -/
theorem range_nil {gop : Operand} {ps : Array Tmp} {assign body : Code} {Q : Exit → Act → World → Prop} {a : Act} {w : World} (b : Nat) (hg : a.eval gop = .func (.func 37) #[] #[.pointer (some ⟨b, 0, none⟩)]) (row : RowIs w b 22 [.slice none 0 0])
    (h : ∀ (D : Nat) (W : World), w.heap.size ≤ D → Keep Nix w W → W.heap[D]? = some (.deferred (some [])) → Q .normal { a with defers := { target := .collected D, args := #[] } :: a.defers } W) :
    (Code.rangeFunc gop ps assign body).wp Try.prog Q a w := by
  refine (wpIn_wide (n := 4)).1 ?_
  exact wpIn_rangeFunc_ownF (F := Fence.wide) (n := 4) rfl (by decide) (gf := 37) (lb := #[.pointer (some ⟨b, 0, none⟩)]) hg trivial (enters_of Try.func37 (by kernel_rfl) rfl) (seq_nil b w row)
    (fun h k => h.trans k) (belowK_b (Nat.le_refl _)) (Below.refl _ _) (fun x => x.elim) (fun _ W => Below w.heap.size w W) (fun _ _ _ => False) (ownFrom_below (Nat.le_refl _) (Nat.le_refl _)) (fun _ _ _ _ _ hs _ _ => hs.elim) (Below.refl _ _) (fun x => x.elim)
    (fun _ x => x.elim) (fun _ _ x => x.elim) (fun D _ W hD _ hI hK => h D W hD (Keep.of_below hI) hK) (fun _ _ _ _ _ hs => hs.elim)
set_option maxRecDepth 100000 in
theorem take_nil (a b : Option Addr) (n m c d : Nat) (w : World) : Calls Try.prog 24 #[.pointer none, .agg #[.slice a n c, .slice b m d]] w fun e w' => e = .returned (.slice none 0 0) ∧ Keep Nix w w' := by
  refine calls_marks Try.func24 rfl ?_
  simp only [Try.ntmps24, List.size_toArray, List.length_cons, List.length_nil, Nat.reduceAdd, Nat.reduceSub, Array.replicate_succ, Array.replicate_zero, List.push_toArray, List.append_toArray, List.nil_append, List.cons_append]
  have row5 := RowIs.alloc ((w.alloc (.cells #[.pointer none] 23)).alloc (.cells #[.slice a n c, .slice b m d] 37)) #[.slice none 0 0] 22
  have hsz : (((w.alloc (.cells #[.pointer none] 23)).alloc (.cells #[.slice a n c, .slice b m d] 37))).heap.size = w.heap.size + 1 + 1 := by simp
  rw [hsz] at row5
  have kk : Keep Nix w ((((w.alloc (.cells #[.pointer none] 23)).alloc (.cells #[.slice a n c, .slice b m d] 37))).alloc (.cells #[.slice none 0 0] 22)) := (((Keep.refl Nix w).alloc _).alloc _).alloc _
  clear hsz
  go_wp2_with fail
  generalize (((w.alloc (.cells #[.pointer none] 23)).alloc (.cells #[.slice a n c, .slice b m d] 37))).alloc (.cells #[.slice none 0 0] 22) = w1 at *
  go_fit (scan_nil a b n m c d false w1)
  rintro e w2 ⟨g, rfl, row, -, k2⟩
  replace row5 := row5.keep k2 id
  replace kk := kk.trans k2
  clear k2
  go_wp2_with fail
  have hs2 := kk.size
  refine range_nil g rfl row ?_
  rintro D W hD kW hK
  replace row5 := row5.keep kW id
  replace kk := kk.trans kW
  have x0 := row5.cell 0
  (try simp only [List.getElem?_cons_zero] at x0)
  have hsD := kk.size
  clear row5 row kW
  go_wp2_with fail
  refine ⟨by simp, .inl ⟨_, _, rfl, run_takeDeferred hK, ?_⟩⟩
  exact ⟨_, results_tmp rfl _ _ _, rfl, kk.grown (grownBy_putObj' W D _) (fun i e hi => by cases e; omega)⟩
end Go.Proofs.Ythkocgpbpgfocaa
