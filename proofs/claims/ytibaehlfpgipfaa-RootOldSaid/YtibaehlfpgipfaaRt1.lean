/- ROUTE: the small ones: place, copies, spans. Printed by mac.py. -/
import Derived.Test.YtibaehlfpgipfaaRt0
import Derived.Test.YtibaehlfpgipfaaHelp
import Derived.Lib.SliceRun
import Derived.Deep.RegionHeld3
import Derived.Deep.DeepCutAuto
import Derived.Deep.CutBlock
namespace Go.Proofs.Ytibaehlfpgipfaa
open Go.RowKit

theorem rowns_empty (w : World) (e sz base : Nat) (hb : base ≤ w.heap.size) : (w.alloc (.cells #[] e)).ownsRow base e sz (.slice (some ⟨w.heap.size, 0, none⟩) 0 0) 0 [] := by
  refine ⟨by simp, .inr ⟨w.heap.size, 0, #[], rfl, hb, heap_alloc_new _ _, Nat.le_refl _, Nat.zero_le _, by simp, by simp⟩⟩
theorem rlist0_run {P : Program} {t e n bytes : Nat} (S : SliceT P t e n bytes) (w : World) : (Instr.buildSlice t 0 #[]).run P w = .ok (.slice (some ⟨w.heap.size, 0, none⟩) 0 0) (w.alloc (.cells #[] e)) := by
  obtain ⟨i, z, hi, hz, hsz, hby, hzs⟩ := S.info
  unfold Instr.buildSlice
  simp [run_underlying S.under, sizeOf, typeInfo, hi, newRow, newObj, Instr.fill]
  have e : ∀ f : Nat → Value, Array.map f (Array.range 0) = #[] := fun f => by apply Array.eq_empty_of_size_eq_zero; simp
  rw [e]
  rfl
set_option maxHeartbeats 1000000 in
theorem cl_c {p : Nat → Prop} (a : Option Addr) (n cap : Nat) (l : List UInt8) (w : World) (hn : l.length = n) (ha : Lies w p a (l.map bv)) (hr : n ≤ 140737488355328) :
    Calls Try.prog 32 #[.slice a n cap] w fun e w' => ∃ a' cap', e = .returned (.slice a' n cap') ∧ w'.ownsRow w.heap.size 5 1 (.slice a' n cap') n (l.map bv) ∧ Keep Nix w w' := by
  subst hn
  cases a with
  | none =>
    obtain rfl : l = [] := by
      by_cases h : l.map bv = []
      · simpa using h
      · obtain ⟨b, off, hb, -⟩ := ha h; cases hb
    have hnil := fun (w' : World) (n c : Nat) => Lib.run_eql_slice_nil (P := Try.prog) w' 36 5 none n c 0 0 Try.underlying36
    clear ha
    go_enter Try.func32, Try.ntmps32
    go_wp2_with fail
    go_ret
    exact ⟨none, 0, rfl, World.ownsRow_nil _ _ _ _, Keep.refl _ _⟩
  | some ad =>
    have hnil := fun (w' : World) => Lib.run_eql_slice_nil (P := Try.prog) w' 36 5 (some ad) l.length cap 0 0 Try.underlying36
    have hl0 := fun w' => rlist0_run T_bytes w'
    have own0 := rowns_empty w 5 1 w.heap.size (Nat.le_refl _)
    have lies2 := ha.keep ((Keep.refl Nix w).alloc (.cells #[] 5)) (fun _ _ h => h)
    have hsz : w.heap.size ≤ (w.alloc (.cells #[] 5)).heap.size := by simp
    clear ha
    go_enter Try.func32, Try.ntmps32
    go_wp2_with (at_builtin; refine wpl_append T_bytes rfl (.tmp 5) (.tmp 6) rfl w.heap.size rfl own0 (l.map bv) rfl (by simp) lies2 (bv_one l) ?c1 ?c2 hsz ?_)
    case c1 => unfold maxLen; omega
    case c2 => omega
    intro a' cap' w2 own2 hg
    have kk : Keep Nix w w2 := ((Keep.refl Nix w).alloc (.cells #[] 5)).grown hg (fun k hk hlt => by simp [Value.ownBlock] at hk; omega)
    (try rw [Nat.zero_add, List.nil_append] at own2)
    clear own0 hg lies2
    go_wp2
    go_ret
    exact ⟨a', cap', by simp, own2, kk⟩
theorem own_from {w : World} {base base' e sz n : Nat} {v : Value} {xs : List Value} (h : w.ownsRow base e sz v n xs) (hb : base' ≤ base) : w.ownsRow base' e sz v n xs :=
  ⟨h.1, h.2.imp id fun ⟨g, cap, cur, e, h1, r⟩ => ⟨g, cap, cur, e, Nat.le_trans hb h1, r⟩⟩
theorem boxed {P : Program} {T n : Nat} {zs cs : List Value} (S : StructT P T n) (w : World) (hz : zs.length = n) (hc : cs.length = n) (ho : ones cs = true) :
    (storeSem T (.pointer (some ⟨w.heap.size, 0, none⟩)) (.agg cs.toArray)).run P (w.alloc (.cells zs.toArray T)) = .ok .skip ((w.alloc (.cells zs.toArray T)).setRow w.heap.size cs.toArray) ∧
      RowIs ((w.alloc (.cells zs.toArray T)).setRow w.heap.size cs.toArray) w.heap.size T cs ∧ Keep Nix w ((w.alloc (.cells zs.toArray T)).setRow w.heap.size cs.toArray) := by
  have r0 : RowIs (w.alloc (.cells zs.toArray T)) w.heap.size T zs := by have := RowIs.alloc w zs.toArray T; simpa using this
  exact ⟨store_run S r0 hz hc ho, r0.setRow cs, ((Keep.refl Nix w).alloc _).setRow (fun h => absurd h (Nat.lt_irrefl _)) _⟩
theorem Whole.run {P : Program} {w : World} {T T' n b : Nat} {cs : List Value} (S : StructT P T n) (hn : cs.length = n) (h : RowIs w b T' cs) : (wholeSem T (.pointer (some ⟨b, 0, none⟩))).run P w = .ok (.value (.agg cs.toArray)) w := Whole.row S hn h
def RetB (w : World) (l : List UInt8) (e : Ending) (w' : World) : Prop := ∃ (a : Option Addr) (cap : Nat), e = .returned (.slice a l.length cap) ∧ (Lies w' (NewIn w w') a (l.map bv) ∧ l.length ≤ cap ∧ l.length ≤ far) ∧ Keep Nix w w'
theorem RetB.of_own {w w' : World} {l : List UInt8} {a : Option Addr} {cap : Nat} (h : w'.ownsRow w.heap.size 5 1 (.slice a l.length cap) l.length (l.map bv)) (hf : l.length ≤ far) (k : Keep Nix w w') : RetB w l (.returned (.slice a l.length cap)) w' := by
  refine ⟨a, cap, rfl, ⟨?_, (owned_bounds h).2.1, hf⟩, k⟩
  intro hx
  obtain ⟨b, off, h1, h2, h3, h4⟩ := Lies.of_owned h hx
  exact ⟨b, off, h1, ⟨h2.1, h3⟩, h3, h4⟩
theorem clR_c {p : Nat → Prop} (a : Option Addr) (cap : Nat) (l : List UInt8) (w : World) (ha : Lies w p a (l.map bv) ∧ l.length ≤ cap ∧ l.length ≤ far) : Calls Try.prog 32 #[.slice a l.length cap] w (RetB w l) :=
  (cl_c a l.length cap l w rfl ha.1 (by have := far_len; have := ha.2.2; omega)).mono fun e w' ⟨a', cap', h, own, k⟩ => by rw [h]; exact RetB.of_own own ha.2.2 k
section
attribute [local go_sem ↓] ldz_Owner
set_option maxHeartbeats 1000000 in
theorem ifOwner_c {p : Nat → Prop} (a : Option Addr) (n cap : Nat) (l : List GOwner) (fv : FuncId) (u : Value) (P : GOwner → Bool) (w : World) (hl : rList rGOwner w p [.slice a n cap] l)
    (hE : ∀ args w, (callFunc fv args).run Try.prog w = .ok (.enter fv args) w) (hF : (∀ (w' : World) (x : GOwner) (cs : List Value), Keep Nix w w' → x ∈ l → rGOwner w' p cs x → Calls Try.prog fv #[.agg cs.toArray, u] w' fun e w'' => e = .returned (.bool (P x)) ∧ Keep Nix w' w'')) :
    Calls Try.prog 56 #[.slice a n cap, .func (.func fv) #[] #[u]] w fun e w' => e = .returned (.int .i64 (rfindB P l)) ∧ Keep Nix w w' := by
  obtain ⟨rfl, -, hf⟩ := rList_len hl
  have hfar : l.length ≤ 9223372036854775807 := by have := far_len; unfold maxLen at this; omega
  have HF := Lib.hid hF
  clear hf hF
  go_enter Try.func56, Try.ntmps56
  go_wp2_with fail
  go_loopw [8] (fun i wr => ∃ k : Nat, k ≤ l.length ∧ i = .int .i64 k ∧ Hid (rNoneYet P l k) ∧ Keep Nix w wr) (fun i _ => l.length - (intOf i).toNat)
  case atStart => exact ⟨0, by omega, rfl, fun j hj => by omega, Keep.refl _ _⟩
  case round =>
    obtain ⟨k, hk, rfl, hg, kk⟩ := hrel
    by_cases hlt : k < l.length
    · have hi0 : (0 : Int) ≤ (k : Int) := by omega
      have hi1 : (k : Int) < (l.length : Int) := by omega
      have HM : Hid (l[k] ∈ l) := List.getElem_mem hlt
      have HA := Lib.hid (rfindB_at (P := P) k hlt hg.out)
      have HS := Lib.hid (hg.out.succ (P := P) hlt)
      obtain ⟨b, o, c, cs, e1, -, hb, r, hc⟩ := rList_at rGOwner_lawful (by decide) ((rList_lawful rGOwner_lawful).nix hl kk) k hlt
      simp only [List.cons.injEq, Value.slice.injEq, and_true] at e1
      obtain ⟨rfl, -, -⟩ := e1
      have ld := Whole.at (P := Try.prog) S_Owner (rGOwner_lawful.len r) hc
      unfold Whole at ld
      clear hl hc
      generalize l[k] = x at HM HA HS r
      have hcall := HF.out wr x cs kk HM.out r
      clear r
      rcases hP : P x with _ | _
      · rw [hP] at hcall
        have HP := Lib.hid hP
        have HC := Lib.hid hcall
        clear hP hcall
        go_wp2_with fail
        go_fit HC.out
        clear HC
        rintro e w2 ⟨rfl, k2⟩
        replace kk := kk.trans k2
        clear k2
        go_wp2_with fail
        go_roundw
        case rel => exact ⟨k + 1, by omega, by go_num, HS.out HP.out, kk⟩
        case measure => simp [intOf]; omega
      · rw [hP] at hcall
        have HP := Lib.hid hP
        have HC := Lib.hid hcall
        clear hP hcall
        go_wp2_with fail
        go_fit HC.out
        clear HC
        rintro e w2 ⟨rfl, k2⟩
        replace kk := kk.trans k2
        clear k2
        go_wp2_with fail
        go_ret
        exact ⟨ret_int (HA.out HP.out).symm, kk⟩
    · obtain rfl : k = l.length := by omega
      have HN := Lib.hid (rfindB_none (P := P) hg.out)
      go_wp2_with fail
      go_ret
      exact ⟨ret_int HN.out.symm, kk⟩
end
theorem place1_c {p : Nat → Prop} (x : GOwner) (cs : List Value) (b : Nat) (y : Int) (w : World) (hx : rGOwner w p cs x) (hb : b < w.heap.size) (hc : w.cell? ⟨b, 0, none⟩ = some (.int .i64 y)) :
    Calls Try.prog 57 #[.agg cs.toArray, .pointer (some ⟨b, 0, none⟩)] w fun e w' => e = .returned (.bool (isG y x)) ∧ Keep Nix w w' := by
  obtain ⟨aF, cF, rfl, -⟩ := rGOwner_open hx
  have kk : Keep Nix w (w.alloc (.cells #[.int .i64 x.fGroup, .slice aF x.fFrom.length cF] 80)) := (Keep.refl Nix w).alloc _
  have hc' : (w.alloc (.cells #[.int .i64 x.fGroup, .slice aF x.fFrom.length cF] 80)).cell? ⟨b, 0, none⟩ = some (.int .i64 y) := (kk.cell (p := ⟨b, 0, none⟩) hb id).trans hc
  clear hx hc
  go_enter Try.func57, Try.ntmps57
  go_wp2
  go_ret
  exact ⟨ret_bool (by rw [Bool.eq_iff_iff]; simp), kk⟩
theorem place_c {p : Nat → Prop} (r : GRoutes) (csr : List Value) (g : Int) (w : World) (hr : rGRoutes w p csr r) :
    Calls Try.prog 41 #[.agg csr.toArray, .int .i64 g] w fun e w' => e = .returned (.int .i64 (placeI g r.fSpans)) ∧ Keep Nix w w' := by
  obtain ⟨aS, cS, aC, cC, rfl, hE, hB, hS, hM, hC, -⟩ := rGRoutes_open hr
  have kk : Keep Nix w ((w.alloc (.cells #[.int .i64 r.fEpoch, .int .i64 r.fBase, .slice aS r.fSpans.length cS, .int .i64 r.fMoving, .slice aC r.fCut.length cC] 38)).alloc (.cells #[.int .i64 g] 3)) := ((Keep.refl Nix w).alloc _).alloc _
  have row0 : RowIs ((w.alloc (.cells #[.int .i64 r.fEpoch, .int .i64 r.fBase, .slice aS r.fSpans.length cS, .int .i64 r.fMoving, .slice aC r.fCut.length cC] 38)).alloc (.cells #[.int .i64 g] 3)) w.heap.size 38 [.int .i64 r.fEpoch, .int .i64 r.fBase, .slice aS r.fSpans.length cS, .int .i64 r.fMoving, .slice aC r.fCut.length cC] := (RowIs.alloc w _ _).keep ((Keep.refl Nix _).alloc _) id
  have row1 : RowIs ((w.alloc (.cells #[.int .i64 r.fEpoch, .int .i64 r.fBase, .slice aS r.fSpans.length cS, .int .i64 r.fMoving, .slice aC r.fCut.length cC] 38)).alloc (.cells #[.int .i64 g] 3)) (w.alloc (.cells #[.int .i64 r.fEpoch, .int .i64 r.fBase, .slice aS r.fSpans.length cS, .int .i64 r.fMoving, .slice aC r.fCut.length cC] 38)).heap.size 3 [.int .i64 g] := RowIs.alloc _ _ _
  have hsz : (w.alloc (.cells #[.int .i64 r.fEpoch, .int .i64 r.fBase, .slice aS r.fSpans.length cS, .int .i64 r.fMoving, .slice aC r.fCut.length cC] 38)).heap.size = w.heap.size + 1 := by simp
  rw [hsz] at row1
  have hS1 := (rList_lawful rGOwner_lawful).nix hS kk
  have hcall := ifOwner_c aS r.fSpans.length cS r.fSpans 57 (.pointer (some ⟨w.heap.size + 1, 0, none⟩)) (isG g) ((w.alloc (.cells #[.int .i64 r.fEpoch, .int .i64 r.fBase, .slice aS r.fSpans.length cS, .int .i64 r.fMoving, .slice aC r.fCut.length cC] 38)).alloc (.cells #[.int .i64 g] 3)) hS1 (fun args w => by rfl) (fun w' x cs k hx rx => by
    have row := row1.keep k id
    exact place1_c x cs _ g w' rx row.lt (row.cell 0))
  have HC := Lib.hid hcall
  have x2 := row0.cell 2
  (try simp only [List.getElem?_cons_succ] at x2); (try simp only [List.getElem?_cons_zero] at x2)
  clear hcall hE hB hS hM hC hr hS1 row0 row1 hsz
  go_enter Try.func41, Try.ntmps41
  go_wp2_with fail
  go_fit HC.out
  rintro e w1 ⟨rfl, k1⟩
  go_wp2
  go_ret
  exact ⟨rfl, kk.trans k1⟩
def RetS (w : World) (s : GSpan) (e : Ending) (w' : World) : Prop := ∃ cs : List Value, e = .returned (.agg cs.toArray) ∧ rGSpan w' (NewIn w w') cs s ∧ Keep Nix w w'
def RetSB (w : World) (s : GSpan × Bool) (e : Ending) (w' : World) : Prop := ∃ cs : List Value, e = .returned (.tuple #[.agg cs.toArray, .bool s.2]) ∧ rGSpan w' (NewIn w w') cs s.1 ∧ Keep Nix w w'
end Go.Proofs.Ytibaehlfpgipfaa
