/- ROUTE: the plain words: the order of bytes, and what each function computes. Printed by mac.py. -/
import Derived.Test.YtibaehlfpgipfaaGreatQZOpens
import Derived.Test.YtibaehlfpgipfaaGreatQZCmp
import Derived.Test.YtibaehlfpgipfaaGreatQZHelp
import Derived.Lib.SliceRun
import Derived.Deep.RegionHeld3
import Derived.Deep.DeepCutAuto
import Derived.Deep.CutBlock
import Derived.Maps.AppendAt
namespace Go.Proofs.YtibaehlfpgipfaaGreat
open Go.RowKit
/-! ### the order -/
abbrev ltB : List UInt8 → List UInt8 → Bool := Op.bytesLess
theorem ltB_cons (a b : UInt8) (x y : List UInt8) : ltB (a :: x) (b :: y) = (decide (a < b) || (a == b && ltB x y)) := rfl
theorem cmp_lt : ∀ a b : List UInt8, decide (Lib.compareBytes a b < 0) = ltB a b
 | [], [] => rfl
 | [], _ :: _ => rfl
 | _ :: _, [] => rfl
 | a :: x, b :: y => by
  rw [ltB_cons, Lib.compareBytes]
  by_cases h : a < b
  ·simp [h]
  ·by_cases k : b < a
   ·have e : a ≠ b := fun e => by subst e; exact h k
    simp [h, k, e]
   ·obtain rfl : a = b := UInt8.le_antisymm (UInt8.not_lt.1 k) (UInt8.not_lt.1 h)
    simp [h, cmp_lt x y]
theorem cmp_gt : ∀ a b : List UInt8, decide (0 < Lib.compareBytes a b) = ltB b a
 | [], [] => rfl
 | [], _ :: _ => rfl
 | _ :: _, [] => rfl
 | a :: x, b :: y => by
  rw [ltB_cons, Lib.compareBytes]
  by_cases h : a < b
  ·have k : ¬ b < a := fun k => UInt8.lt_irrefl a (UInt8.lt_trans h k)
   have e : b ≠ a := fun e => by subst e; exact UInt8.lt_irrefl _ h
   simp [h, k, e]
  ·by_cases k : b < a
   ·simp [h, k]
   ·obtain rfl : a = b := UInt8.le_antisymm (UInt8.not_lt.1 k) (UInt8.not_lt.1 h)
    simp [h, cmp_gt x y]
/-! ### the program's words -/
def rfindB {α : Type} (P : α → Bool) (l : List α) : Int := match l.findIdx? P with
 | some i => (i : Int)
 | none => -1
theorem rfindB_at {α : Type} {P : α → Bool} {l : List α} (k : Nat) (h : k < l.length) (hn : ∀ j, j < k → ∀ x, l[j]? = some x → P x = false) (hp : P l[k] = true) : rfindB P l = (k : Int) := by
 have : l.findIdx? P = some k := by
  rw [List.findIdx?_eq_some_iff_getElem]
  exact ⟨h, hp, fun j hj => by simp [hn j hj _ (List.getElem?_eq_getElem (by omega))]⟩
 unfold rfindB; rw [this]
theorem rfindB_none {α : Type} {P : α → Bool} {l : List α} (hn : ∀ j, j < l.length → ∀ x, l[j]? = some x → P x = false) : rfindB P l = -1 := by
 have : l.findIdx? P = none := by
  rw [List.findIdx?_eq_none_iff]
  intro x hx
  obtain ⟨j, hj, rfl⟩ := List.mem_iff_getElem.1 hx
  exact hn j hj _ (List.getElem?_eq_getElem hj)
 unfold rfindB; rw [this]
def rNoneYet {α : Type} (P : α → Bool) (l : List α) (k : Nat) : Prop := ∀ j, j < k → ∀ x, l[j]? = some x → P x = false
theorem rNoneYet.succ {α : Type} {P : α → Bool} {l : List α} {k : Nat} (h : rNoneYet P l k) (hk : k < l.length) (hp : P l[k] = false) : rNoneYet P l (k + 1) := fun j hj x hx => by
 by_cases e : j = k
 ·subst e; rw [List.getElem?_eq_getElem hk] at hx; cases hx; exact hp
 ·exact h j (by omega) x hx
abbrev isG (g : Int) : GOwner → Bool := fun o => decide (o.fGroup = g)
def placeO (g : Int) (l : List GOwner) : Option Nat := l.findIdx? (isG g)
def placeI (g : Int) (l : List GOwner) : Int := rfindB (isG g) l
theorem place_cases (g : Int) (l : List GOwner) : (placeO g l = none ∧ placeI g l = -1 ∧ ∀ x ∈ l, x.fGroup ≠ g) ∨ ∃ (k : Nat) (h : k < l.length), placeO g l = some k ∧ placeI g l = (k : Int) ∧ l[k].fGroup = g ∧ ∀ j (hj : j < k), (l[j]'(by omega)).fGroup ≠ g := by
 unfold placeI rfindB placeO
 cases hf : l.findIdx? (isG g) with
 | none => exact .inl ⟨rfl, rfl, fun x hx => by
   have := List.findIdx?_eq_none_iff.1 hf x hx; simpa using this⟩
 | some k =>
  obtain ⟨h, h1, h2⟩ := List.findIdx?_eq_some_iff_getElem.1 hf
  exact .inr ⟨k, h, rfl, rfl, by simpa using h1, fun j hj => by have := h2 j hj; simpa using this⟩
def fromAt (l : List GOwner) (k : Nat) : List UInt8 := match l[k]? with
 | some o => o.fFrom
 | none => [121]
theorem fromAt_lt {l : List GOwner} {k : Nat} (h : k < l.length) : fromAt l k = l[k].fFrom := by unfold fromAt; rw [List.getElem?_eq_getElem h]
theorem fromAt_ge {l : List GOwner} {k : Nat} (h : l.length ≤ k) : fromAt l k = [121] := by unfold fromAt; rw [List.getElem?_eq_none h]
def spanF (l : List GOwner) (k : Nat) : GSpan := ⟨fromAt l k, fromAt l (k + 1)⟩
def ownedF (l : List GOwner) (g : Int) : GSpan := match placeO g l with
 | some k => spanF l k
 | none => ⟨[], []⟩
end Go.Proofs.YtibaehlfpgipfaaGreat
namespace Go.Proofs.YtibaehlfpgipfaaGreat
open Go.RowKit
theorem rowns_empty (w : World) (e sz base : Nat) (hb : base ≤ w.heap.size) : (w.alloc (.cells #[] e)).ownsRow base e sz (.slice (some ⟨w.heap.size, 0, none⟩) 0 0) 0 [] := by
 refine ⟨by simp, .inr ⟨w.heap.size, 0, #[], rfl, hb, heap_alloc_new _ _, Nat.le_refl _, Nat.zero_le _, by simp, by simp⟩⟩
theorem rlist0_run {P : Program} {t e n bytes : Nat} (S : SliceT P t e n bytes) (w : World) : (Instr.buildSlice t 0 #[]).run P w = .ok (.slice (some ⟨w.heap.size, 0, none⟩) 0 0) (w.alloc (.cells #[] e)) := by
 obtain ⟨i, z, hi, hz, hsz, hby, hzs⟩ := S.info
 unfold Instr.buildSlice
 simp [run_underlying S.under, sizeOf, typeInfo, hi, newRow, newObj, Instr.fill]
 have e : ∀ f : Nat → Value, Array.map f (Array.range 0) = #[] := fun f => by apply Array.eq_empty_of_size_eq_zero; simp
 rw [e]
 rfl
set_option maxHeartbeats 1000000 in
theorem cl_c {p : Nat → Prop} (a : Option Addr) (n cap : Nat) (l : List UInt8) (w : World) (hn : l.length = n) (ha : Lies w p a (l.map bv)) (hr : n ≤ 140737488355328) :
  Calls Tryz.prog 80 #[.slice a n cap] w fun e w' => ∃ a' cap', e = .returned (.slice a' n cap') ∧ w'.ownsRow w.heap.size 5 1 (.slice a' n cap') n (l.map bv) ∧ Keep Nix w w' := by
 subst hn
 cases a with
 | none =>
  obtain rfl : l = [] := by
   by_cases h : l.map bv = []
   ·simpa using h
   ·obtain ⟨b, off, hb, -⟩ := ha h; cases hb
  have hnil := fun (w' : World) (n c : Nat) => Lib.run_eql_slice_nil (P := Tryz.prog) w' 30 5 none n c 0 0 Tryz.underlying30
  clear ha
  go_enter Tryz.func80, Tryz.ntmps80
  go_wp2_with fail
  go_ret
  exact ⟨none, 0, rfl, World.ownsRow_nil _ _ _ _, Keep.refl _ _⟩
 | some ad =>
  have hnil := fun (w' : World) => Lib.run_eql_slice_nil (P := Tryz.prog) w' 30 5 (some ad) l.length cap 0 0 Tryz.underlying30
  have hl0 := fun w' => rlist0_run T_bytes w'
  have own0 := rowns_empty w 5 1 w.heap.size (Nat.le_refl _)
  have lies2 := ha.keep ((Keep.refl Nix w).alloc (.cells #[] 5)) (fun _ _ h => h)
  have hsz : w.heap.size ≤ (w.alloc (.cells #[] 5)).heap.size := by simp
  clear ha
  go_enter Tryz.func80, Tryz.ntmps80
  go_wp2_with (at_builtin; refine wpl_append T_bytes rfl (.tmp 5) (.tmp 6) rfl w.heap.size rfl own0 (l.map bv) rfl (by simp) lies2 (bv_one l) ?c1 ?c2 hsz ?_)
  case c1 => unfold maxLen; omega
  case c2 => omega
  intro a' cap' w2 own2 hg
  have kk : Keep Nix w w2 := ((Keep.refl Nix w).alloc (.cells #[] 5)).grown hg (fun k hk hlt => by simp [Value.ownBlock] at hk; omega)
  (try rw [Nat.zero_add, List.nil_append] at own2)
  clear own0 hg lies2
  go_wp2
  go_ret
  exact ⟨a', cap', by simp, own2, kk⟩
theorem own_from {w : World} {base base' e sz n : Nat} {v : Value} {xs : List Value} (h : w.ownsRow base e sz v n xs) (hb : base' ≤ base) : w.ownsRow base' e sz v n xs :=
 ⟨h.1, h.2.imp id fun ⟨g, cap, cur, e, h1, r⟩ => ⟨g, cap, cur, e, Nat.le_trans hb h1, r⟩⟩
theorem boxed {P : Program} {T n : Nat} {zs cs : List Value} (S : StructT P T n) (w : World) (hz : zs.length = n) (hc : cs.length = n) (ho : ones cs = true) :
  (storeSem T (.pointer (some ⟨w.heap.size, 0, none⟩)) (.agg cs.toArray)).run P (w.alloc (.cells zs.toArray T)) = .ok .skip ((w.alloc (.cells zs.toArray T)).setRow w.heap.size cs.toArray) ∧
   RowIs ((w.alloc (.cells zs.toArray T)).setRow w.heap.size cs.toArray) w.heap.size T cs ∧ Keep Nix w ((w.alloc (.cells zs.toArray T)).setRow w.heap.size cs.toArray) := by
 have r0 : RowIs (w.alloc (.cells zs.toArray T)) w.heap.size T zs := by have := RowIs.alloc w zs.toArray T; simpa using this
 exact ⟨store_run S r0 hz hc ho, r0.setRow cs, ((Keep.refl Nix w).alloc _).setRow (fun h => absurd h (Nat.lt_irrefl _)) _⟩
theorem Whole.run {P : Program} {w : World} {T T' n b : Nat} {cs : List Value} (S : StructT P T n) (hn : cs.length = n) (h : RowIs w b T' cs) : (wholeSem T (.pointer (some ⟨b, 0, none⟩))).run P w = .ok (.value (.agg cs.toArray)) w := Whole.row S hn h
def RetB (w : World) (l : List UInt8) (e : Ending) (w' : World) : Prop := ∃ (a : Option Addr) (cap : Nat), e = .returned (.slice a l.length cap) ∧ (Lies w' (NewIn w w') a (l.map bv) ∧ l.length ≤ cap ∧ l.length ≤ far) ∧ Keep Nix w w'
theorem RetB.of_own {w w' : World} {l : List UInt8} {a : Option Addr} {cap : Nat} (h : w'.ownsRow w.heap.size 5 1 (.slice a l.length cap) l.length (l.map bv)) (hf : l.length ≤ far) (k : Keep Nix w w') : RetB w l (.returned (.slice a l.length cap)) w' := by
 refine ⟨a, cap, rfl, ⟨?_, (owned_bounds h).2.1, hf⟩, k⟩
 intro hx
 obtain ⟨b, off, h1, h2, h3, h4⟩ := Lies.of_owned h hx
 exact ⟨b, off, h1, ⟨h2.1, h3⟩, h3, h4⟩
theorem clR_c {p : Nat → Prop} (a : Option Addr) (cap : Nat) (l : List UInt8) (w : World) (ha : Lies w p a (l.map bv) ∧ l.length ≤ cap ∧ l.length ≤ far) : Calls Tryz.prog 80 #[.slice a l.length cap] w (RetB w l) :=
 (cl_c a l.length cap l w rfl ha.1 (by have := far_len; have := ha.2.2; omega)).mono fun e w' ⟨a', cap', h, own, k⟩ => by rw [h]; exact RetB.of_own own ha.2.2 k
section
attribute [local go_sem ↓] ldz_Owner
set_option maxHeartbeats 1000000 in
theorem ifOwner_c {p : Nat → Prop} (a : Option Addr) (n cap : Nat) (l : List GOwner) (fv : FuncId) (u : Value) (P : GOwner → Bool) (w : World) (hl : rList rGOwner w p [.slice a n cap] l)
  (hE : ∀ args w, (callFunc fv args).run Tryz.prog w = .ok (.enter fv args) w) (hF : (∀ (w' : World) (x : GOwner) (cs : List Value), Keep Nix w w' → x ∈ l → rGOwner w' p cs x → Calls Tryz.prog fv #[.agg cs.toArray, u] w' fun e w'' => e = .returned (.bool (P x)) ∧ Keep Nix w' w'')) :
  Calls Tryz.prog 169 #[.slice a n cap, .func (.func fv) #[] #[u]] w fun e w' => e = .returned (.int .i64 (rfindB P l)) ∧ Keep Nix w w' := by
 obtain ⟨rfl, -, hf⟩ := rList_len hl
 have hfar : l.length ≤ 9223372036854775807 := by have := far_len; unfold maxLen at this; omega
 have HF := Lib.hid hF
 clear hf hF
 go_enter Tryz.func169, Tryz.ntmps169
 go_wp2_with fail
 go_loopw [8] (fun i wr => ∃ k : Nat, k ≤ l.length ∧ i = .int .i64 k ∧ Hid (rNoneYet P l k) ∧ Keep Nix w wr) (fun i _ => l.length - (intOf i).toNat)
 case atStart => exact ⟨0, by omega, rfl, fun j hj => by omega, Keep.refl _ _⟩
 case round =>
  obtain ⟨k, hk, rfl, hg, kk⟩ := hrel
  by_cases hlt : k < l.length
  ·have hi0 : (0 : Int) ≤ (k : Int) := by omega
   have hi1 : (k : Int) < (l.length : Int) := by omega
   have HM : Hid (l[k] ∈ l) := List.getElem_mem hlt
   have HA := Lib.hid (rfindB_at (P := P) k hlt hg.out)
   have HS := Lib.hid (hg.out.succ (P := P) hlt)
   obtain ⟨b, o, c, cs, e1, -, hb, r, hc⟩ := rList_at rGOwner_lawful (by decide) ((rList_lawful rGOwner_lawful).nix hl kk) k hlt
   simp only [List.cons.injEq, Value.slice.injEq, and_true] at e1
   obtain ⟨rfl, -, -⟩ := e1
   have ld := Whole.at (P := Tryz.prog) S_Owner (rGOwner_lawful.len r) hc
   unfold Whole at ld
   clear hl hc
   generalize l[k] = x at HM HA HS r
   have hcall := HF.out wr x cs kk HM.out r
   clear r
   rcases hP : P x with _ | _
   ·rw [hP] at hcall
    have HP := Lib.hid hP
    have HC := Lib.hid hcall
    clear hP hcall
    go_wp2_with fail
    go_fit HC.out
    clear HC
    rintro e w2 ⟨rfl, k2⟩
    replace kk := kk.trans k2
    clear k2
    go_wp2_with fail
    go_roundw
    case rel => exact ⟨k + 1, by omega, by go_num, HS.out HP.out, kk⟩
    case measure => simp [intOf]; omega
   ·rw [hP] at hcall
    have HP := Lib.hid hP
    have HC := Lib.hid hcall
    clear hP hcall
    go_wp2_with fail
    go_fit HC.out
    clear HC
    rintro e w2 ⟨rfl, k2⟩
    replace kk := kk.trans k2
    clear k2
    go_wp2_with fail
    go_ret
    exact ⟨ret_int (HA.out HP.out).symm, kk⟩
  ·obtain rfl : k = l.length := by omega
   have HN := Lib.hid (rfindB_none (P := P) hg.out)
   go_wp2_with fail
   go_ret
   exact ⟨ret_int HN.out.symm, kk⟩
end
theorem place1_c {p : Nat → Prop} (x : GOwner) (cs : List Value) (b : Nat) (y : Int) (w : World) (hx : rGOwner w p cs x) (hb : b < w.heap.size) (hc : w.cell? ⟨b, 0, none⟩ = some (.int .i64 y)) :
  Calls Tryz.prog 170 #[.agg cs.toArray, .pointer (some ⟨b, 0, none⟩)] w fun e w' => e = .returned (.bool (isG y x)) ∧ Keep Nix w w' := by
 obtain ⟨aF, cF, rfl, -⟩ := rGOwner_open hx
 have kk : Keep Nix w (w.alloc (.cells #[.int .i64 x.fGroup, .slice aF x.fFrom.length cF] 97)) := (Keep.refl Nix w).alloc _
 have hc' : (w.alloc (.cells #[.int .i64 x.fGroup, .slice aF x.fFrom.length cF] 97)).cell? ⟨b, 0, none⟩ = some (.int .i64 y) := (kk.cell (p := ⟨b, 0, none⟩) hb id).trans hc
 clear hx hc
 go_enter Tryz.func170, Tryz.ntmps170
 go_wp2
 go_ret
 exact ⟨ret_bool (by rw [Bool.eq_iff_iff]; simp), kk⟩
set_option maxRecDepth 100000 in
theorem place_c {p : Nat → Prop} (r : GRoutes) (csr : List Value) (g : Int) (w : World) (hr : rGRoutes w p csr r) :
  Calls Tryz.prog 113 #[.agg csr.toArray, .int .i64 g] w fun e w' => e = .returned (.int .i64 (placeI g r.fSpans)) ∧ Keep Nix w w' := by
 obtain ⟨aS, cS, aC, cC, rfl, hE, hB, hS, hM, hC, -⟩ := rGRoutes_open hr
 have kk : Keep Nix w ((w.alloc (.cells #[.int .i64 r.fEpoch, .int .i64 r.fBase, .slice aS r.fSpans.length cS, .int .i64 r.fMoving, .slice aC r.fCut.length cC] 53)).alloc (.cells #[.int .i64 g] 3)) := ((Keep.refl Nix w).alloc _).alloc _
 have row0 : RowIs ((w.alloc (.cells #[.int .i64 r.fEpoch, .int .i64 r.fBase, .slice aS r.fSpans.length cS, .int .i64 r.fMoving, .slice aC r.fCut.length cC] 53)).alloc (.cells #[.int .i64 g] 3)) w.heap.size 53 [.int .i64 r.fEpoch, .int .i64 r.fBase, .slice aS r.fSpans.length cS, .int .i64 r.fMoving, .slice aC r.fCut.length cC] := (RowIs.alloc w _ _).keep ((Keep.refl Nix _).alloc _) id
 have row1 : RowIs ((w.alloc (.cells #[.int .i64 r.fEpoch, .int .i64 r.fBase, .slice aS r.fSpans.length cS, .int .i64 r.fMoving, .slice aC r.fCut.length cC] 53)).alloc (.cells #[.int .i64 g] 3)) (w.alloc (.cells #[.int .i64 r.fEpoch, .int .i64 r.fBase, .slice aS r.fSpans.length cS, .int .i64 r.fMoving, .slice aC r.fCut.length cC] 53)).heap.size 3 [.int .i64 g] := RowIs.alloc _ _ _
 have hsz : (w.alloc (.cells #[.int .i64 r.fEpoch, .int .i64 r.fBase, .slice aS r.fSpans.length cS, .int .i64 r.fMoving, .slice aC r.fCut.length cC] 53)).heap.size = w.heap.size + 1 := by simp
 rw [hsz] at row1
 have hS1 := (rList_lawful rGOwner_lawful).nix hS kk
 have hcall := ifOwner_c aS r.fSpans.length cS r.fSpans 170 (.pointer (some ⟨w.heap.size + 1, 0, none⟩)) (isG g) ((w.alloc (.cells #[.int .i64 r.fEpoch, .int .i64 r.fBase, .slice aS r.fSpans.length cS, .int .i64 r.fMoving, .slice aC r.fCut.length cC] 53)).alloc (.cells #[.int .i64 g] 3)) hS1 (fun args w => by rfl) (fun w' x cs k hx rx => by
  have row := row1.keep k id
  exact place1_c x cs _ g w' rx row.lt (row.cell 0))
 have HC := Lib.hid hcall
 have x2 := row0.cell 2
 (try simp only [List.getElem?_cons_succ] at x2); (try simp only [List.getElem?_cons_zero] at x2)
 clear hcall hE hB hS hM hC hr hS1 row0 row1 hsz
 go_enter Tryz.func113, Tryz.ntmps113
 go_wp2_with fail
 go_fit HC.out
 rintro e w1 ⟨rfl, k1⟩
 go_wp2
 go_ret
 exact ⟨rfl, kk.trans k1⟩
def RetS (w : World) (s : GSpan) (e : Ending) (w' : World) : Prop := ∃ cs : List Value, e = .returned (.agg cs.toArray) ∧ rGSpan w' (NewIn w w') cs s ∧ Keep Nix w w'
end Go.Proofs.YtibaehlfpgipfaaGreat
namespace Go.Proofs.YtibaehlfpgipfaaGreat
open Go.RowKit
def LB (w : World) (s : Nat → Prop) (a : Option Addr) (cap : Nat) (l : List UInt8) : Prop := Lies w s a (l.map bv) ∧ l.length ≤ cap ∧ l.length ≤ far
theorem LB.mono {w : World} {s s' : Nat → Prop} {a : Option Addr} {cap : Nat} {l : List UInt8} (h : LB w s a cap l) (hs : ∀ i, s i → s' i) : LB w s' a cap l :=
 ⟨fun hx => by obtain ⟨b, off, h1, h2, h3⟩ := h.1 hx; exact ⟨b, off, h1, hs b h2, h3⟩, h.2⟩
theorem LB.keep {w w' : World} {s : Nat → Prop} {a : Option Addr} {cap : Nat} {l : List UInt8} (h : LB w s a cap l) (k : Keep Nix w w') : LB w' s a cap l := ⟨h.1.keep k (fun _ _ h => h), h.2⟩
theorem mkS {w : World} {p : Nat → Prop} {a b : Option Addr} {c d : Nat} {f t : List UInt8} (h1 : LB w p a c f) (h2 : LB w p b d t) : rGSpan w p [.slice a f.length c, .slice b t.length d] ⟨f, t⟩ := rGSpan_mk (x := ⟨f, t⟩) w p h1 h2
theorem LB.nil0 (w : World) (p : Nat → Prop) : LB w p none 0 [] := ⟨fun h => absurd rfl h, Nat.zero_le _, Nat.zero_le _⟩
theorem mkS0 (w : World) (p : Nat → Prop) : rGSpan w p [.slice none 0 0, .slice none 0 0] ⟨[], []⟩ := mkS (LB.nil0 w p) (LB.nil0 w p)
theorem len_pos {l : List UInt8} (h : l ≠ []) : (0 : Int) < (l.length : Int) := by
 cases l with
 | nil => exact absurd rfl h
 | cons _ _ => simp
theorem pos0 {l : List UInt8} (h : l = []) : (l.length : Int) ≤ 0 := by rw [h]; exact Int.le_refl _
theorem pos1 {l : List UInt8} (h : l ≠ []) : (0 : Int) < (l.length : Int) := len_pos h
end Go.Proofs.YtibaehlfpgipfaaGreat
namespace Go.Proofs.YtibaehlfpgipfaaGreat
open Go.RowKit
theorem LB.row {w : World} {b : Nat} {c : UInt8} (h : RowIs w b 5 [.int .u8 (c.toNat : Int)]) (p : Nat → Prop) (hp : p b) : LB w p (some ⟨b, 0, none⟩) 1 [c] :=
 ⟨h.lies p hp (fun j u hu => by rw [Nat.zero_add]; exact hu), Nat.le_refl _, by show 1 ≤ far; decide⟩
theorem LB.to {w w' : World} {s s' S : Nat → Prop} {a : Option Addr} {cap : Nat} {l : List UInt8} (h : LB w s a cap l) (k : Keep S w w') (h1 : ∀ b, s b → ¬ S b) (h2 : ∀ b, s b → s' b) : LB w' s' a cap l := ⟨(h.1.keep k h1).mono h2, h.2⟩
end Go.Proofs.YtibaehlfpgipfaaGreat
namespace Go.Proofs.YtibaehlfpgipfaaGreat
open Go.RowKit
section
attribute [local go_sem ↓] ldz_Routes
set_option maxRecDepth 100000 in
set_option maxHeartbeats 4000000 in
theorem Owned_c {p : Nat → Prop} (r : GRoutes) (csr : List Value) (g : Int) (w : World) (hr : rGRoutes w p csr r) :
  Calls Tryz.prog 139 #[.agg csr.toArray, .int .i64 g] w (RetS w (ownedF r.fSpans g)) := by
 have HR := Lib.hid hr
 obtain ⟨aS, cS, aC, cC, rfl, hE, hB, hS, hM, hC, -⟩ := rGRoutes_open hr
 have mS : r.fSpans.length ≤ 140737488351232 := by have := (rList_len hS).2.2; have := far_len; omega
 have row0 : RowIs ((w.alloc (.cells #[.int .i64 r.fEpoch, .int .i64 r.fBase, .slice aS r.fSpans.length cS, .int .i64 r.fMoving, .slice aC r.fCut.length cC] 53)).alloc (.cells #[.slice none 0 0, .slice none 0 0] 32)) w.heap.size 53 [.int .i64 r.fEpoch, .int .i64 r.fBase, .slice aS r.fSpans.length cS, .int .i64 r.fMoving, .slice aC r.fCut.length cC] := (RowIs.alloc w _ _).keep ((Keep.refl Nix _).alloc _) id
 have rowR := RowIs.alloc (w.alloc (.cells #[.int .i64 r.fEpoch, .int .i64 r.fBase, .slice aS r.fSpans.length cS, .int .i64 r.fMoving, .slice aC r.fCut.length cC] 53)) #[.slice none 0 0, .slice none 0 0] 32
 have kk : Keep Nix w ((w.alloc (.cells #[.int .i64 r.fEpoch, .int .i64 r.fBase, .slice aS r.fSpans.length cS, .int .i64 r.fMoving, .slice aC r.fCut.length cC] 53)).alloc (.cells #[.slice none 0 0, .slice none 0 0] 32)) := ((Keep.refl Nix w).alloc _).alloc _
 have hsz : (w.alloc (.cells #[.int .i64 r.fEpoch, .int .i64 r.fBase, .slice aS r.fSpans.length cS, .int .i64 r.fMoving, .slice aC r.fCut.length cC] 53)).heap.size = w.heap.size + 1 := by simp
 rw [hsz] at rowR
 have hinfo : (Tryz.prog.info? 32).map (·.size) = some 2 := by kernel_rfl
 have HS := Lib.hid hS
 clear hr hE hB hM hC hsz hS
 go_enter Tryz.func139, Tryz.ntmps139
 go_upto_region 1 with fail
 generalize ((w.alloc (.cells #[.int .i64 r.fEpoch, .int .i64 r.fBase, .slice aS r.fSpans.length cS, .int .i64 r.fMoving, .slice aC r.fCut.length cC] 53)).alloc (.cells #[.slice none 0 0, .slice none 0 0] 32)) = w1 at *
 generalize hbs : w.heap.size = bs at *
 have ldR := Whole.run (P := Tryz.prog) S_Routes rfl row0
 go_wp2_with fail
 go_fit (place_c r [.int .i64 r.fEpoch, .int .i64 r.fBase, .slice aS r.fSpans.length cS, .int .i64 r.fMoving, .slice aC r.fCut.length cC] g w1 (rGRoutes_lawful.nix HR.out kk))
 rintro e w2 ⟨rfl, k2⟩
 replace row0 := row0.keep k2 id
 replace rowR := rowR.keep k2 id
 replace kk := kk.trans k2
 clear ldR k2 HR
 clear w1
 rename World => w1
 rcases place_cases g r.fSpans with ⟨ho, hi, -⟩ | ⟨k, hk, ho, hi, -⟩
 ·rw [hi]
  have q0 := rowR.cell 0
  (try simp only [List.getElem?_cons_zero] at q0)
  have q1 := rowR.cell 1
  (try simp only [List.getElem?_cons_succ] at q1); (try simp only [List.getElem?_cons_zero] at q1)
  have h0 := rowR.frozen 0
  have h1 := rowR.frozen 1
  have rowF := (rowR.set 0 (.slice none 0 0)).set 1 (.slice none 0 0)
  have kS : Keep (· = bs + 1) w1 ((w1.setCell ⟨bs + 1, 0, none⟩ (.slice none 0 0)).setCell ⟨bs + 1, 1, none⟩ (.slice none 0 0)) := ((Keep.refl (· = bs + 1) w1).setCell (fun _ => rfl) _).setCell (fun _ => rfl) _
  have k5 := kk.then kS (fun i hi e => by omega)
  clear row0 rowR kS kk
  go_wp2_with fail
  refine bodyPost_ret (results_cell_row (by rfl) _ _ _ _ _ _ _ (by rfl) rowF Tryz.underlying32 (by rfl) hinfo) rfl ?_
  refine ⟨_, rfl, ?_, k5⟩
  unfold ownedF
  rw [ho]
  exact mkS0 _ _
 ·rw [hi]
  have HO : Hid (ownedF r.fSpans g = spanF r.fSpans k) := by show _ = _; unfold ownedF; rw [ho]
  clear ho hi
  have hS1 := (rList_lawful rGOwner_lawful).nix HS.out kk
  obtain ⟨b1, o1, _, _, e1, -, hbx, xr, xc⟩ := rList_at rGOwner_lawful (by decide) hS1 k hk
  simp only [List.cons.injEq, Value.slice.injEq, and_true] at e1
  obtain ⟨rfl, -, -⟩ := e1
  have xf := fromAt_lt hk
  obtain ⟨aF, cF, rfl, -, hF, -⟩ := rGOwner_open xr
  have x1 := xc 1 _ rfl
  rw [← xf] at x1 hF
  have y2 := row0.cell 2
  (try simp only [List.getElem?_cons_succ] at y2); (try simp only [List.getElem?_cons_zero] at y2)
  have hk0 : (0 : Int) ≤ (k : Int) := by omega
  have hk1 : (k : Int) < (r.fSpans.length : Int) := by omega
  clear xr xc hS1 xf
  go_wp2_with fail
  go_fit (clR_c aF cF (fromAt r.fSpans k) w1 hF)
  rintro e w2 ⟨a1, c1, rfl, L1, k2⟩
  have hs0 := rowR.lt
  have hs1 := kk.size
  have hs2 := k2.size
  have L1 : LB w2 (NewIn w1 w2) a1 c1 (fromAt r.fSpans k) := L1
  have k3 : Keep Nix w2 ((w2.alloc (.cells #[.int .u8 121] 5)).alloc (.cells #[.slice a1 (fromAt r.fSpans k).length c1, .slice (some ⟨w2.heap.size, 0, none⟩) 1 1] 32)) := ((Keep.refl Nix w2).alloc _).alloc _
  have rowB : RowIs ((w2.alloc (.cells #[.int .u8 121] 5)).alloc (.cells #[.slice a1 (fromAt r.fSpans k).length c1, .slice (some ⟨w2.heap.size, 0, none⟩) 1 1] 32)) w2.heap.size 5 [.int .u8 121] := (RowIs.alloc w2 _ _).keep ((Keep.refl Nix _).alloc _) id
  have rowT := RowIs.alloc (w2.alloc (.cells #[.int .u8 121] 5)) #[.slice a1 (fromAt r.fSpans k).length c1, .slice (some ⟨w2.heap.size, 0, none⟩) 1 1] 32
  have hsz : (w2.alloc (.cells #[.int .u8 121] 5)).heap.size = w2.heap.size + 1 := by simp
  rw [hsz] at rowT
  replace row0 := (row0.keep k2 id).keep k3 id
  replace rowR := (rowR.keep k2 id).keep k3 id
  replace kk := (kk.trans k2).trans k3
  have hs3 : ((w2.alloc (.cells #[.int .u8 121] 5)).alloc (.cells #[.slice a1 (fromAt r.fSpans k).length c1, .slice (some ⟨w2.heap.size, 0, none⟩) 1 1] 32)).heap.size = w2.heap.size + 1 + 1 := by simp
  replace L1 : LB ((w2.alloc (.cells #[.int .u8 121] 5)).alloc (.cells #[.slice a1 (fromAt r.fSpans k).length c1, .slice (some ⟨w2.heap.size, 0, none⟩) 1 1] 32)) (fun b => bs + 1 < b ∧ b < w2.heap.size) a1 c1 (fromAt r.fSpans k) := L1.to k3 (fun _ _ h => h) (fun b h => ⟨by have := h.1; omega, by have := h.2; omega⟩)
  have LE : LB ((w2.alloc (.cells #[.int .u8 121] 5)).alloc (.cells #[.slice a1 (fromAt r.fSpans k).length c1, .slice (some ⟨w2.heap.size, 0, none⟩) 1 1] 32)) (· = w2.heap.size) (some ⟨w2.heap.size, 0, none⟩) 1 [121] := LB.row (c := 121) rowB _ rfl
  clear x1 y2 k2 k3 hsz rowB
  have y2 := row0.cell 2
  (try simp only [List.getElem?_cons_succ] at y2); (try simp only [List.getElem?_cons_zero] at y2)
  go_upto_if 27 with fail
  generalize ((w2.alloc (.cells #[.int .u8 121] 5)).alloc (.cells #[.slice a1 (fromAt r.fSpans k).length c1, .slice (some ⟨w2.heap.size, 0, none⟩) 1 1] 32)) = w3 at *
  generalize hb2 : w2.heap.size = b2 at *
  have t0 := rowT.cell 0
  (try simp only [List.getElem?_cons_zero] at t0)
  have t1 := rowT.cell 1
  (try simp only [List.getElem?_cons_succ] at t1); (try simp only [List.getElem?_cons_zero] at t1)
  have g1 := rowT.frozen 1
  have q0 := rowR.cell 0
  (try simp only [List.getElem?_cons_zero] at q0)
  have q1 := rowR.cell 1
  (try simp only [List.getElem?_cons_succ] at q1); (try simp only [List.getElem?_cons_zero] at q1)
  have h0 := rowR.frozen 0
  have h1 := rowR.frozen 1
  rcases Nat.lt_or_ge (k + 1) r.fSpans.length with hlt | hge
  ·have hk2 : (k : Int) + 1 < (r.fSpans.length : Int) := by omega
   have hS3 := (rList_lawful rGOwner_lawful).nix HS.out kk
   obtain ⟨b3, o3, _, _, e1, -, hbz, zr, zc⟩ := rList_at rGOwner_lawful (by decide) hS3 (k + 1) hlt
   simp only [List.cons.injEq, Value.slice.injEq, Option.some.injEq, Addr.mk.injEq, and_true] at e1
   obtain ⟨⟨rfl, rfl⟩, -⟩ := e1
   have zf := fromAt_lt hlt
   obtain ⟨aG, cG, rfl, -, hG, -⟩ := rGOwner_open zr
   have x1 := zc 1 _ rfl
   rw [← zf] at x1 hG
   have hix : (((k : Int) + 1).toNat) = k + 1 := by omega
   clear zr zc hS3 zf t0 t1 g1 q0 q1 h0 h1
   go_wp2_with fail
   go_fit (clR_c aG cG (fromAt r.fSpans (k + 1)) w3 hG)
   rintro e w4 ⟨a2, c2, rfl, L2, k4⟩
   have L2 : LB w4 (NewIn w3 w4) a2 c2 (fromAt r.fSpans (k + 1)) := L2
   have hs4 := k4.size
   replace rowR := rowR.keep k4 id
   replace rowT := rowT.keep k4 id
   replace kk := kk.trans k4
   have t0 := rowT.cell 0
   (try simp only [List.getElem?_cons_zero] at t0)
   have t1 := rowT.cell 1
   (try simp only [List.getElem?_cons_succ] at t1); (try simp only [List.getElem?_cons_zero] at t1)
   have g1 := rowT.frozen 1
   have q0 := rowR.cell 0
   (try simp only [List.getElem?_cons_zero] at q0)
   have q1 := rowR.cell 1
   (try simp only [List.getElem?_cons_succ] at q1); (try simp only [List.getElem?_cons_zero] at q1)
   have h0 := rowR.frozen 0
   have h1 := rowR.frozen 1
   have kA : Keep (· = b2 + 1) w4 (w4.setCell ⟨b2 + 1, 1, none⟩ (.slice a2 (fromAt r.fSpans (k + 1)).length c2)) := (Keep.refl (· = b2 + 1) w4).setCell (p := ⟨b2 + 1, 1, none⟩) (fun _ => rfl) _
   have kB : Keep (· = bs + 1) (w4.setCell ⟨b2 + 1, 1, none⟩ (.slice a2 (fromAt r.fSpans (k + 1)).length c2)) (((w4.setCell ⟨b2 + 1, 1, none⟩ (.slice a2 (fromAt r.fSpans (k + 1)).length c2)).setCell ⟨bs + 1, 0, none⟩ (.slice a1 (fromAt r.fSpans k).length c1)).setCell ⟨bs + 1, 1, none⟩ (.slice a2 (fromAt r.fSpans (k + 1)).length c2)) := ((Keep.refl (· = bs + 1) _).setCell (p := ⟨bs + 1, 0, none⟩) (fun _ => rfl) _).setCell (p := ⟨bs + 1, 1, none⟩) (fun _ => rfl) _
   have rowF : RowIs (((w4.setCell ⟨b2 + 1, 1, none⟩ (.slice a2 (fromAt r.fSpans (k + 1)).length c2)).setCell ⟨bs + 1, 0, none⟩ (.slice a1 (fromAt r.fSpans k).length c1)).setCell ⟨bs + 1, 1, none⟩ (.slice a2 (fromAt r.fSpans (k + 1)).length c2)) (bs + 1) 32 [.slice a1 (fromAt r.fSpans k).length c1, .slice a2 (fromAt r.fSpans (k + 1)).length c2] := ((rowR.keep kA (by omega)).set 0 _).set 1 _
   have k5 := (kk.then kA (fun i hi e => by omega)).then kB (fun i hi e => by omega)
   have hs5 := kA.size
   have hs6 := kB.size
   replace L1 := ((L1.keep k4).to (s' := fun b => bs + 1 < b ∧ b < b2) kA (fun b h e => by omega) (fun b h => h)).to (s' := NewIn w (((w4.setCell ⟨b2 + 1, 1, none⟩ (.slice a2 (fromAt r.fSpans (k + 1)).length c2)).setCell ⟨bs + 1, 0, none⟩ (.slice a1 (fromAt r.fSpans k).length c1)).setCell ⟨bs + 1, 1, none⟩ (.slice a2 (fromAt r.fSpans (k + 1)).length c2))) kB (fun b h e => by omega) (fun b h => ⟨by omega, by omega⟩)
   replace L2 := (L2.to (s' := NewIn w3 w4) kA (fun b h e => by have := h.1; omega) (fun b h => h)).to (s' := NewIn w (((w4.setCell ⟨b2 + 1, 1, none⟩ (.slice a2 (fromAt r.fSpans (k + 1)).length c2)).setCell ⟨bs + 1, 0, none⟩ (.slice a1 (fromAt r.fSpans k).length c1)).setCell ⟨bs + 1, 1, none⟩ (.slice a2 (fromAt r.fSpans (k + 1)).length c2))) kB (fun b h e => by have := h.1; omega) (fun b h => ⟨by have := h.1; omega, by have := h.2; omega⟩)
   clear rowR rowT kA kB kk row0 LE
   go_wp2_with fail
   refine bodyPost_ret (results_cell_row (by rfl) _ _ _ _ _ _ _ (by rfl) rowF Tryz.underlying32 (by rfl) hinfo) rfl ?_
   refine ⟨_, rfl, ?_, k5⟩
   (try rw [HO.out])
   exact mkS L1 L2
  ·have hk2 : (r.fSpans.length : Int) ≤ (k : Int) + 1 := by omega
   have hz := fromAt_ge hge
   have kB : Keep (· = bs + 1) w3 ((w3.setCell ⟨bs + 1, 0, none⟩ (.slice a1 (fromAt r.fSpans k).length c1)).setCell ⟨bs + 1, 1, none⟩ (.slice (some ⟨b2, 0, none⟩) 1 1)) := ((Keep.refl (· = bs + 1) _).setCell (p := ⟨bs + 1, 0, none⟩) (fun _ => rfl) _).setCell (p := ⟨bs + 1, 1, none⟩) (fun _ => rfl) _
   have rowF : RowIs ((w3.setCell ⟨bs + 1, 0, none⟩ (.slice a1 (fromAt r.fSpans k).length c1)).setCell ⟨bs + 1, 1, none⟩ (.slice (some ⟨b2, 0, none⟩) 1 1)) (bs + 1) 32 [.slice a1 (fromAt r.fSpans k).length c1, .slice (some ⟨b2, 0, none⟩) 1 1] := (rowR.set 0 _).set 1 _
   have k5 := kk.then kB (fun i hi e => by omega)
   have hs6 := kB.size
   replace L1 := L1.to (s' := NewIn w ((w3.setCell ⟨bs + 1, 0, none⟩ (.slice a1 (fromAt r.fSpans k).length c1)).setCell ⟨bs + 1, 1, none⟩ (.slice (some ⟨b2, 0, none⟩) 1 1))) kB (fun b h e => by omega) (fun b h => ⟨by omega, by omega⟩)
   replace LE := LE.to (s' := NewIn w ((w3.setCell ⟨bs + 1, 0, none⟩ (.slice a1 (fromAt r.fSpans k).length c1)).setCell ⟨bs + 1, 1, none⟩ (.slice (some ⟨b2, 0, none⟩) 1 1))) kB (fun b h e => by omega) (fun b h => ⟨by omega, by omega⟩)
   clear rowR rowT kB kk row0
   go_wp2_with fail
   refine bodyPost_ret (results_cell_row (by rfl) _ _ _ _ _ _ _ (by rfl) rowF Tryz.underlying32 (by rfl) hinfo) rfl ?_
   refine ⟨_, rfl, ?_, k5⟩
   (try rw [HO.out])
   unfold spanF
   rw [hz]
   exact mkS L1 LE
end
end Go.Proofs.YtibaehlfpgipfaaGreat
namespace Go.Proofs.YtibaehlfpgipfaaGreat
open Go.RowKit
section
attribute [local go_sem ↓] ldz_Routes
end
end Go.Proofs.YtibaehlfpgipfaaGreat
namespace Go.Proofs.YtibaehlfpgipfaaGreat
open Go.RowKit
section
attribute [local go_sem ↓] ldz_Routes
end
end Go.Proofs.YtibaehlfpgipfaaGreat
namespace Go.Proofs.YtibaehlfpgipfaaGreat
open Go.RowKit
section
attribute [local go_sem ↓] ldz_Routes
def newF (b s : Int) : GRoutes × Int := if 1 ≤ b ∧ b ≤ 4 ∧ 1 ≤ s ∧ s ≤ 4 then (⟨0, b, [⟨b + 1, [120]⟩], 0, []⟩, 0) else (⟨0, 0, [], 0, []⟩, 1)
def RetRE (w : World) (y : GRoutes × Int) (e : Ending) (w' : World) : Prop := ∃ cs : List Value, e = .returned (.tuple #[.agg cs.toArray, .int .i64 y.2]) ∧ rGRoutes w' (NewIn w w') cs y.1 ∧ Keep Nix w w'
theorem rrList_nil {α : Type} (R : RD α) (w : World) (p : Nat → Prop) : rList R w p [.slice none 0 0] [] := ⟨none, 0, [], rfl, rfl, fun h => absurd rfl h, Nat.le_refl _, Nat.zero_le _, fun i c x h => by simp at h⟩
theorem i64_0 : isI64 0 := by unfold isI64; omega
theorem rZero (w : World) (p : Nat → Prop) : rGRoutes w p [.int .i64 0, .int .i64 0, .slice none 0 0, .int .i64 0, .slice none 0 0] ⟨0, 0, [], 0, []⟩ :=
 rGRoutes_mk (x := ⟨0, 0, [], 0, []⟩) w p i64_0 i64_0 (rrList_nil _ w p) i64_0 (LB.nil0 w p)
set_option maxRecDepth 100000 in
set_option maxHeartbeats 1000000 in
theorem New_c (b s : Int) (w : World) : Calls Tryz.prog 22 #[.int .i64 b, .int .i64 s] w (RetRE w (newF b s)) := by
 have hinfo : (Tryz.prog.info? 53).map (·.size) = some 5 := by kernel_rfl
 by_cases h : 1 ≤ b ∧ b ≤ 4 ∧ 1 ≤ s ∧ s ≤ 4
 ·have HP : Hid (newF b s = (⟨0, b, [⟨b + 1, [120]⟩], 0, []⟩, 0)) := by show _ = _; unfold newF; rw [if_pos h]
  rw [HP.out]
  obtain ⟨h1, h2, h3, h4⟩ := h
  have k1 := fun (w : World) (o : Obj) => (Keep.refl Nix w).alloc o
  have kk : Keep Nix w (((w.alloc (.cells #[.int .i64 0, .int .i64 b, .slice (some ⟨w.heap.size + 1 + 1, 0, none⟩) 1 1, .int .i64 0, .slice none 0 0] 53)).alloc (.cells #[.int .u8 120] 5)).alloc (.cells #[.int .i64 (b + 1), .slice (some ⟨w.heap.size + 1, 0, none⟩) 1 1] 97)) := ((k1 _ _).trans (k1 _ _)).trans (k1 _ _)
  have rowF : RowIs (((w.alloc (.cells #[.int .i64 0, .int .i64 b, .slice (some ⟨w.heap.size + 1 + 1, 0, none⟩) 1 1, .int .i64 0, .slice none 0 0] 53)).alloc (.cells #[.int .u8 120] 5)).alloc (.cells #[.int .i64 (b + 1), .slice (some ⟨w.heap.size + 1, 0, none⟩) 1 1] 97)) w.heap.size 53 [.int .i64 0, .int .i64 b, .slice (some ⟨w.heap.size + 1 + 1, 0, none⟩) 1 1, .int .i64 0, .slice none 0 0] := ((RowIs.alloc w _ _).keep (k1 _ _) id).keep (k1 _ _) id
  have rowB : RowIs (((w.alloc (.cells #[.int .i64 0, .int .i64 b, .slice (some ⟨w.heap.size + 1 + 1, 0, none⟩) 1 1, .int .i64 0, .slice none 0 0] 53)).alloc (.cells #[.int .u8 120] 5)).alloc (.cells #[.int .i64 (b + 1), .slice (some ⟨w.heap.size + 1, 0, none⟩) 1 1] 97)) (w.heap.size + 1) 5 [.int .u8 120] := by
   have h := (RowIs.alloc (w.alloc (.cells #[.int .i64 0, .int .i64 b, .slice (some ⟨w.heap.size + 1 + 1, 0, none⟩) 1 1, .int .i64 0, .slice none 0 0] 53)) #[.int .u8 120] 5).keep (k1 _ (.cells #[.int .i64 (b + 1), .slice (some ⟨w.heap.size + 1, 0, none⟩) 1 1] 97)) id
   simpa using h
  have rowO : RowIs (((w.alloc (.cells #[.int .i64 0, .int .i64 b, .slice (some ⟨w.heap.size + 1 + 1, 0, none⟩) 1 1, .int .i64 0, .slice none 0 0] 53)).alloc (.cells #[.int .u8 120] 5)).alloc (.cells #[.int .i64 (b + 1), .slice (some ⟨w.heap.size + 1, 0, none⟩) 1 1] 97)) (w.heap.size + 1 + 1) 97 [.int .i64 (b + 1), .slice (some ⟨w.heap.size + 1, 0, none⟩) 1 1] := by
   have h := RowIs.alloc ((w.alloc (.cells #[.int .i64 0, .int .i64 b, .slice (some ⟨w.heap.size + 1 + 1, 0, none⟩) 1 1, .int .i64 0, .slice none 0 0] 53)).alloc (.cells #[.int .u8 120] 5)) #[.int .i64 (b + 1), .slice (some ⟨w.heap.size + 1, 0, none⟩) 1 1] 97
   simpa using h
  have LB1 := LB.row (c := 120) rowB (NewIn w (((w.alloc (.cells #[.int .i64 0, .int .i64 b, .slice (some ⟨w.heap.size + 1 + 1, 0, none⟩) 1 1, .int .i64 0, .slice none 0 0] 53)).alloc (.cells #[.int .u8 120] 5)).alloc (.cells #[.int .i64 (b + 1), .slice (some ⟨w.heap.size + 1, 0, none⟩) 1 1] 97))) ⟨by omega, rowB.lt⟩
  have LL : rList rGOwner (((w.alloc (.cells #[.int .i64 0, .int .i64 b, .slice (some ⟨w.heap.size + 1 + 1, 0, none⟩) 1 1, .int .i64 0, .slice none 0 0] 53)).alloc (.cells #[.int .u8 120] 5)).alloc (.cells #[.int .i64 (b + 1), .slice (some ⟨w.heap.size + 1, 0, none⟩) 1 1] 97)) (NewIn w (((w.alloc (.cells #[.int .i64 0, .int .i64 b, .slice (some ⟨w.heap.size + 1 + 1, 0, none⟩) 1 1, .int .i64 0, .slice none 0 0] 53)).alloc (.cells #[.int .u8 120] 5)).alloc (.cells #[.int .i64 (b + 1), .slice (some ⟨w.heap.size + 1, 0, none⟩) 1 1] 97))) [.slice (some ⟨w.heap.size + 1 + 1, 0, none⟩) 1 1] [⟨b + 1, [120]⟩] :=
   ⟨_, 1, [[.int .i64 (b + 1), .slice (some ⟨w.heap.size + 1, 0, none⟩) 1 1]], rfl, rfl, fun _ => ⟨_, 0, rfl, ⟨by omega, rowO.lt⟩, rowO.lt, fun j u hu => by rw [Nat.zero_add, rowO.cell]; exact hu⟩, Nat.le_refl _, by show 1 ≤ far; decide, fun i c x hc hx => by
    match i, hc, hx with
    | 0, hc, hx =>
     cases hc; cases hx
     exact rGOwner_mk (x := ⟨b + 1, [120]⟩) _ _ (by unfold isI64; show _ ≤ b + 1 ∧ b + 1 ≤ _; omega) LB1⟩
  have hR := rGRoutes_mk (x := ⟨0, b, [⟨b + 1, [120]⟩], 0, []⟩) (((w.alloc (.cells #[.int .i64 0, .int .i64 b, .slice (some ⟨w.heap.size + 1 + 1, 0, none⟩) 1 1, .int .i64 0, .slice none 0 0] 53)).alloc (.cells #[.int .u8 120] 5)).alloc (.cells #[.int .i64 (b + 1), .slice (some ⟨w.heap.size + 1, 0, none⟩) 1 1] 97)) (NewIn w (((w.alloc (.cells #[.int .i64 0, .int .i64 b, .slice (some ⟨w.heap.size + 1 + 1, 0, none⟩) 1 1, .int .i64 0, .slice none 0 0] 53)).alloc (.cells #[.int .u8 120] 5)).alloc (.cells #[.int .i64 (b + 1), .slice (some ⟨w.heap.size + 1, 0, none⟩) 1 1] 97))) i64_0 (by unfold isI64; show _ ≤ b ∧ b ≤ _; omega) LL i64_0 (LB.nil0 _ _)
  clear k1 rowB rowO LB1 LL
  go_enter Tryz.func22, Tryz.ntmps22
  go_wp2_with fail
  refine bodyPost_ret (results_cell_row2 (by rfl) _ _ _ _ _ _ _ (by rfl) rowF Tryz.underlying53 (by rfl) hinfo) rfl ?_
  exact ⟨_, rfl, hR, kk⟩
 ·have HP : Hid (newF b s = (⟨0, 0, [], 0, []⟩, 1)) := by show _ = _; unfold newF; rw [if_neg h]
  rw [HP.out]
  have k1 : Keep Nix w (w.alloc (.cells #[.int .i64 0, .int .i64 0, .slice none 0 0, .int .i64 0, .slice none 0 0] 53)) := (Keep.refl Nix w).alloc _
  have rowF : RowIs (w.alloc (.cells #[.int .i64 0, .int .i64 0, .slice none 0 0, .int .i64 0, .slice none 0 0] 53)) w.heap.size 53 [.int .i64 0, .int .i64 0, .slice none 0 0, .int .i64 0, .slice none 0 0] := RowIs.alloc w _ _
  rcases Int.lt_or_le b 1 with h1 | h1
  ·clear h
   go_enter Tryz.func22, Tryz.ntmps22
   go_wp2_with fail
   refine bodyPost_ret (results_cell_row2 (by rfl) _ _ _ _ _ _ _ (by rfl) rowF Tryz.underlying53 (by rfl) hinfo) rfl ?_
   exact ⟨_, rfl, rZero _ _, k1⟩
  rcases Int.lt_or_le 4 b with h2 | h2
  ·clear h
   go_enter Tryz.func22, Tryz.ntmps22
   go_wp2_with fail
   refine bodyPost_ret (results_cell_row2 (by rfl) _ _ _ _ _ _ _ (by rfl) rowF Tryz.underlying53 (by rfl) hinfo) rfl ?_
   exact ⟨_, rfl, rZero _ _, k1⟩
  rcases Int.lt_or_le s 1 with h3 | h3
  ·clear h
   go_enter Tryz.func22, Tryz.ntmps22
   go_wp2_with fail
   refine bodyPost_ret (results_cell_row2 (by rfl) _ _ _ _ _ _ _ (by rfl) rowF Tryz.underlying53 (by rfl) hinfo) rfl ?_
   exact ⟨_, rfl, rZero _ _, k1⟩
  have h4 : 4 < s := by omega
  clear h
  go_enter Tryz.func22, Tryz.ntmps22
  go_wp2_with fail
  refine bodyPost_ret (results_cell_row2 (by rfl) _ _ _ _ _ _ _ (by rfl) rowF Tryz.underlying53 (by rfl) hinfo) rfl ?_
  exact ⟨_, rfl, rZero _ _, k1⟩
end
section
attribute [local go_sem ↓] ldz_Routes
end
end Go.Proofs.YtibaehlfpgipfaaGreat
namespace Go.Proofs.YtibaehlfpgipfaaGreat
open Go.RowKit
set_option linter.unusedSimpArgs false
theorem step_app {P : Program} {ops : Array Oper} {o : Oper} {a : Act} {K : Act → World → Prop} {Q : Exit → Act → World → Prop} {E : Prop} {w w' : World} {t : TypeId} {v y r : Value} (hw : Region.wanted o (yielded ops a.tmps) = true) (s x : Operand)
  (ho : o.op = .call { callee := .builtin .append, args := #[s, x], argTypes := #[t, t] }) (hs : a.eval s = v) (hx : a.eval x = y) (hrun : (Builtin.append_ #[t, t] o.type #[v, y]).run P w = .ok r w') (h : K (a.put o.dst r) w') :
  if Region.wanted o (yielded ops a.tmps) = true then Oper.wp P o a w K Q else E := by
 rw [if_pos hw]
 unfold Oper.wp
 simp only [execOp, ho, resolve, invoke, builtin, List.map_toArray, List.map_cons, List.map_nil, hs, hx, hrun, Sem.run_bind, Sem.run_pure, Result.andThen_ok]
 exact h
theorem app1_run {P : Program} {t e sz bytes : Nat} (T : SliceT P t e sz bytes) {w : World} {cs : List Value} (t' ty : TypeId) (base : Nat) {v : Value} {n : Nat} {xs : List Value} (hown : w.ownsRow base e sz v n xs) (hl : cs.length = sz) (h1 : ones cs = true)
  (h63 : n + 1 ≤ maxLen) (hbytes : (n + 1) * bytes ≤ 140737488355328) (hbase : base ≤ w.heap.size) :
  ∃ a' cap' w', (Builtin.append_ #[t, t] ty #[v, .slice (some ⟨w.heap.size, 0, none⟩) 1 1]).run P (w.alloc (.cells cs.toArray t')) = .ok (.slice a' (n + 1) cap') w' ∧ w'.ownsRow base e sz (.slice a' (n + 1) cap') (n + 1) (xs ++ cs) ∧ Keep (OwnB v) w w' ∧ (∀ b, OwnB (.slice a' (n + 1) cap') b → OwnB v b ∨ w.heap.size ≤ b) := by
 obtain ⟨i, z, hi, hz, hsz, hby, hzs⟩ := T.info
 obtain ⟨v', w', hrun, hown', hg, -, hf⟩ := run_append_own_at (P := P) (w.alloc (.cells cs.toArray t')) base t ty e i z sz bytes T.under hi hz hsz hby hzs T.pos v n xs (hown.alloc _) ⟨w.heap.size, 0, none⟩ 1 1 cs (by omega) (fun j u hu => by
   rw [Addr.add_lit, World.cell?_alloc_at _ _ _ _ rfl, Nat.zero_add]; simpa using hu) (fun u hu => List.all_eq_true.1 h1 u hu) h63 hbytes (by simp; omega)
 obtain ⟨a', cap', rfl⟩ := owned_shape hown'
 refine ⟨a', cap', w', hrun, hown', ((Keep.refl _ w).alloc _).grown hg (fun _ hk _ => hk), fun b hb => ?_⟩
 rcases hf with h | h
 ·have hb' : (Value.slice a' (n + 1) cap').ownBlock = some b := hb
  exact .inl (h.symm.trans hb')
 ·right
  have hb' : (Value.slice a' (n + 1) cap').ownBlock = some b := hb
  rw [h] at hb'
  simp at hb'
  omega
theorem step_app1 {P : Program} {t e sz bytes : Nat} (T : SliceT P t e sz bytes) {ops : Array Oper} {o : Oper} {a : Act} {K : Act → World → Prop} {Q : Exit → Act → World → Prop} {E : Prop} {w : World} {cs : List Value} {t' : TypeId} (hgd : o.guard = none) (s x : Operand)
  (ho : o.op = .call { callee := .builtin .append, args := #[s, x], argTypes := #[t, t] })
  (base : Nat) {v : Value} {n : Nat} {xs : List Value} (hs : a.eval s = v) (hx : a.eval x = .slice (some ⟨w.heap.size, 0, none⟩) 1 1) (hown : w.ownsRow base e sz v n xs) (hl : cs.length = sz) (h1 : ones cs = true)
  (h63 : n + 1 ≤ maxLen) (hbytes : (n + 1) * bytes ≤ 140737488355328) (hbase : base ≤ w.heap.size)
  (h : ∀ a' cap' w', w'.ownsRow base e sz (.slice a' (n + 1) cap') (n + 1) (xs ++ cs) → Keep (OwnB v) w w' → (∀ b, OwnB (.slice a' (n + 1) cap') b → OwnB v b ∨ w.heap.size ≤ b) → K (a.put o.dst (.slice a' (n + 1) cap')) w') :
  if Region.wanted o (yielded ops a.tmps) = true then Oper.wp P o a (w.alloc (.cells cs.toArray t')) K Q else E := by
 obtain ⟨a', cap', w', hrun, h2, h3, h4⟩ := app1_run T t' o.type base hown hl h1 h63 hbytes hbase
 exact step_app (by simp [Region.wanted, hgd]) s x ho hs hx hrun (h _ _ _ h2 h3 h4)
def upI (n : Int) : Int := IntKind.i64.wrap (n + 1)
theorem upI_64 (n : Int) : isI64 (upI n) := by unfold upI isI64 IntKind.wrap; simp [IntKind.bits, IntKind.signed]; omega
def stillF (r : GRoutes) : GRoutes := ⟨upI r.fEpoch, r.fBase, r.fSpans, 0, []⟩
set_option maxRecDepth 100000 in
set_option maxHeartbeats 2000000 in
theorem Still_c {p : Nat → Prop} (r : GRoutes) (csr : List Value) (w : World) (hr : rGRoutes w p csr r) :
  Calls Tryz.prog 69 #[.agg csr.toArray] w fun e w' => ∃ cs, e = .returned (.agg cs.toArray) ∧ rGRoutes w' p cs (stillF r) ∧ Keep Nix w w' := by
 have HR := Lib.hid hr
 obtain ⟨aS, cS, aC, cC, rfl, hE, hB, hS, hM, hC, -⟩ := rGRoutes_open hr
 have k1 := fun (w : World) (o : Obj) => (Keep.refl Nix w).alloc o
 have kk : Keep Nix w (((w.alloc (.cells #[.int .i64 r.fEpoch, .int .i64 r.fBase, .slice aS r.fSpans.length cS, .int .i64 r.fMoving, .slice aC r.fCut.length cC] 53))).alloc (.cells #[.int .i64 0, .int .i64 0, .slice none 0 0, .int .i64 0, .slice none 0 0] 53)) := (k1 _ _).trans (k1 _ _)
 have row0 : RowIs (((w.alloc (.cells #[.int .i64 r.fEpoch, .int .i64 r.fBase, .slice aS r.fSpans.length cS, .int .i64 r.fMoving, .slice aC r.fCut.length cC] 53))).alloc (.cells #[.int .i64 0, .int .i64 0, .slice none 0 0, .int .i64 0, .slice none 0 0] 53)) w.heap.size 53 [.int .i64 r.fEpoch, .int .i64 r.fBase, .slice aS r.fSpans.length cS, .int .i64 r.fMoving, .slice aC r.fCut.length cC] := (RowIs.alloc w _ _).keep (k1 _ _) id
 have rowR : RowIs (((w.alloc (.cells #[.int .i64 r.fEpoch, .int .i64 r.fBase, .slice aS r.fSpans.length cS, .int .i64 r.fMoving, .slice aC r.fCut.length cC] 53))).alloc (.cells #[.int .i64 0, .int .i64 0, .slice none 0 0, .int .i64 0, .slice none 0 0] 53)) (w.heap.size + 1) 53 [.int .i64 0, .int .i64 0, .slice none 0 0, .int .i64 0, .slice none 0 0] := by
  have h := RowIs.alloc (w.alloc (.cells #[.int .i64 r.fEpoch, .int .i64 r.fBase, .slice aS r.fSpans.length cS, .int .i64 r.fMoving, .slice aC r.fCut.length cC] 53)) #[.int .i64 0, .int .i64 0, .slice none 0 0, .int .i64 0, .slice none 0 0] 53
  simpa using h
 have hinfo : (Tryz.prog.info? 53).map (·.size) = some 5 := by kernel_rfl
 have HE := Lib.hid (show IntKind.i64.wrap (r.fEpoch + 1) = upI r.fEpoch from rfl)
 have HB := Lib.hid hB
 have HL := Lib.hid hS
 clear hr k1 hE hM hC hB hS
 go_enter Tryz.func69, Tryz.ntmps69
 go_upto_region 1 with fail
 generalize (((w.alloc (.cells #[.int .i64 r.fEpoch, .int .i64 r.fBase, .slice aS r.fSpans.length cS, .int .i64 r.fMoving, .slice aC r.fCut.length cC] 53))).alloc (.cells #[.int .i64 0, .int .i64 0, .slice none 0 0, .int .i64 0, .slice none 0 0] 53)) = w1 at *
 generalize hbs : w.heap.size = bs at *
 have y0 := row0.cell 0
 (try simp only [List.getElem?_cons_zero] at y0)
 have y1 := row0.cell 1
 (try simp only [List.getElem?_cons_succ] at y1); (try simp only [List.getElem?_cons_zero] at y1)
 have y2 := row0.cell 2
 (try simp only [List.getElem?_cons_succ] at y2); (try simp only [List.getElem?_cons_zero] at y2)
 have y3 := row0.cell 3
 (try simp only [List.getElem?_cons_succ] at y3); (try simp only [List.getElem?_cons_zero] at y3)
 have y4 := row0.cell 4
 (try simp only [List.getElem?_cons_succ] at y4); (try simp only [List.getElem?_cons_zero] at y4)
 have f0 := row0.frozen 0
 have f3 := row0.frozen 3
 have f4 := row0.frozen 4
 have z0 := rowR.cell 0
 (try simp only [List.getElem?_cons_zero] at z0)
 have z1 := rowR.cell 1
 (try simp only [List.getElem?_cons_succ] at z1); (try simp only [List.getElem?_cons_zero] at z1)
 have z2 := rowR.cell 2
 (try simp only [List.getElem?_cons_succ] at z2); (try simp only [List.getElem?_cons_zero] at z2)
 have z3 := rowR.cell 3
 (try simp only [List.getElem?_cons_succ] at z3); (try simp only [List.getElem?_cons_zero] at z3)
 have z4 := rowR.cell 4
 (try simp only [List.getElem?_cons_succ] at z4); (try simp only [List.getElem?_cons_zero] at z4)
 have g0 := rowR.frozen 0
 have g1 := rowR.frozen 1
 have g2 := rowR.frozen 2
 have g3 := rowR.frozen 3
 have g4 := rowR.frozen 4
 have kS : Keep (· = bs) w1 (((w1.setCell ⟨bs, 3, none⟩ (.int .i64 0)).setCell ⟨bs, 4, none⟩ (.slice none 0 0)).setCell ⟨bs, 0, none⟩ (.int .i64 (upI r.fEpoch))) := (((Keep.refl (· = bs) w1).setCell (p := ⟨bs, 3, none⟩) (fun _ => rfl) _).setCell (p := ⟨bs, 4, none⟩) (fun _ => rfl) _).setCell (p := ⟨bs, 0, none⟩) (fun _ => rfl) _
 have kT : Keep (· = bs + 1) (((w1.setCell ⟨bs, 3, none⟩ (.int .i64 0)).setCell ⟨bs, 4, none⟩ (.slice none 0 0)).setCell ⟨bs, 0, none⟩ (.int .i64 (upI r.fEpoch))) ((((((((w1.setCell ⟨bs, 3, none⟩ (.int .i64 0)).setCell ⟨bs, 4, none⟩ (.slice none 0 0)).setCell ⟨bs, 0, none⟩ (.int .i64 (upI r.fEpoch))).setCell ⟨bs + 1, 0, none⟩ (.int .i64 (upI r.fEpoch))).setCell ⟨bs + 1, 1, none⟩ (.int .i64 r.fBase)).setCell ⟨bs + 1, 2, none⟩ (.slice aS r.fSpans.length cS)).setCell ⟨bs + 1, 3, none⟩ (.int .i64 0)).setCell ⟨bs + 1, 4, none⟩ (.slice none 0 0)) := (((((Keep.refl (· = bs + 1) _).setCell (p := ⟨bs + 1, 0, none⟩) (fun _ => rfl) _).setCell (p := ⟨bs + 1, 1, none⟩) (fun _ => rfl) _).setCell (p := ⟨bs + 1, 2, none⟩) (fun _ => rfl) _).setCell (p := ⟨bs + 1, 3, none⟩) (fun _ => rfl) _).setCell (p := ⟨bs + 1, 4, none⟩) (fun _ => rfl) _
 have rowF : RowIs ((((((((w1.setCell ⟨bs, 3, none⟩ (.int .i64 0)).setCell ⟨bs, 4, none⟩ (.slice none 0 0)).setCell ⟨bs, 0, none⟩ (.int .i64 (upI r.fEpoch))).setCell ⟨bs + 1, 0, none⟩ (.int .i64 (upI r.fEpoch))).setCell ⟨bs + 1, 1, none⟩ (.int .i64 r.fBase)).setCell ⟨bs + 1, 2, none⟩ (.slice aS r.fSpans.length cS)).setCell ⟨bs + 1, 3, none⟩ (.int .i64 0)).setCell ⟨bs + 1, 4, none⟩ (.slice none 0 0)) (bs + 1) 53 [.int .i64 (upI r.fEpoch), .int .i64 r.fBase, .slice aS r.fSpans.length cS, .int .i64 0, .slice none 0 0] := ((((((rowR.keep kS (by omega)).set 0 _).set 1 _).set 2 _).set 3 _).set 4 _)
 have k5 := (kk.then kS (fun i hi e => by omega)).then kT (fun i hi e => by omega)
 clear row0 rowR kk kS kT
 have hu : IntKind.i64.wrap (r.fEpoch + 1) = upI r.fEpoch := HE.out
 go_wp2_with fail
 refine bodyPost_ret (results_cell_row (by rfl) _ _ _ _ _ _ _ (by rfl) rowF Tryz.underlying53 (by rfl) hinfo) rfl ?_
 exact ⟨_, rfl, rGRoutes_mk (x := stillF r) _ _ (upI_64 _) HB.out ((rList_lawful rGOwner_lawful).nix HL.out k5) i64_0 (LB.nil0 _ _), k5⟩
def OwnR (base : Nat) (w' : World) (cs : List Value) (r : GRoutes) : Prop := ∃ a c aC cC css, cs = [.int .i64 r.fEpoch, .int .i64 r.fBase, .slice a r.fSpans.length c, .int .i64 r.fMoving, .slice aC r.fCut.length cC] ∧ w'.ownsRow base 97 2 (.slice a r.fSpans.length c) r.fSpans.length css.flatten ∧ Els rGOwner w' (fun b => (base ≤ b ∧ b < w'.heap.size) ∧ ¬ OwnB (.slice a r.fSpans.length c) b) css r.fSpans ∧ LB w' (fun b => (base ≤ b ∧ b < w'.heap.size) ∧ ¬ OwnB (.slice a r.fSpans.length c) b) aC cC r.fCut
set_option maxRecDepth 100000 in
set_option maxHeartbeats 4000000 in
theorem routesOwn_c {p : Nat → Prop} (r : GRoutes) (csr : List Value) (w : World) (hr : rGRoutes w p csr r) (hn4 : r.fSpans.length ≤ 30) :
  Calls Tryz.prog 41 #[.agg csr.toArray] w fun e w' => ∃ cs, e = .returned (.agg cs.toArray) ∧ OwnR w.heap.size w' cs r ∧ Keep Nix w w' := by
 obtain ⟨aS, cS, aC, cC, rfl, hE, hB, hS, hM, hC, -⟩ := rGRoutes_open hr
 have k1 := fun (w : World) (o : Obj) => (Keep.refl Nix w).alloc o
 have kk : Keep Nix w (((w.alloc (.cells #[.int .i64 r.fEpoch, .int .i64 r.fBase, .slice aS r.fSpans.length cS, .int .i64 r.fMoving, .slice aC r.fCut.length cC] 53))).alloc (.cells #[.int .i64 0, .int .i64 0, .slice none 0 0, .int .i64 0, .slice none 0 0] 53)) := (k1 _ _).trans (k1 _ _)
 have row0 : RowIs (((w.alloc (.cells #[.int .i64 r.fEpoch, .int .i64 r.fBase, .slice aS r.fSpans.length cS, .int .i64 r.fMoving, .slice aC r.fCut.length cC] 53))).alloc (.cells #[.int .i64 0, .int .i64 0, .slice none 0 0, .int .i64 0, .slice none 0 0] 53)) w.heap.size 53 [.int .i64 r.fEpoch, .int .i64 r.fBase, .slice aS r.fSpans.length cS, .int .i64 r.fMoving, .slice aC r.fCut.length cC] := (RowIs.alloc w _ _).keep (k1 _ _) id
 have rowR : RowIs (((w.alloc (.cells #[.int .i64 r.fEpoch, .int .i64 r.fBase, .slice aS r.fSpans.length cS, .int .i64 r.fMoving, .slice aC r.fCut.length cC] 53))).alloc (.cells #[.int .i64 0, .int .i64 0, .slice none 0 0, .int .i64 0, .slice none 0 0] 53)) (w.heap.size + 1) 53 [.int .i64 0, .int .i64 0, .slice none 0 0, .int .i64 0, .slice none 0 0] := by
  have h := RowIs.alloc (w.alloc (.cells #[.int .i64 r.fEpoch, .int .i64 r.fBase, .slice aS r.fSpans.length cS, .int .i64 r.fMoving, .slice aC r.fCut.length cC] 53)) #[.int .i64 0, .int .i64 0, .slice none 0 0, .int .i64 0, .slice none 0 0] 53
  simpa using h
 have hinfo : (Tryz.prog.info? 53).map (·.size) = some 5 := by kernel_rfl
 have HL := Lib.hid hS
 have HC := Lib.hid (show LB w p aC cC r.fCut from hC)
 clear hr k1 hE hM hC hB hS
 go_enter Tryz.func41, Tryz.ntmps41
 go_upto_region 1 with fail
 generalize (((w.alloc (.cells #[.int .i64 r.fEpoch, .int .i64 r.fBase, .slice aS r.fSpans.length cS, .int .i64 r.fMoving, .slice aC r.fCut.length cC] 53))).alloc (.cells #[.int .i64 0, .int .i64 0, .slice none 0 0, .int .i64 0, .slice none 0 0] 53)) = w1 at *
 generalize hbs : w.heap.size = bs at *
 have hs1 : bs + 1 + 1 ≤ w1.heap.size := rowR.lt
 have y2 := row0.cell 2
 (try simp only [List.getElem?_cons_succ] at y2); (try simp only [List.getElem?_cons_zero] at y2)
 go_wp2_with fail
 clear y2
 go_loopw [3, 9] (fun l i wr => ∃ (k : Nat) (a : Option Addr) (cap : Nat) (css : List (List Value)), k ≤ r.fSpans.length ∧ i = .int .i64 k ∧ l = .slice a k cap ∧ wr.ownsRow w1.heap.size 97 2 (.slice a k cap) k css.flatten ∧ Els rGOwner wr (fun b => NewIn w1 wr b ∧ ¬ OwnB (.slice a k cap) b) css (r.fSpans.take k) ∧ RowIs wr bs 53 [.int .i64 r.fEpoch, .int .i64 r.fBase, .slice aS r.fSpans.length cS, .int .i64 r.fMoving, .slice aC r.fCut.length cC] ∧ RowIs wr (bs + 1) 53 [.int .i64 0, .int .i64 0, .slice none 0 0, .int .i64 0, .slice none 0 0] ∧ Keep Nix w1 wr) (fun _ i _ => r.fSpans.length - (intOf i).toNat)
 case atStart => exact ⟨0, none, 0, [], by omega, rfl, rfl, World.ownsRow_nil _ _ _ _, Els.nil _ _ _, row0, rowR, Keep.refl _ _⟩
 case round =>
  clear row0 rowR
  obtain ⟨k, a, cap, css, hk, rfl, rfl, own, els, row0, rowR, kw⟩ := hrel
  have hsw := kw.size
  by_cases hlt : k < r.fSpans.length
  ·have hi1 : (k : Int) < (r.fSpans.length : Int) := by omega
   have hi0 : (0 : Int) ≤ (k : Int) := by omega
   have hx : Hid (r.fSpans.take (k + 1) = r.fSpans.take k ++ [r.fSpans[k]]) := List.take_succ_eq_append_getElem hlt
   have hS1 := (rList_lawful rGOwner_lawful).nix HL.out (kk.trans kw)
   obtain ⟨b1, o1, _, _, e1, -, hbx, xr, xc⟩ := rList_at rGOwner_lawful (by decide) hS1 k hlt
   simp only [List.cons.injEq, Value.slice.injEq, and_true] at e1
   obtain ⟨rfl, -, -⟩ := e1
   have xf := fromAt_lt hlt
   clear xf hS1
   generalize r.fSpans[k] = x at *
   obtain ⟨aF, cF, rfl, hg, hF, -⟩ := rGOwner_open xr
   have hF : LB wr p aF cF x.fFrom := hF
   have HG := Lib.hid hg
   have x0 := xc 0 _ rfl
   (try simp only [Nat.add_zero] at x0)
   have x1 := xc 1 _ rfl
   have kE : Keep Nix wr (wr.alloc (.cells #[.int .i64 x.fGroup, .slice aF x.fFrom.length cF] 97)) := (Keep.refl Nix wr).alloc _
   have rowE : RowIs (wr.alloc (.cells #[.int .i64 x.fGroup, .slice aF x.fFrom.length cF] 97)) wr.heap.size 97 [.int .i64 x.fGroup, .slice aF x.fFrom.length cF] := RowIs.alloc wr _ _
   go_upto_region 5 with fail
   clear x0 x1 xr xc hg
   replace hF := hF.keep kE
   generalize hbe : wr.heap.size = be at *
   generalize wr.alloc (.cells #[.int .i64 x.fGroup, .slice aF x.fFrom.length cF] 97) = wE at *
   have hbN : ¬ OwnB (.slice a k cap) be := fun h => by have := (own.lt _ h).2; omega
   have hO : ∀ w', Keep (OwnB (.slice a k cap)) wE w' → (fun w' => w'.cell? ⟨be, 0, none⟩ = some (.int .i64 x.fGroup) ∧ w'.cell? ⟨be, 1, none⟩ = some (.slice aF x.fFrom.length cF)) w' := fun w' k' => ⟨(rowE.keep k' hbN).cell 0, (rowE.keep k' hbN).cell 1⟩
   have HO := Lib.hid hO
   have kd : Keep Nix wE wE.drew := (Keep.refl Nix wE).drew
   clear hO
   refine wp_region_held_drew (S := (fun w' => w'.cell? ⟨be, 0, none⟩ = some (.int .i64 x.fGroup) ∧ w'.cell? ⟨be, 1, none⟩ = some (.slice aF x.fFrom.length cF))) (by kernel_rfl) ((HO.out _ kd.nix)) (fun hHeld => ?_)
   generalize wE.drew = wd at *
   refine tk 0 (v := ?_) rfl ?_ hHeld ?_
   rotate_left
   ·intro w' hSw
    (try dsimp only at hSw)
    try simp only [zz1, zz2, zz3]
    go_simp
    try with_reducible rfl
   try simp only [Act.put, zz1, zz2, zz3, zz4, zz5, zz6]
   refine tk 1 (v := ?_) rfl ?_ hHeld ?_
   rotate_left
   ·intro w' hSw
    (try dsimp only at hSw)
    try simp only [zz1, zz2, zz3]
    go_simp
    try with_reducible rfl
   try simp only [Act.put, zz1, zz2, zz3, zz4, zz5, zz6]
   refine tk 2 (v := ?_) rfl ?_ hHeld ?_
   rotate_left
   ·intro w' hSw
    (try dsimp only at hSw)
    try simp only [zz1, zz2, zz3]
    go_simp
    try with_reducible rfl
   try simp only [Act.put, zz1, zz2, zz3, zz4, zz5, zz6]
   refine tk 3 (v := ?_) rfl ?_ hHeld ?_
   rotate_left
   ·intro w' hSw
    (try dsimp only at hSw)
    try simp only [zz1, zz2, zz3]
    go_simp
    try with_reducible rfl
   try simp only [Act.put, zz1, zz2, zz3, zz4, zz5, zz6]
   refine tk 4 (v := ?_) rfl ?_ hHeld ?_
   rotate_left
   ·intro w' hSw
    (try dsimp only at hSw)
    try simp only [zz1, zz2, zz3]
    go_simp
    try with_reducible rfl
   try simp only [Act.put, zz1, zz2, zz3, zz4, zz5, zz6]
   refine wpAnyH_ready (rs := [5]) (by kernel_rfl) (by simp) ?_
   refine AllReadyH.cons rfl (fun K hK => ?_) AllReadyH.nil
   go_simp
   go_fit (clR_c aF cF x.fFrom wd (hF.keep kd))
   rintro e w2 ⟨a1, c1, rfl, L1, k2⟩
   have L1 : LB w2 (NewIn wd w2) a1 c1 x.fFrom := L1
   have kr2 : Keep Nix wr w2 := (kE.trans kd).trans k2
   have kd2 := kd.trans k2
   have hsd : be ≤ wd.heap.size := by rw [← hbe]; exact (kE.trans kd).size
   clear k2
   go_wp2_with fail
   refine hK.out _ _ ((HO.out _ kd2.nix)) (fun hHeld => ?_)
   clear hK K
   try simp only [Act.put, zz1, zz2, zz3, zz4, zz5, zz6]
   refine tk 6 (v := ?_) rfl ?_ hHeld ?_
   rotate_left
   ·intro w' hSw
    (try dsimp only at hSw)
    try simp only [zz1, zz2, zz3]
    go_simp
    try with_reducible rfl
   try simp only [Act.put, zz1, zz2, zz3, zz4, zz5, zz6]
   refine wpAnyH_ready (rs := [7]) (by kernel_rfl) (by simp) ?_
   refine AllReadyH.cons rfl (fun K hK => ?_) AllReadyH.nil
   go_simp
   refine hK.out _ _ ((HO.out _ (kd2.alloc _).nix)) (fun hHeld => ?_)
   clear hK K
   try simp only [Act.put, zz1, zz2, zz3, zz4, zz5, zz6]
   refine wpAnyH_ready (rs := [8]) (by kernel_rfl) (by simp) ?_
   refine AllReadyH.cons rfl (fun K hK => ?_) AllReadyH.nil
   refine step_app1 (w := w2) (cs := [.int .i64 x.fGroup, .slice a1 x.fFrom.length c1]) T_lOwner (by rfl) (.tmp 13) (.tmp 20) (by rfl) w1.heap.size (by rfl) (by rfl) (owned_keep own kr2 (fun _ _ h => h)) rfl rfl (by unfold maxLen; omega) (by omega) (by have := kr2.size; omega) ?_
   intro aN cN w6 own6 k6 hfresh
   have kr6 : Keep Nix w1 w6 := (kw.trans kr2).then k6 (fun i hi hb => by have := (own.lt i hb).1; omega)
   refine hK.out _ _ ((HO.out _ (kd2.nix.trans k6))) (fun hHeld => ?_)
   clear hK K
   try simp only [Act.put, zz1, zz2, zz3, zz4, zz5, zz6]
   refine tk 9 (v := ?_) rfl ?_ hHeld ?_
   rotate_left
   ·intro w' hSw
    (try dsimp only at hSw)
    try simp only [zz1, zz2, zz3]
    go_simp
    try with_reducible rfl
   try simp only [Act.put, zz1, zz2, zz3, zz4, zz5, zz6]
   refine wpAnyH_done (by kernel_rfl) ?_ _
   have hc2 : rGOwner w2 (NewIn wr w2) [.int .i64 x.fGroup, .slice a1 x.fFrom.length c1] x := rGOwner_mk w2 (NewIn wr w2) HG.out (L1.mono (fun b hb => ⟨by have := hb.1; omega, hb.2⟩))
   have els6 := els.push rGOwner_lawful hc2 (kr2.nix (S := (· = 0))) k6 (by omega) (by rw [hbe]; exact hsw) (fun b hb => (own.lt b hb).2) hfresh
   rw [← hx.out] at els6
   replace own6 : w6.ownsRow w1.heap.size 97 2 (.slice aN (k + 1) cN) (k + 1) (css ++ [[.int .i64 x.fGroup, .slice a1 x.fFrom.length c1]] : List (List Value)).flatten := by rw [List.flatten_append]; simpa using own6
   replace row0 := (row0.keep kr2 id).keep k6 (fun h => by have := (own.lt _ h).1; omega)
   replace rowR := (rowR.keep kr2 id).keep k6 (fun h => by have := (own.lt _ h).1; omega)
   clear hHeld HO own els rowE hF kE kd kd2 k6 kr2 L1 kw
   go_wp2_with fail
   go_roundw
   case rel => exact ⟨k + 1, aN, cN, (css ++ [[.int .i64 x.fGroup, .slice a1 x.fFrom.length c1]] : List (List Value)), by omega, by go_num, rfl, own6, els6, row0, rowR, kr6⟩
   case measure => simp [intOf]; omega
  ·obtain rfl : k = r.fSpans.length := by omega
   rw [List.take_length] at els
   have y4 := row0.cell 4
   (try simp only [List.getElem?_cons_succ] at y4); (try simp only [List.getElem?_cons_zero] at y4)
   go_wp2_with fail
   go_fit (clR_c aC cC r.fCut wr (HC.out.keep (kk.trans kw)))
   rintro e w2 ⟨aD, cD, rfl, LD, k2⟩
   have LD : LB w2 (NewIn wr w2) aD cD r.fCut := LD
   replace row0 := row0.keep k2 id
   replace rowR := rowR.keep k2 id
   have hs2 := k2.size
   clear y4
   have y0 := row0.cell 0
   (try simp only [List.getElem?_cons_zero] at y0)
   have y1 := row0.cell 1
   (try simp only [List.getElem?_cons_succ] at y1); (try simp only [List.getElem?_cons_zero] at y1)
   have y2 := row0.cell 2
   (try simp only [List.getElem?_cons_succ] at y2); (try simp only [List.getElem?_cons_zero] at y2)
   have y3 := row0.cell 3
   (try simp only [List.getElem?_cons_succ] at y3); (try simp only [List.getElem?_cons_zero] at y3)
   have y4 := row0.cell 4
   (try simp only [List.getElem?_cons_succ] at y4); (try simp only [List.getElem?_cons_zero] at y4)
   have f2 := row0.frozen 2
   have f4 := row0.frozen 4
   have z0 := rowR.cell 0
   (try simp only [List.getElem?_cons_zero] at z0)
   have z1 := rowR.cell 1
   (try simp only [List.getElem?_cons_succ] at z1); (try simp only [List.getElem?_cons_zero] at z1)
   have z2 := rowR.cell 2
   (try simp only [List.getElem?_cons_succ] at z2); (try simp only [List.getElem?_cons_zero] at z2)
   have z3 := rowR.cell 3
   (try simp only [List.getElem?_cons_succ] at z3); (try simp only [List.getElem?_cons_zero] at z3)
   have z4 := rowR.cell 4
   (try simp only [List.getElem?_cons_succ] at z4); (try simp only [List.getElem?_cons_zero] at z4)
   have g0 := rowR.frozen 0
   have g1 := rowR.frozen 1
   have g2 := rowR.frozen 2
   have g3 := rowR.frozen 3
   have g4 := rowR.frozen 4
   have kS : Keep (· = bs) w2 ((w2.setCell ⟨bs, 2, none⟩ (.slice a r.fSpans.length cap)).setCell ⟨bs, 4, none⟩ (.slice aD r.fCut.length cD)) := ((Keep.refl (· = bs) w2).setCell (p := ⟨bs, 2, none⟩) (fun _ => rfl) _).setCell (p := ⟨bs, 4, none⟩) (fun _ => rfl) _
   have kT : Keep (· = bs + 1) ((w2.setCell ⟨bs, 2, none⟩ (.slice a r.fSpans.length cap)).setCell ⟨bs, 4, none⟩ (.slice aD r.fCut.length cD)) (((((((w2.setCell ⟨bs, 2, none⟩ (.slice a r.fSpans.length cap)).setCell ⟨bs, 4, none⟩ (.slice aD r.fCut.length cD)).setCell ⟨bs + 1, 0, none⟩ (.int .i64 r.fEpoch)).setCell ⟨bs + 1, 1, none⟩ (.int .i64 r.fBase)).setCell ⟨bs + 1, 2, none⟩ (.slice a r.fSpans.length cap)).setCell ⟨bs + 1, 3, none⟩ (.int .i64 r.fMoving)).setCell ⟨bs + 1, 4, none⟩ (.slice aD r.fCut.length cD)) := (((((Keep.refl (· = bs + 1) _).setCell (p := ⟨bs + 1, 0, none⟩) (fun _ => rfl) _).setCell (p := ⟨bs + 1, 1, none⟩) (fun _ => rfl) _).setCell (p := ⟨bs + 1, 2, none⟩) (fun _ => rfl) _).setCell (p := ⟨bs + 1, 3, none⟩) (fun _ => rfl) _).setCell (p := ⟨bs + 1, 4, none⟩) (fun _ => rfl) _
   have rowF : RowIs (((((((w2.setCell ⟨bs, 2, none⟩ (.slice a r.fSpans.length cap)).setCell ⟨bs, 4, none⟩ (.slice aD r.fCut.length cD)).setCell ⟨bs + 1, 0, none⟩ (.int .i64 r.fEpoch)).setCell ⟨bs + 1, 1, none⟩ (.int .i64 r.fBase)).setCell ⟨bs + 1, 2, none⟩ (.slice a r.fSpans.length cap)).setCell ⟨bs + 1, 3, none⟩ (.int .i64 r.fMoving)).setCell ⟨bs + 1, 4, none⟩ (.slice aD r.fCut.length cD)) (bs + 1) 53 [.int .i64 r.fEpoch, .int .i64 r.fBase, .slice a r.fSpans.length cap, .int .i64 r.fMoving, .slice aD r.fCut.length cD] := ((((((rowR.keep kS (by omega)).set 0 _).set 1 _).set 2 _).set 3 _).set 4 _)
   have kU : Keep (fun b => b = bs ∨ b = bs + 1) w2 (((((((w2.setCell ⟨bs, 2, none⟩ (.slice a r.fSpans.length cap)).setCell ⟨bs, 4, none⟩ (.slice aD r.fCut.length cD)).setCell ⟨bs + 1, 0, none⟩ (.int .i64 r.fEpoch)).setCell ⟨bs + 1, 1, none⟩ (.int .i64 r.fBase)).setCell ⟨bs + 1, 2, none⟩ (.slice a r.fSpans.length cap)).setCell ⟨bs + 1, 3, none⟩ (.int .i64 r.fMoving)).setCell ⟨bs + 1, 4, none⟩ (.slice aD r.fCut.length cD)) := (kS.mono (fun _ h => .inl h)).trans (kT.mono (fun _ h => .inr h))
   have hs3 := kU.size
   have k5 : Keep Nix w (((((((w2.setCell ⟨bs, 2, none⟩ (.slice a r.fSpans.length cap)).setCell ⟨bs, 4, none⟩ (.slice aD r.fCut.length cD)).setCell ⟨bs + 1, 0, none⟩ (.int .i64 r.fEpoch)).setCell ⟨bs + 1, 1, none⟩ (.int .i64 r.fBase)).setCell ⟨bs + 1, 2, none⟩ (.slice a r.fSpans.length cap)).setCell ⟨bs + 1, 3, none⟩ (.int .i64 r.fMoving)).setCell ⟨bs + 1, 4, none⟩ (.slice aD r.fCut.length cD)) := ((kk.trans kw).trans k2).then kU (fun i hi e => by rcases e with e | e <;> omega)
   have own5 : World.ownsRow (((((((w2.setCell ⟨bs, 2, none⟩ (.slice a r.fSpans.length cap)).setCell ⟨bs, 4, none⟩ (.slice aD r.fCut.length cD)).setCell ⟨bs + 1, 0, none⟩ (.int .i64 r.fEpoch)).setCell ⟨bs + 1, 1, none⟩ (.int .i64 r.fBase)).setCell ⟨bs + 1, 2, none⟩ (.slice a r.fSpans.length cap)).setCell ⟨bs + 1, 3, none⟩ (.int .i64 r.fMoving)).setCell ⟨bs + 1, 4, none⟩ (.slice aD r.fCut.length cD)) bs 97 2 (.slice a r.fSpans.length cap) r.fSpans.length css.flatten := owned_base (owned_keep (owned_keep own k2 (fun _ _ h => h)) kU (fun b hb e => by have := (own.lt b hb).1; rcases e with e | e <;> omega)) (by omega)
   have els5 := ((els.keep rGOwner_lawful k2 (fun _ _ h => h)).keep rGOwner_lawful kU (fun b hb e => by have := hb.1.1; rcases e with e | e <;> omega)).mono (q := fun b => (bs ≤ b ∧ b < ((((((((w2.setCell ⟨bs, 2, none⟩ (.slice a r.fSpans.length cap)).setCell ⟨bs, 4, none⟩ (.slice aD r.fCut.length cD)).setCell ⟨bs + 1, 0, none⟩ (.int .i64 r.fEpoch)).setCell ⟨bs + 1, 1, none⟩ (.int .i64 r.fBase)).setCell ⟨bs + 1, 2, none⟩ (.slice a r.fSpans.length cap)).setCell ⟨bs + 1, 3, none⟩ (.int .i64 r.fMoving)).setCell ⟨bs + 1, 4, none⟩ (.slice aD r.fCut.length cD))).heap.size) ∧ ¬ OwnB (.slice a r.fSpans.length cap) b) rGOwner_lawful (fun b hb => ⟨⟨by have := hb.1.1; omega, by have := hb.1.2; omega⟩, hb.2⟩)
   have LD5 := LD.to (s' := fun b => (bs ≤ b ∧ b < ((((((((w2.setCell ⟨bs, 2, none⟩ (.slice a r.fSpans.length cap)).setCell ⟨bs, 4, none⟩ (.slice aD r.fCut.length cD)).setCell ⟨bs + 1, 0, none⟩ (.int .i64 r.fEpoch)).setCell ⟨bs + 1, 1, none⟩ (.int .i64 r.fBase)).setCell ⟨bs + 1, 2, none⟩ (.slice a r.fSpans.length cap)).setCell ⟨bs + 1, 3, none⟩ (.int .i64 r.fMoving)).setCell ⟨bs + 1, 4, none⟩ (.slice aD r.fCut.length cD))).heap.size) ∧ ¬ OwnB (.slice a r.fSpans.length cap) b) kU (fun b hb e => by have := hb.1; rcases e with e | e <;> omega) (fun b hb => ⟨⟨by have := hb.1; omega, by have := hb.2; omega⟩, fun h => by have := (own.lt b h).2; have := hb.1; omega⟩)
   clear row0 rowR kS kT kU own els LD kk kw k2 HL HC
   go_wp2_with fail
   refine bodyPost_ret (results_cell_row (by rfl) _ _ _ _ _ _ _ (by rfl) rowF Tryz.underlying53 (by rfl) hinfo) rfl ?_
   exact ⟨_, rfl, by rw [hbs]; exact ⟨a, cap, aD, cD, css, rfl, own5, els5, LD5⟩, k5⟩
end Go.Proofs.YtibaehlfpgipfaaGreat
