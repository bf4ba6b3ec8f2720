/- SORTED KEYS: a range over a function that tells numbers, in whatever order. Of our own making, over the base law. -/
import Derived.Test.YtibaehlfpgipfaaGreatQZRoX
import Derived.RangeFuncNested
import Derived.RangeFuncBound
import Derived.RangeFuncCalls
import Derived.RangeFuncLeaves
import Derived.Shelf.Abstract
import Derived.OwnWalkIn
import Derived.TacticsInMore
import Derived.LoopNIn
import Derived.LoopIn
import Derived.Sort.MapsRangeIn
namespace Go.Proofs.YtibaehlfpgipfaaGreat
open Go.RowKit Go.Shelf
theorem Keep.put (w : World) (l : Nat) (o : Obj) : Keep (· = l) w (w.putObj l o) := (Keep.refl _ w).grown (grownBy_putObj' w l o) (fun _ hk _ => (Option.some.inj hk).symm)
def FreeU (D bM : Nat) (b : Nat) : Prop := b ≠ D ∧ b ≠ D + 1 ∧ b ≠ D + 2 ∧ b ≠ bM
def BookU (D : Nat) (b : Nat) : Prop := b = D ∨ b = D + 1 ∨ b = D + 2
def roundU (D bM : Nat) (In : World → Prop) (W : World) : Exit → Act → World → Prop
 | .normal, _, W' => Keep (FreeU D bM) W W' ∧ In W'
 | _, _, _ => False
def TellsU (f : FuncId) (lb : Array Value) (S : List Int → Prop) (N bM : Nat) (w : World) : Prop :=
 ∀ (l : Nat) (J : List Int → World → Prop) (W : World), Keep Nix w W → (∀ ss A B, J ss A → Keep (· = W.heap.size) A B → J ss B) →
  (∀ ss k W0, J ss W0 → isU64 k → ss.length < N → W.heap.size < W0.heap.size → YieldAt Fence.wide 2 Tryz.prog l #[.int .u64 k] W0 (fun e W' => e = .returned (.bool true) ∧ J (ss ++ [k]) W' ∧ Keep (fun b => b ≠ bM ∧ b ≠ W.heap.size) W0 W')) →
  J [] W → CallsIn Fence.wide 3 Tryz.prog f (#[.func (.yield l) #[] #[]] ++ lb) W fun e W' => (∃ v, e = .returned v) ∧ ∃ ss, S ss ∧ J ss W'
theorem range_tellsU {f : FuncId} {lb : Array Value} {S : List Int → Prop} {N bM : Nat} {gop : Operand} {p : Tmp} {assign body : Code} {Q : Exit → Act → World → Prop} {a : Act} {w : World}
  (hg : a.eval gop = .func (.func f) #[] lb) (eg : ∀ args w, (callFunc f args).run Tryz.prog w = .ok (.enter f args) w) (ht : TellsU f lb S N bM w) (hbM : bM < w.heap.size)
  (I : List Int → World → Prop) (hI : ∀ ss A B, I ss A → Keep (BookU w.heap.size) A B → I ss B) (h0 : I [] w)
  (round : ∀ ss k W, I ss W → isU64 k → ss.length < N → w.heap.size + 3 ≤ W.heap.size →
   assign.wpIn (Fence.wide.inRound (w.heap.size + 1)) 2 Tryz.prog (Exit.then (fun a1 W1 => Keep (FreeU w.heap.size bM) W W1 ∧ ∀ W2, Keep (· = w.heap.size + 1) W1 W2 → W2.heap.size = W1.heap.size → body.wpIn (Fence.wide.inRound (w.heap.size + 1)) 2 Tryz.prog (roundU w.heap.size bM (I (ss ++ [k])) W2) a1 W2) (fun _ _ _ => False))
    { tmps := a.tmps.setIfInBounds p (.int .u64 k), defers := [] } W)
  (done : ∀ ss W, S ss → I ss W → W.heap[w.heap.size]? = some (.deferred (some [])) → Q .normal { a with defers := { target := .collected w.heap.size, args := #[] } :: a.defers } W) :
  (Code.rangeFunc gop #[p] assign body).wp Tryz.prog Q a w := by
 refine (wpIn_wide (n := 4)).1 (wpIn_rangeFunc ?_)
 intro fn hfn
 generalize hD : w.heap.size = D at *
 obtain ⟨rc, hrc⟩ : ∃ rc : LoopState → Option Code → Loop, rc = fun st pe => { state := st, pending := pe, fn, tmps := a.tmps, params := #[p], assign, body, defers := D } := ⟨_, rfl⟩
 obtain ⟨w1, hw1⟩ : ∃ w1, (w.alloc (.deferred (some []))).alloc (.loop (rc .ready none)) = w1 := ⟨_, rfl⟩
 have hL1 : w1.heap[D + 1]? = some (.loop (rc .ready none)) := by
  rw [← hw1, ← hD]
  have h := World.alloc_heap_new (w.alloc (.deferred (some []))) (.loop (rc .ready none))
  rwa [World.size_alloc] at h
 have kA : Keep Nix (w.alloc (.deferred (some []))) w1 := by rw [← hw1]; exact (Keep.refl Nix _).alloc _
 have kw : Keep Nix w w1 := by rw [← hw1]; exact ((Keep.refl Nix _).alloc _).alloc _
 have hs1 : w1.heap.size = D + 2 := by rw [← hw1, World.size_alloc, World.size_alloc, hD]
 have hD1 : w1.heap[D]? = some (.deferred (some [])) := by
  rw [kA.block D (by rw [World.size_alloc]; omega) id, ← hD]; exact World.alloc_heap_new w _
 refine ⟨D + 1, [{ target := .collected D, args := #[] }], w1, { target := .fn (.func f) lb, args := #[.func (.yield (D + 1)) #[] #[]] }, w1, f, #[.func (.yield (D + 1)) #[] #[]] ++ lb, w1, ?_, ?_, fun _ _ => trivial, ?_, fun h => by simp [Fence.wide] at h, ?_⟩
 ·have h := run_enterLoop_outer (P := Tryz.prog) (w := w) fn a.tmps #[p] assign body
  rw [hD] at h
  rw [← hw1, hrc]
  exact h
 ·simp only [resolve, hg]
  simp [go_sem]
 ·simp [invoke, go_sem, eg]
 have keepL : ∀ {A B : World} {S : Nat → Prop} {b : Nat} {o : Obj}, A.heap[b]? = some o → Keep S A B → ¬ S b → B.heap[b]? = some o := fun h k hs => (k.block _ (Array.getElem?_eq_some_iff.1 h).1 hs).trans h
 have hput : ∀ (A : World) (o : Obj), Keep (BookU D) A (A.putObj (D + 1) o) := fun A o => (Keep.put A (D + 1) o).mono (fun b hb => .inr (.inl hb))
 refine (ht (D + 1) (fun ss W => I ss W ∧ W.heap[D + 1]? = some (.loop (rc .ready none)) ∧ W.heap[D]? = some (.deferred (some []))) w1 kw
  (fun k A B h kk => ⟨hI k A B h.1 (kk.mono (fun b hb => .inr (.inr (by rw [hb, hs1])))), keepL h.2.1 kk (by omega), keepL h.2.2 kk (by omega)⟩) ?_ ⟨hI [] _ _ h0 kw.nix, hL1, hD1⟩).mono ?_
 ·rintro ss k W ⟨hi, hl, hd⟩ hk hlen hsz
  rw [hs1] at hsz ⊢
  have hy := run_yield (P := Tryz.prog) (args := #[.int .u64 k]) hl (by rw [hrc]; rfl)
  rw [hrc] at hy
  refine ⟨fn, a.tmps.setIfInBounds p (.int .u64 k), assign, body, by simpa using hy, roundIn_of_wpIn trivial (wpIn_mono (round ss k W hi hk hlen hsz) ?_)⟩
  rintro e a1 W1 h1
  cases e with
  | normal =>
   obtain ⟨k1, hb⟩ := h1
   have hl1 := keepL hl k1 (fun h => h.2.1 rfl)
   have hd1 := keepL hd k1 (fun h => h.1 rfl)
   refine ⟨_, run_beginRound hl1 (by rw [hrc]), ?_⟩
   have k2 := Keep.put W1 (D + 1) (.loop { rc .ready none with state := .busy })
   have hl2 : (W1.putObj (D + 1) (.loop { rc .ready none with state := .busy })).heap[D + 1]? = some (.loop { rc .ready none with state := .busy }) := World.putObj_heap_same (Array.getElem?_eq_some_iff.1 hl1).1
   have hd2 := keepL hd1 k2 (by omega)
   refine wpIn_mono (hb _ k2 World.putObj_size) ?_
   rintro e a3 W3 hp
   cases e with
   | normal =>
    have k3 := hp.1
    have hl3 := keepL hl2 k3 (fun h => h.2.1 rfl)
    have hr := run_endRound (P := Tryz.prog) none hl3
    rw [hrc] at hr
    refine ⟨_, _, hr, rfl, ⟨hI _ _ _ hp.2 (hput _ _), ?_, ?_⟩, ?_⟩
    ·rw [hrc]; exact World.putObj_heap_same (Array.getElem?_eq_some_iff.1 hl3).1
    ·exact keepL (keepL hd2 k3 (fun h => h.1 rfl)) (Keep.put W3 (D + 1) _) (by omega)
    ·exact (((k1.mono (fun b h => ⟨h.2.2.2, h.2.2.1⟩)).trans (k2.mono (fun b (h : b = D + 1) => ⟨by omega, by omega⟩))).trans (hp.1.mono (fun b h => ⟨h.2.2.2, h.2.2.1⟩))).trans ((Keep.put W3 (D + 1) _).mono (fun b (h : b = D + 1) => ⟨by omega, by omega⟩))
   | ret => exact hp.elim
   | exit id => exact hp.elim
   | goto t => exact hp.elim
   | panic ch => exact hp.elim
   | outgrown => exact hp.elim
  | ret => exact h1.elim
  | exit id => exact h1.elim
  | goto t => exact h1.elim
  | panic ch => exact h1.elim
  | outgrown => exact h1.elim
 ·rintro e W2 ⟨⟨v, rfl⟩, ss, hS, hi, hl, hd⟩
  have hr := run_endLoop (P := Tryz.prog) hl (by rw [hrc]; simp)
  rw [hrc] at hr
  exact ⟨none, _, hr, done ss _ hS (hI _ _ _ hi (hput _ _)) (keepL hd (Keep.put W2 (D + 1) _) (by omega))⟩
end Go.Proofs.YtibaehlfpgipfaaGreat
namespace Go.Proofs.YtibaehlfpgipfaaGreat
open Go.RowKit Go.Shelf
attribute [local go_sem] Oper.semAt_some
theorem isU64_of_wf {i : Int} (h : (Lit.int .u64 i).wf = true) : isU64 i := isU64_wf h
theorem ranges_keep {w w' : World} {b r n : Nat} {D : DataW Value} {left : Lit → Bool} {cnt : Nat} (h : w.ranges Tryz.prog 28 heldV b r n D left cnt) {S : Nat → Prop} (k : Keep S w w') (hsb : ¬ S b) (hsr : ¬ S r) : w'.ranges Tryz.prog 28 heldV b r n D left cnt := by
  have h1 := h.owns.lt
  have h2 := h.lt
  obtain ⟨es, clock, since, seen, c0, hb, F, hs, hD, hr, rest⟩ := h
  exact ⟨es, clock, since, seen, c0, (k.block b h1 hsb).trans hb, F, hs, hD, (k.block r h2 hsr).trans hr, rest⟩
def KeysOf (D : DataW Value) (left : Lit → Bool) (ss : List Int) : Prop := ss.Nodup ∧ ∀ k, k ∈ ss ↔ (isU64 k ∧ Maps.has D (keyU k) = true ∧ left (keyU k) = false)
theorem KeysOf.step {D : DataW Value} {left : Lit → Bool} {ss : List Int} (h : KeysOf D left ss) {x : Int} (hx : isU64 x) (hh : Maps.has D (keyU x) = true) (hl : left (keyU x) = true) : KeysOf D (fun z => left z && !z.sameKey (keyU x)) (ss ++ [x]) := by
  refine ⟨List.nodup_append.2 ⟨h.1, by simp, fun a ha b hb e => ?_⟩, fun k => ?_⟩
  · simp only [List.mem_singleton] at hb
    subst hb
    subst e
    have := ((h.2 a).1 ha).2.2
    rw [hl] at this
    cases this
  · rw [List.mem_append, List.mem_singleton, h.2 k]
    constructor
    · rintro (⟨h1, h2, h3⟩ | rfl)
      · exact ⟨h1, h2, by show (left _ && _) = false; rw [h3]; rfl⟩
      · exact ⟨hx, hh, by show (left _ && _) = false; rw [WideAt.sameKey_self (keyU_is hx)]; simp⟩
    · rintro ⟨h1, h2, h3⟩
      have h3 : (left (keyU k) && !(keyU k).sameKey (keyU x)) = false := h3
      by_cases e : k = x
      · exact .inr e
      · rw [Maps.sameKey_ne (keyU_ne e)] at h3
        exact .inl ⟨h1, h2, by simpa using h3⟩
set_option maxRecDepth 100000 in
set_option maxHeartbeats 1000000 in
theorem keys_tells (c bM n : Nat) (D : DataW Value) (w : World) (row : RowIs w c 77 [.map (some bM)]) (own : w.ownsMap Tryz.prog 28 heldV bM n D) :
    TellsU 75 #[.pointer (some ⟨c, 0, none⟩)] (fun ss => KeysOf D (fun _ => false) ss) n bM w := by
  intro l J W hW hJ hY h0
  have x0 := (row.keep hW id).cell 0
  (try simp only [List.getElem?_cons_zero] at x0)
  have own1 := ownsMap_keep own hW id
  have HYY := Lib.hid hY
  have HJJ := Lib.hid hJ
  have HW := hW.size
  have hbl := own.lt
  have hsn := own.size_le
  clear hY hJ row hW own
  refine callsIn_of_wp Tryz.func75 rfl trivial ?_
  simp only [Tryz.ntmps75, List.size_toArray, List.length_cons, List.length_nil, Nat.reduceAdd, Nat.reduceSub, Array.replicate_succ, Array.replicate_zero, List.push_toArray, List.append_toArray, List.nil_append, List.cons_append]
  gi_wp2_with (first
    | (gi_at_range; refine wpListIn_range_own _ rfl _ 77 rfl 28 3 uK Tryz.underlying77 heldV bM n _ rfl own1 ?_; intro w0 hrg0 hg0 hs0)
    | gi_in)
  go_frame
  have hJ0 : J [] w0 := HJJ.out [] W w0 h0 ((Keep.refl _ W).grown hg0 (fun _ h => by cases h))
  have hrb : bM ≠ W.heap.size := by omega
  clear x0 own1 hg0
  gi_loopw [3] (fun _ wr => ∃ (left : Lit → Bool) (cnt : Nat) (ss : List Int), wr.ranges Tryz.prog 28 heldV bM W.heap.size n D left cnt ∧ KeysOf D left ss ∧ J ss wr ∧ W.heap.size < wr.heap.size ∧ ss.length + cnt ≤ n) (fun _ wr => wr.rangeLeft bM W.heap.size)
  case atStart => exact ⟨_, _, [], hrg0, ⟨List.nodup_nil, fun k => ⟨fun h => (by cases h), fun h => by rw [h.2.1] at h; cases h.2.2⟩⟩, hJ0, by omega, by simpa using hsn⟩
  case round =>
    clear hrg0 hJ0
    obtain ⟨left, cnt, ss, hrg, hC, hJs, hsz, hcl⟩ := hrel
    gi_wp2_with (first
      | (gi_at_next; refine wpListIn_next_ranges _ rfl _ rfl 28 uK heldV (Value.int .u64) id (fun key kl hk => by obtain ⟨x, hx, _⟩ := Maps.keyOf_int_inv Tryz.underlying28 hk; exact ⟨x, hx⟩) (fun v _ _ => ⟨v, rfl⟩) bM W.heap.size n _ _ _ rfl hrg ?_ ?_)
      | gi_in)
    · intro hc0 hl0
      gi_wp2
      go_end0
      refine ⟨⟨_, rfl⟩, ss, ⟨hC.1, fun k => ?_⟩, hJs⟩
      rw [hC.2 k, hl0]
    · intro x c2 kl yd yp w2 cnt2 hkey hlk hv hat hrg2 hlt hg2 hs2 hen
      obtain ⟨x', ex, rfl, hwx⟩ := Maps.keyOf_int_inv Tryz.underlying28 hkey
      cases ex
      have hux := isU64_of_wf hwx
      have hhas : Maps.has D (keyU x) = true := Maps.has_true_of_atKey hat
      have hJ2 : J ss w2 := HJJ.out ss wr w2 hJs ((Keep.refl _ wr).grown hg2 (fun _ h _ => (Option.some.inj h).symm))
      obtain ⟨fn, tmps, assign, body, hy, hR⟩ := HYY.out ss x w2 hJ2 hux (by omega) (by omega)
      have hC2 := Lib.hid (hC.step hux hhas hlk)
      have hsz2 : W.heap.size < w2.heap.size := by omega
      clear hs2 hC hJs
      gi_wp2
      refine hR.mono ?_
      rintro e W3 ⟨rfl, hJ3, hk3⟩
      have hrg3 := ranges_keep hrg2 hk3 (fun h => h.1 rfl) (fun h => h.2 rfl)
      have hs3 := hk3.size
      clear hR hy
      gi_wp2
      go_roundw
      case rel => exact ⟨_, cnt2, ss ++ [x], hrg3, hC2.out, hJ3, by omega, by simp; omega⟩
      case measure => rw [hrg3.left_eq, hrg.left_eq]; exact hlt
end Go.Proofs.YtibaehlfpgipfaaGreat
