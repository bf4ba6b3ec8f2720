/- SORTED KEYS: a range over a function that tells numbers, in whatever order. Of our own making, over the base law. -/
import Derived.Test.YthchpdflnpfjkaaQDed2
import Derived.RangeFuncNested
import Derived.RangeFuncBound
import Derived.RangeFuncCalls
import Derived.RangeFuncLeaves
import Derived.Shelf.Abstract
import Derived.OwnWalkIn
import Derived.TacticsInMore
import Derived.LoopNIn
import Derived.LoopIn
import Derived.Sort.MapsRangeIn
import Derived.Test.YthchpdflnpfjkaaQSwT
import Derived.Test.YthchpdflnpfjkaaQSwV
import Derived.Test.YthchpdflnpfjkaaQSwW
import Derived.Test.YthchpdflnpfjkaaQSwY
import Derived.Test.YthchpdflnpfjkaaQSwX
import Derived.Sort.AssemblyPlain
import Derived.Test.YthchpdflnpfjkaaQBase
import Derived.OrdersIn
import Derived.Deep.RegionHeld3
import Derived.Deep.DeepCutAuto
import Derived.Deep.CutBlock
import Derived.Lib.AppendZeros
namespace Go.Proofs.Ythchpdflnpfjkaa
open Go.RowKit Go.Shelf

theorem Keep.put (w : World) (l : Nat) (o : Obj) : Keep (· = l) w (w.putObj l o) := (Keep.refl _ w).grown (grownBy_putObj' w l o) (fun _ hk _ => (Option.some.inj hk).symm)
def FreeU (D bM : Nat) (b : Nat) : Prop := b ≠ D ∧ b ≠ D + 1 ∧ b ≠ D + 2 ∧ b ≠ bM
def BookU (D : Nat) (b : Nat) : Prop := b = D ∨ b = D + 1 ∨ b = D + 2
def roundU (D bM : Nat) (In : World → Prop) (W : World) : Exit → Act → World → Prop
  | .normal, _, W' => Keep (FreeU D bM) W W' ∧ In W'
  | _, _, _ => False
def TellsU (f : FuncId) (lb : Array Value) (S : List Int → Prop) (N bM : Nat) (w : World) : Prop :=
  ∀ (l : Nat) (J : List Int → World → Prop) (W : World), Keep Nix w W → (∀ ss A B, J ss A → Keep (· = W.heap.size) A B → J ss B) →
    (∀ ss k W0, J ss W0 → isU64 k → ss.length < N → W.heap.size < W0.heap.size → YieldAt Fence.wide 2 Try.prog l #[.int .u64 k] W0 (fun e W' => e = .returned (.bool true) ∧ J (ss ++ [k]) W' ∧ Keep (fun b => b ≠ bM ∧ b ≠ W.heap.size) W0 W')) →
    J [] W → CallsIn Fence.wide 3 Try.prog f (#[.func (.yield l) #[] #[]] ++ lb) W fun e W' => (∃ v, e = .returned v) ∧ ∃ ss, S ss ∧ J ss W'
theorem range_tellsU {f : FuncId} {lb : Array Value} {S : List Int → Prop} {N bM : Nat} {gop : Operand} {p : Tmp} {assign body : Code} {Q : Exit → Act → World → Prop} {a : Act} {w : World}
    (hg : a.eval gop = .func (.func f) #[] lb) (eg : ∀ args w, (callFunc f args).run Try.prog w = .ok (.enter f args) w) (ht : TellsU f lb S N bM w) (hbM : bM < w.heap.size)
    (I : List Int → World → Prop) (hI : ∀ ss A B, I ss A → Keep (BookU w.heap.size) A B → I ss B) (h0 : I [] w)
    (round : ∀ ss k W, I ss W → isU64 k → ss.length < N → w.heap.size + 3 ≤ W.heap.size →
      assign.wpIn (Fence.wide.inRound (w.heap.size + 1)) 2 Try.prog (Exit.then (fun a1 W1 => Keep (FreeU w.heap.size bM) W W1 ∧ ∀ W2, Keep (· = w.heap.size + 1) W1 W2 → W2.heap.size = W1.heap.size → body.wpIn (Fence.wide.inRound (w.heap.size + 1)) 2 Try.prog (roundU w.heap.size bM (I (ss ++ [k])) W2) a1 W2) (fun _ _ _ => False))
        { tmps := a.tmps.setIfInBounds p (.int .u64 k), defers := [] } W)
    (done : ∀ ss W, S ss → I ss W → W.heap[w.heap.size]? = some (.deferred (some [])) → Q .normal { a with defers := { target := .collected w.heap.size, args := #[] } :: a.defers } W) :
    (Code.rangeFunc gop #[p] assign body).wp Try.prog Q a w := by
  refine (wpIn_wide (n := 4)).1 (wpIn_rangeFunc ?_)
  intro fn hfn
  generalize hD : w.heap.size = D at *
  obtain ⟨rc, hrc⟩ : ∃ rc : LoopState → Option Code → Loop, rc = fun st pe => { state := st, pending := pe, fn, tmps := a.tmps, params := #[p], assign, body, defers := D } := ⟨_, rfl⟩
  obtain ⟨w1, hw1⟩ : ∃ w1, (w.alloc (.deferred (some []))).alloc (.loop (rc .ready none)) = w1 := ⟨_, rfl⟩
  have hL1 : w1.heap[D + 1]? = some (.loop (rc .ready none)) := by
    rw [← hw1, ← hD]
    have h := World.alloc_heap_new (w.alloc (.deferred (some []))) (.loop (rc .ready none))
    rwa [World.size_alloc] at h
  have kA : Keep Nix (w.alloc (.deferred (some []))) w1 := by rw [← hw1]; exact (Keep.refl Nix _).alloc _
  have kw : Keep Nix w w1 := by rw [← hw1]; exact ((Keep.refl Nix _).alloc _).alloc _
  have hs1 : w1.heap.size = D + 2 := by rw [← hw1, World.size_alloc, World.size_alloc, hD]
  have hD1 : w1.heap[D]? = some (.deferred (some [])) := by
    rw [kA.block D (by rw [World.size_alloc]; omega) id, ← hD]; exact World.alloc_heap_new w _
  refine ⟨D + 1, [{ target := .collected D, args := #[] }], w1, { target := .fn (.func f) lb, args := #[.func (.yield (D + 1)) #[] #[]] }, w1, f, #[.func (.yield (D + 1)) #[] #[]] ++ lb, w1, ?_, ?_, fun _ _ => trivial, ?_, fun h => by simp [Fence.wide] at h, ?_⟩
  · have h := run_enterLoop_outer (P := Try.prog) (w := w) fn a.tmps #[p] assign body
    rw [hD] at h
    rw [← hw1, hrc]
    exact h
  · simp only [resolve, hg]
    simp [go_sem]
  · simp [invoke, go_sem, eg]
  have keepL : ∀ {A B : World} {S : Nat → Prop} {b : Nat} {o : Obj}, A.heap[b]? = some o → Keep S A B → ¬ S b → B.heap[b]? = some o := fun h k hs => (k.block _ (Array.getElem?_eq_some_iff.1 h).1 hs).trans h
  have hput : ∀ (A : World) (o : Obj), Keep (BookU D) A (A.putObj (D + 1) o) := fun A o => (Keep.put A (D + 1) o).mono (fun b hb => .inr (.inl hb))
  refine (ht (D + 1) (fun ss W => I ss W ∧ W.heap[D + 1]? = some (.loop (rc .ready none)) ∧ W.heap[D]? = some (.deferred (some []))) w1 kw
    (fun k A B h kk => ⟨hI k A B h.1 (kk.mono (fun b hb => .inr (.inr (by rw [hb, hs1])))), keepL h.2.1 kk (by omega), keepL h.2.2 kk (by omega)⟩) ?_ ⟨hI [] _ _ h0 kw.nix, hL1, hD1⟩).mono ?_
  · rintro ss k W ⟨hi, hl, hd⟩ hk hlen hsz
    rw [hs1] at hsz ⊢
    have hy := run_yield (P := Try.prog) (args := #[.int .u64 k]) hl (by rw [hrc]; rfl)
    rw [hrc] at hy
    refine ⟨fn, a.tmps.setIfInBounds p (.int .u64 k), assign, body, by simpa using hy, roundIn_of_wpIn trivial (wpIn_mono (round ss k W hi hk hlen hsz) ?_)⟩
    rintro e a1 W1 h1
    cases e with
    | normal =>
      obtain ⟨k1, hb⟩ := h1
      have hl1 := keepL hl k1 (fun h => h.2.1 rfl)
      have hd1 := keepL hd k1 (fun h => h.1 rfl)
      refine ⟨_, run_beginRound hl1 (by rw [hrc]), ?_⟩
      have k2 := Keep.put W1 (D + 1) (.loop { rc .ready none with state := .busy })
      have hl2 : (W1.putObj (D + 1) (.loop { rc .ready none with state := .busy })).heap[D + 1]? = some (.loop { rc .ready none with state := .busy }) := World.putObj_heap_same (Array.getElem?_eq_some_iff.1 hl1).1
      have hd2 := keepL hd1 k2 (by omega)
      refine wpIn_mono (hb _ k2 World.putObj_size) ?_
      rintro e a3 W3 hp
      cases e with
      | normal =>
        have k3 := hp.1
        have hl3 := keepL hl2 k3 (fun h => h.2.1 rfl)
        have hr := run_endRound (P := Try.prog) none hl3
        rw [hrc] at hr
        refine ⟨_, _, hr, rfl, ⟨hI _ _ _ hp.2 (hput _ _), ?_, ?_⟩, ?_⟩
        · rw [hrc]; exact World.putObj_heap_same (Array.getElem?_eq_some_iff.1 hl3).1
        · exact keepL (keepL hd2 k3 (fun h => h.1 rfl)) (Keep.put W3 (D + 1) _) (by omega)
        · exact (((k1.mono (fun b h => ⟨h.2.2.2, h.2.2.1⟩)).trans (k2.mono (fun b (h : b = D + 1) => ⟨by omega, by omega⟩))).trans (hp.1.mono (fun b h => ⟨h.2.2.2, h.2.2.1⟩))).trans ((Keep.put W3 (D + 1) _).mono (fun b (h : b = D + 1) => ⟨by omega, by omega⟩))
      | ret => exact hp.elim
      | exit id => exact hp.elim
      | goto t => exact hp.elim
      | panic ch => exact hp.elim
      | outgrown => exact hp.elim
    | ret => exact h1.elim
    | exit id => exact h1.elim
    | goto t => exact h1.elim
    | panic ch => exact h1.elim
    | outgrown => exact h1.elim
  · rintro e W2 ⟨⟨v, rfl⟩, ss, hS, hi, hl, hd⟩
    have hr := run_endLoop (P := Try.prog) hl (by rw [hrc]; simp)
    rw [hrc] at hr
    exact ⟨none, _, hr, done ss _ hS (hI _ _ _ hi (hput _ _)) (keepL hd (Keep.put W2 (D + 1) _) (by omega))⟩
end Go.Proofs.Ythchpdflnpfjkaa
namespace Go.Proofs.Ythchpdflnpfjkaa
open Go.RowKit Go.Shelf

attribute [local go_sem] Oper.semAt_some
theorem isU64_of_wf {i : Int} (h : (Lit.int .u64 i).wf = true) : isU64 i := isU64_wf h
theorem ranges_keep {w w' : World} {b r n : Nat} {D : DataW Value} {left : Lit → Bool} {cnt : Nat} (h : w.ranges Try.prog 33 heldV b r n D left cnt) {S : Nat → Prop} (k : Keep S w w') (hsb : ¬ S b) (hsr : ¬ S r) : w'.ranges Try.prog 33 heldV b r n D left cnt := by
  have h1 := h.owns.lt
  have h2 := h.lt
  obtain ⟨es, clock, since, seen, c0, hb, F, hs, hD, hr, rest⟩ := h
  exact ⟨es, clock, since, seen, c0, (k.block b h1 hsb).trans hb, F, hs, hD, (k.block r h2 hsr).trans hr, rest⟩
def KeysOf (D : DataW Value) (left : Lit → Bool) (ss : List Int) : Prop := ss.Nodup ∧ ∀ k, k ∈ ss ↔ (isU64 k ∧ Maps.has D (keyU k) = true ∧ left (keyU k) = false)
theorem KeysOf.step {D : DataW Value} {left : Lit → Bool} {ss : List Int} (h : KeysOf D left ss) {x : Int} (hx : isU64 x) (hh : Maps.has D (keyU x) = true) (hl : left (keyU x) = true) : KeysOf D (fun z => left z && !z.sameKey (keyU x)) (ss ++ [x]) := by
  refine ⟨List.nodup_append.2 ⟨h.1, by simp, fun a ha b hb e => ?_⟩, fun k => ?_⟩
  · simp only [List.mem_singleton] at hb
    subst hb
    subst e
    have := ((h.2 a).1 ha).2.2
    rw [hl] at this
    cases this
  · rw [List.mem_append, List.mem_singleton, h.2 k]
    constructor
    · rintro (⟨h1, h2, h3⟩ | rfl)
      · exact ⟨h1, h2, by show (left _ && _) = false; rw [h3]; rfl⟩
      · exact ⟨hx, hh, by show (left _ && _) = false; rw [WideAt.sameKey_self (keyU_is hx)]; simp⟩
    · rintro ⟨h1, h2, h3⟩
      have h3 : (left (keyU k) && !(keyU k).sameKey (keyU x)) = false := h3
      by_cases e : k = x
      · exact .inr e
      · rw [Maps.sameKey_ne (keyU_ne e)] at h3
        exact .inl ⟨h1, h2, by simpa using h3⟩
set_option maxRecDepth 100000 in
set_option maxHeartbeats 1000000 in
theorem keys_tells (c bM n : Nat) (D : DataW Value) (w : World) (row : RowIs w c 62 [.map (some bM)]) (own : w.ownsMap Try.prog 33 heldV bM n D) :
    TellsU 48 #[.pointer (some ⟨c, 0, none⟩)] (fun ss => KeysOf D (fun _ => false) ss) n bM w := by
  intro l J W hW hJ hY h0
  have x0 := (row.keep hW id).cell 0
  (try simp only [List.getElem?_cons_zero] at x0)
  have own1 := ownsMap_keep own hW id
  have HYY := Lib.hid hY
  have HJJ := Lib.hid hJ
  have HW := hW.size
  have hbl := own.lt
  have hsn := own.size_le
  clear hY hJ row hW own
  refine callsIn_of_wp Try.func48 rfl trivial ?_
  simp only [Try.ntmps48, List.size_toArray, List.length_cons, List.length_nil, Nat.reduceAdd, Nat.reduceSub, Array.replicate_succ, Array.replicate_zero, List.push_toArray, List.append_toArray, List.nil_append, List.cons_append]
  gi_wp2_with (first
    | (gi_at_range; refine wpListIn_range_own _ rfl _ 62 rfl 33 73 uK Try.underlying62 heldV bM n _ rfl own1 ?_; intro w0 hrg0 hg0 hs0)
    | gi_in)
  go_frame
  have hJ0 : J [] w0 := HJJ.out [] W w0 h0 ((Keep.refl _ W).grown hg0 (fun _ h => by cases h))
  have hrb : bM ≠ W.heap.size := by omega
  clear x0 own1 hg0
  gi_loopw [3] (fun _ wr => ∃ (left : Lit → Bool) (cnt : Nat) (ss : List Int), wr.ranges Try.prog 33 heldV bM W.heap.size n D left cnt ∧ KeysOf D left ss ∧ J ss wr ∧ W.heap.size < wr.heap.size ∧ ss.length + cnt ≤ n) (fun _ wr => wr.rangeLeft bM W.heap.size)
  case atStart => exact ⟨_, _, [], hrg0, ⟨List.nodup_nil, fun k => ⟨fun h => (by cases h), fun h => by rw [h.2.1] at h; cases h.2.2⟩⟩, hJ0, by omega, by simpa using hsn⟩
  case round =>
    clear hrg0 hJ0
    obtain ⟨left, cnt, ss, hrg, hC, hJs, hsz, hcl⟩ := hrel
    gi_wp2_with (first
      | (gi_at_next; refine wpListIn_next_ranges _ rfl _ rfl 33 uK heldV (Value.int .u64) id (fun key kl hk => by obtain ⟨x, hx, _⟩ := Maps.keyOf_int_inv Try.underlying33 hk; exact ⟨x, hx⟩) (fun v _ _ => ⟨v, rfl⟩) bM W.heap.size n _ _ _ rfl hrg ?_ ?_)
      | gi_in)
    · intro hc0 hl0
      gi_wp2
      go_end0
      refine ⟨⟨_, rfl⟩, ss, ⟨hC.1, fun k => ?_⟩, hJs⟩
      rw [hC.2 k, hl0]
    · intro x c2 kl yd yp w2 cnt2 hkey hlk hv hat hrg2 hlt hg2 hs2 hen
      obtain ⟨x', ex, rfl, hwx⟩ := Maps.keyOf_int_inv Try.underlying33 hkey
      cases ex
      have hux := isU64_of_wf hwx
      have hhas : Maps.has D (keyU x) = true := Maps.has_true_of_atKey hat
      have hJ2 : J ss w2 := HJJ.out ss wr w2 hJs ((Keep.refl _ wr).grown hg2 (fun _ h _ => (Option.some.inj h).symm))
      obtain ⟨fn, tmps, assign, body, hy, hR⟩ := HYY.out ss x w2 hJ2 hux (by omega) (by omega)
      have hC2 := Lib.hid (hC.step hux hhas hlk)
      have hsz2 : W.heap.size < w2.heap.size := by omega
      clear hs2 hC hJs
      gi_wp2
      refine hR.mono ?_
      rintro e W3 ⟨rfl, hJ3, hk3⟩
      have hrg3 := ranges_keep hrg2 hk3 (fun h => h.1 rfl) (fun h => h.2 rfl)
      have hs3 := hk3.size
      clear hR hy
      gi_wp2
      go_roundw
      case rel => exact ⟨_, cnt2, ss ++ [x], hrg3, hC2.out, hJ3, by omega, by simp; omega⟩
      case measure => rw [hrg3.left_eq, hrg.left_eq]; exact hlt
end Go.Proofs.Ythchpdflnpfjkaa
namespace Go.Proofs.Ythchpdflnpfjkaa
open Go.RowKit Go.Sort

theorem sw_callees13 : Callees13 where
  ins := so_insertionSort_int
  brk := so_breakPatterns_int
  piv := so_choosePivot_int
  par := so_partialInsertionSort_int
  peq := so_partitionEqualOrdered_int
  prt := so_partitionOrdered_int
theorem sw_plain13 : Plain13 where
  swo := swo_ltInt
  ins := insertionSort_holds
  par := partialInsertionSort_holds
  prt := partition_holds _
  peq := partitionEqual_holds _
  pdq := pdq_sorts _
theorem sw_pdq : pdqWalk_int := fun blk off cap a b limit d w hH hb hab hbd hsz hl hB =>
  so_pdqsort_int sw_callees13 sw_plain13 (b - a + 1) blk off cap a b limit d w (by omega) hH hb hab hbd hsz hl hB
theorem sw_sort (blk off cap : Nat) (zs : List Int) (w : World) (hH : Holds (Value.int .u64) w blk off zs.toArray) (hblk : blk < w.heap.size) (hsz : zs.length < 4611686018427387904) :
    Calls Try.prog 47 #[.slice (some ⟨blk, off, none⟩) zs.length cap] w fun e w' =>
      e = .returned (.tuple #[]) ∧ ∃ n os, w' = grow (putRow (Value.int .u64) (Sort.ahead w n) blk off (zs.mergeSort fun x y => decide (x ≤ y)).toArray) os := by
  have h := so_Sort_int sw_pdq blk off cap zs.toArray w hH hblk (by simpa using hsz)
  rw [show Sort.sort ltInt zs.toArray = (zs.mergeSort fun x y => decide (x ≤ y)).toArray from by rw [← sortInt zs]] at h
  simpa using h
theorem sw_holds {w : World} {g : Nat} {e : TypeId} {ss : List Int} {rest : List Value} (row : RowIs w g e (ss.map iv ++ rest)) : Holds (Value.int .u64) w g 0 ss.toArray := fun j hj => by
  have hj' : j < ss.length := by simpa using hj
  refine ⟨?_, row.frozen _⟩
  rw [Nat.zero_add, row.cell, List.getElem?_append_left (by simpa using hj')]
  simp [iv, hj']
theorem sw_row {w : World} {g n : Nat} {e : TypeId} {os : Array Obj} {ss ts : List Int} {rest : List Value} (row : RowIs w g e (ss.map iv ++ rest)) (hl : ts.length = ss.length) :
    RowIs (grow (putRow (Value.int .u64) (Sort.ahead w n) g 0 ts.toArray) os) g e (ts.map iv ++ rest) := by
  have hg : g < w.heap.size := row.lt
  unfold RowIs
  rw [heap_grow_old _ _ (by simpa using hg)]
  have hb : w.heap[g]? = some (.cells (ss.map iv ++ rest).toArray e (0, 0)) := row
  have h1 : (putRow (Value.int .u64) (Sort.ahead w n) g 0 ts.toArray).heap[g]? = some (.cells (putCells (Value.int .u64) 0 ts.toArray (ss.map iv ++ rest).toArray) e (0, 0)) := by
    simp [putRow, mapBlock, Sort.ahead, Array.getElem?_modify, hb, onCells]
  rw [h1]
  congr 2
  apply Array.ext_getElem?
  intro j
  by_cases hj : j < ts.length
  · have : j < (ss.map iv ++ rest).length := by simp; omega
    simp [putCells, hj, iv, List.getElem?_append, show j < ss.length by omega]
  · by_cases hj2 : j < (ss.map iv ++ rest).length
    · simp only [putCells, List.getElem?_toArray, List.mapIdx_toArray, List.getElem?_mapIdx]
      rw [List.getElem?_append_right (by simp; omega), List.getElem?_append_right (by simp; omega)]
      simp [hl, show ¬ j < ss.length by omega]
    · simp only [putCells, List.getElem?_toArray, List.mapIdx_toArray, List.getElem?_mapIdx]
      rw [List.getElem?_eq_none (by simp at hj2 ⊢; omega), List.getElem?_eq_none (by simp at hj2 ⊢; omega)]
      rfl
theorem sw_keep {w : World} {g n : Nat} {os : Array Obj} (d : Array Int) : Keep (· = g) w (grow (putRow (Value.int .u64) (Sort.ahead w n) g 0 d) os) :=
  ⟨rfl, rfl, rfl, by simp, fun k hk hne => by
    rw [heap_grow_old _ _ (by simpa using hk)]
    simp [putRow, mapBlock, Sort.ahead, Array.getElem?_modify, show ¬ g = k from fun e => hne e.symm]⟩
theorem sw_upTo {ys : List Int} (h : ys.Pairwise (· ≤ ·)) : UpTo ys.length ys := fun p q hpq hq => by
  rw [gd_at (by omega), gd_at hq]
  exact (List.pairwise_iff_getElem.1 h) p q (by omega) hq hpq
/-- slices.Sort at []uint64, of any length that a machine holds. -/
theorem sortAll_c {base : Nat} (a : Option Addr) (n cap : Nat) (xs : List Int) (w : World) (own : w.ownsRow base 33 1 (.slice a n cap) n (xs.map iv)) (hn : n ≤ 1000000) :
    Calls Try.prog 47 #[.slice a n cap] w fun e w' => e = .returned (.tuple #[]) ∧ ∃ ys, w'.ownsRow base 33 1 (.slice a n cap) n (ys.map iv) ∧ ys.Perm xs ∧ UpTo n ys ∧ Keep (OwnB (.slice a n cap)) w w' := by
  by_cases h12 : n ≤ 12
  · exact sort_c a n cap xs w own h12
  · have hl : xs.length = n := by have := own.1; simpa using this
    obtain ⟨b, rest, rfl, hb, row, hlr, hlx, hc, hm⟩ := own_row own (by omega)
    have hbig : xs.length < 4611686018427387904 := by rw [hl]; omega
    have HS := sw_sort b 0 cap xs w (sw_holds row) row.lt hbig
    rw [hl] at HS
    refine HS.mono ?_
    rintro e w' ⟨rfl, m, os, rfl⟩
    obtain ⟨ys, hy⟩ : ∃ ys, ys = xs.mergeSort fun x y => decide (x ≤ y) := ⟨_, rfl⟩
    rw [← hy]
    have hp : ys.Perm xs := by rw [hy]; exact List.mergeSort_perm _ _
    have hs : ys.Pairwise (· ≤ ·) := by
      have := List.pairwise_mergeSort (le := fun x y : Int => decide (x ≤ y)) (fun a b c h1 h2 => by simp at h1 h2 ⊢; omega) (fun a b => by simp; omega) xs
      rw [hy]
      exact this.imp (fun h => by simpa using h)
    have hly : ys.length = xs.length := hp.length_eq
    have hu := sw_upTo hs
    rw [hly, hl] at hu
    exact ⟨rfl, ys, row_own (sw_row row hly) hb (by rw [← hlr]; simp [hly]) (by simp [hly, hl]) hc hm, hp, hu, (sw_keep _).mono (fun i hi => by rw [hi]; rfl)⟩
end Go.Proofs.Ythchpdflnpfjkaa
namespace Go.Proofs.Ythchpdflnpfjkaa
open Go.RowKit

def noDefer (ops : Array Oper) : Bool := ops.toList.all fun o => match o.op with | .defer _ => false | _ => true
theorem noDefer_at {ops : Array Oper} (h : noDefer ops = true) {i : Nat} {o : Oper} (hi : ops[i]? = some o) : ∀ c, o.op ≠ .defer c := by
  intro c hc
  have := List.all_eq_true.1 h o (by rw [← Array.getElem?_toList] at hi; exact List.mem_of_getElem? hi)
  rw [hc] at this
  cases this
section
variable {P : Program} {l n : Nat} {Q : Exit → Act → World → Prop} {a : Act} {w : World}
theorem oper_in {o : Oper} {K : Act → World → Prop} (hd : ∀ c, o.op ≠ .defer c) (h : o.wp P a w K Q) : o.wpIn (Fence.wide.inRound l) n P a w K Q := by
  unfold Oper.wp at h
  unfold Oper.wpIn
  refine ⟨fun _ _ => trivial, ?_⟩
  rw [show (Fence.wide.inRound l).round = some l from rfl, Oper.semAt_some l _ _ hd]
  generalize (execOp a.eval o).run P w = r at *
  cases r with
  | ok x w' =>
    cases x <;> simp only [Oper.upon, Oper.uponIn] at h ⊢
    case value => exact h
    case skip => exact h
    case defer => exact h
    case enter f args => exact ⟨fun h => by simp [Fence.wide, Fence.inRound] at h, CallsIn.inRound l (callsIn_wide.2 h)⟩
    case row row args =>
      refine ⟨fun h => by simp [Fence.wide, Fence.inRound] at h, fun c cs _ => ?_⟩
      obtain ⟨v, w2, h1, h2⟩ := h c cs
      exact ⟨v, w2, h1, stepsIn_wide.2 h2⟩
  | halt x w' => cases x <;> simp only [Oper.upon, Oper.uponIn] at h ⊢ <;> exact h
theorem ops_in {ops : Array Oper} (hd : noDefer ops = true) (hL : ∀ a w, ¬ Q .outgrown a w) : ∀ (is : List Nat) (a : Act) (w : World), wpOps P ops Q is a w → wpOpsIn (Fence.wide.inRound l) n P ops Q is a w
  | [], _, _, h => h
  | i :: is, a, w, h => by
    unfold wpOps at h
    unfold wpOpsIn
    cases ho : ops[i]? with
    | none =>
      simp only [ho] at h ⊢
      exact ops_in hd hL is a w h
    | some o =>
      simp only [ho] at h ⊢
      split
      · rename_i hw
        rw [if_pos hw] at h
        rcases h with h | ⟨_, a', w', h⟩
        · exact oper_in (noDefer_at hd ho) (Oper.wp_mono (fun a w => ops_in hd hL is a w) h)
        · exact absurd h (hL _ _)
      · rename_i hw
        rw [if_neg hw] at h
        exact ⟨fun _ _ => trivial, ops_in hd hL is _ _ h⟩
/-- A region that does not draw. -/
theorem region_in {id : Nat} {ops : List Oper} (hd : noDefer ops.toArray = true) (hL : ∀ a w, ¬ Q .outgrown a w) (h : wpList P ops.toArray Q ops a w) : (Code.region id ops.toArray false).wpIn (Fence.wide.inRound l) n P Q a w :=
  wpIn_region (ops_in hd hL _ _ _ (by rw [List.range_eq_range', ← Array.length_toList, wpOps_eq_wpList ops.toArray.toList 0 (by simp)]; exact h))
/-- A region that draws. -/
theorem region_in_held {id : Nat} {ops : Array Oper} {S : World → Prop} (hd : noDefer ops = true) (hL : ∀ a w, ¬ Q .outgrown a w) (hm : P.follows .mixedOrders = true) (hS : S w.drew)
    (h : S w.drew → wpAnyH P .any ops Q S ops.size (Array.replicate ops.size false) a w.drew) : (Code.region id ops true).wpIn (Fence.wide.inRound l) n P Q a w :=
  wpIn_region_draw fun t => by
    simp only [Region.schedule, hm, Bool.true_or, if_true]
    exact ops_in hd hL _ _ _ (wpAny_sound ops.size t _ a _ (wpAny_of_held _ _ _ _ (h hS)))
end
end Go.Proofs.Ythchpdflnpfjkaa
namespace Go.Proofs.Ythchpdflnpfjkaa
open Go.RowKit Go.Shelf

theorem calls_marks {P : Program} {f : FuncId} {fn : Func} {c : Code} {args : Array Value} {w : World} {R : Ending → World → Prop} (hf : P.funcs[f]? = some fn) (hb : fn.body = some c)
    (h : c.wp P (bodyPostM Fence.wide 4 P fn R) { tmps := args ++ Array.replicate (fn.ntmps - args.size) undef, defers := [] } w) : Calls P f args w R :=
  (callsIn_wide (n := 4)).1 (callsIn_of_wp_marks hf hb trivial (wpIn_wide.2 h) rfl)
theorem own_from {w : World} {base base' e sz n : Nat} {v : Value} {xs : List Value} (h : w.ownsRow base e sz v n xs) (hb : base' ≤ base) : w.ownsRow base' e sz v n xs :=
  ⟨h.1, h.2.imp id fun ⟨g, cap, cur, e, h1, r⟩ => ⟨g, cap, cur, e, Nat.le_trans hb h1, r⟩⟩
theorem T_lU : SliceT Try.prog 76 33 1 8 := SliceT.mk' Try.underlying76 (z := .int .u64 0) (by kernel_rfl) rfl (by decide)
set_option maxRecDepth 100000 in
set_option maxHeartbeats 2000000 in
theorem append_c (c bM n : Nat) (S : List Int → Prop) (w : World) (ht : TellsU 48 #[.pointer (some ⟨c, 0, none⟩)] S n bM w) (hbM : bM < w.heap.size) (hn : n ≤ 1000000) :
    Calls Try.prog 62 #[.slice none 0 0, .func (.func 48) #[] #[.pointer (some ⟨c, 0, none⟩)]] w fun e w' => ∃ (ss : List Int) (a : Option Addr) (cp : Nat), e = .returned (.slice a ss.length cp) ∧ S ss ∧ ss.length ≤ n ∧ w'.ownsRow w.heap.size 33 1 (.slice a ss.length cp) ss.length (ss.map iv) ∧ Keep Nix w w' := by
  refine calls_marks Try.func62 rfl ?_
  simp only [Try.ntmps62, List.size_toArray, List.length_cons, List.length_nil, Nat.reduceAdd, Nat.reduceSub, Array.replicate_succ, Array.replicate_zero, List.push_toArray, List.append_toArray, List.nil_append, List.cons_append]
  have kA : Keep Nix w (w.alloc (.cells #[.slice none 0 0] 76)) := (Keep.refl Nix w).alloc _
  have rowX : RowIs (w.alloc (.cells #[.slice none 0 0] 76)) w.heap.size 76 [.slice none 0 0] := RowIs.alloc w _ _
  have hsz : Hid (((w.alloc (.cells #[.slice none 0 0] 76))).heap.size = w.heap.size + 1) := by show _ = _; simp
  have HTW : TellsU 48 #[.pointer (some ⟨c, 0, none⟩)] S n bM (w.alloc (.cells #[.slice none 0 0] 76)) := fun l J W hW => ht l J W (kA.trans hW)
  have hbA : bM < ((w.alloc (.cells #[.slice none 0 0] 76))).heap.size := Nat.lt_of_lt_of_le hbM kA.size
  go_wp2_with fail
  generalize (w.alloc (.cells #[.slice none 0 0] 76)) = w1 at *
  have hcx : w.heap.size < w1.heap.size := rowX.lt
  refine range_tellsU (S := S) (N := n) (bM := bM) rfl (enters_of Try.func48 (by kernel_rfl) rfl) HTW hbA
    (fun ss W => ss.length ≤ n ∧ ∃ (a : Option Addr) (cp : Nat), RowIs W w.heap.size 76 [.slice a ss.length cp] ∧ W.ownsRow (w1.heap.size + 3) 33 1 (.slice a ss.length cp) ss.length (ss.map iv) ∧ Keep (· = w.heap.size) w1 W) ?hI ⟨Nat.zero_le _, none, 0, rowX, World.ownsRow_nil _ _ _ _, Keep.refl _ _⟩ ?round ?done
  case hI =>
    rintro ss A B ⟨hln, a, cp, row, own, kx⟩ k
    have hbk : ∀ b, BookU w1.heap.size b → w1.heap.size ≤ b ∧ b < w1.heap.size + 3 := fun b hb => by rcases hb with h | h | h <;> omega
    exact ⟨hln, a, cp, row.keep k (fun h => by have := hbk _ h; omega), owned_keep own k (fun b hb h => by have := hbk b h; have := (own.lt b hb).1; omega), kx.then k (fun i hi h => by have := hbk i h; omega)⟩
  case done =>
    rintro ss W hS ⟨hln, a, cp, row, own, kx⟩ hD
    have x0 := row.cell 0
    (try simp only [List.getElem?_cons_zero] at x0)
    go_wp2_with fail
    have kD := Keep.put W w1.heap.size (.deferred none)
    refine ⟨by simp, .inl ⟨_, _, rfl, run_takeDeferred hD, ?_⟩⟩
    refine ⟨_, results_tmp rfl _ _ _, ?_⟩
    have hw := hsz.out
    exact ⟨ss, a, cp, rfl, hS, hln, own_from (owned_keep own kD (fun b hb e => by have := (own.lt b hb).1; omega)) (by omega), (kA.then kx (fun i hi e => by omega)).then kD (fun i hi e => by omega)⟩
  case round =>
    rintro ss k W ⟨-, a, cp, row, own, kx⟩ hk hlen hszW
    refine region_in (by kernel_rfl) (by exact fun _ _ h => h) ?_
    go_wp2_with fail
    refine ⟨Keep.refl _ _, fun W2 k2 hs2 => ?_⟩
    have row2 := row.keep k2 (by omega)
    have own2 := owned_keep own k2 (fun b hb e => by have := (own.lt b hb).1; omega)
    have kx2 := kx.then k2 (fun i hi e => by omega)
    have y0 := row2.cell 0
    (try simp only [List.getElem?_cons_zero] at y0)
    have HR2 := Lib.hid row2
    have HKX := Lib.hid kx2
    have hsz2 : w1.heap.size + 3 ≤ W2.heap.size := by omega
    clear row own kx k2 row2 kx2 hs2 hszW
    refine wpIn_block (region_in (by kernel_rfl) (by exact fun _ _ h => h) ?_)
    go_wp2_with (at_builtin; refine wpl_append1_at (c := 1) T_lU ?hgd (.tmp 8) (.tmp 10) ?ho (w1.heap.size + 3) ?hs own2 ?hx ?c0 ?c1 ?c2 ?c3 ?c4 ?_)
    case hgd => rfl
    case ho => rfl
    case hs => rfl
    case hx => rfl
    case c0 => rfl
    case c1 => simp [Value.oneCell']
    case c2 => unfold maxLen; omega
    case c3 => omega
    case c4 => omega
    intro a' cap' w6 own6 k6 hfresh
    have hge : ∀ b, OwnB (.slice a ss.length cp) b → w1.heap.size + 3 ≤ b := fun b hb => (own2.lt b hb).1
    have row6 := HR2.out.keep k6 (fun h => by have := hge _ h; omega)
    have s0 := row6.cell 0
    have sf := row6.frozen 0
    (try simp only [List.getElem?_cons_zero] at s0)
    have hF6 : Keep (FreeU w1.heap.size bM) W2 w6 := k6.mono (fun b hb => by have := hge b hb; exact ⟨by omega, by omega, by omega, by omega⟩)
    have kx6 := HKX.out.then k6 (fun i hi h => by have := hge i h; omega)
    have HR6 := Lib.hid row6
    have HO6 := Lib.hid own6
    clear y0 own2 own6 row6 k6
    go_wp2_with fail
    have kS : Keep (· = w.heap.size) w6 (w6.setCell ⟨w.heap.size, 0, none⟩ (.slice a' (ss.length + 1) cap')) := (Keep.refl (· = w.heap.size) w6).setCell (p := ⟨w.heap.size, 0, none⟩) (fun _ => rfl) _
    refine ⟨hF6.trans (kS.mono (fun b hb => ⟨by omega, by omega, by omega, by omega⟩)), by (first | omega | (simp; omega)), a', cap', ?_, ?_, kx6.trans kS⟩
    · exact HR6.out.set 0 (.slice a' (ss.length + 1) cap')
    · exact owned_keep HO6.out kS (fun b hb e => by
        rcases hfresh b hb with h | h
        · have := hge b h; omega
        · omega)
theorem collect_c (c bM n : Nat) (S : List Int → Prop) (w : World) (ht : TellsU 48 #[.pointer (some ⟨c, 0, none⟩)] S n bM w) (hbM : bM < w.heap.size) (hn : n ≤ 1000000) :
    Calls Try.prog 46 #[.func (.func 48) #[] #[.pointer (some ⟨c, 0, none⟩)]] w fun e w' => ∃ (ss : List Int) (a : Option Addr) (cp : Nat), e = .returned (.slice a ss.length cp) ∧ S ss ∧ ss.length ≤ n ∧ w'.ownsRow w.heap.size 33 1 (.slice a ss.length cp) ss.length (ss.map iv) ∧ Keep Nix w w' := by
  have HA := append_c c bM n S w ht hbM hn
  go_enter Try.func46, Try.ntmps46
  go_wp2_with fail
  go_fit HA
  rintro e w1 ⟨ss, a, cp, rfl, hS, hln, own, k1⟩
  go_wp2_with fail
  go_ret
  exact ⟨ss, a, cp, rfl, hS, hln, own, k1⟩
theorem sorted_c (c bM n : Nat) (S : List Int → Prop) (w : World) (ht : TellsU 48 #[.pointer (some ⟨c, 0, none⟩)] S n bM w) (hbM : bM < w.heap.size) (hn : n ≤ 1000000) :
    Calls Try.prog 26 #[.func (.func 48) #[] #[.pointer (some ⟨c, 0, none⟩)]] w fun e w' => ∃ (ys ss : List Int) (a : Option Addr) (cp : Nat), e = .returned (.slice a ys.length cp) ∧ S ss ∧ ss.length ≤ n ∧ ys.Perm ss ∧ UpTo ys.length ys ∧ w'.ownsRow w.heap.size 33 1 (.slice a ys.length cp) ys.length (ys.map iv) ∧ Keep Nix w w' := by
  have HC := collect_c c bM n S w ht hbM hn
  go_enter Try.func26, Try.ntmps26
  go_wp2_with fail
  go_fit HC
  rintro e w1 ⟨ss, a, cp, rfl, hS, hln, own, k1⟩
  have HS := sortAll_c a ss.length cp ss w1 own (by omega)
  have hge : ∀ b, OwnB (.slice a ss.length cp) b → w.heap.size ≤ b := fun b hb => (own.lt b hb).1
  go_wp2_with fail
  go_fit HS
  rintro e w2 ⟨rfl, ys, own2, hp, hu, k2⟩
  have hl : ss.length = ys.length := hp.length_eq.symm
  have HL := Lib.hid hl
  clear hl HS own
  go_wp2_with fail
  go_ret
  refine ⟨ys, ss, a, cp, by rw [← HL.out]; rfl, hS, hln, hp, by rw [← HL.out]; exact hu, by rw [← HL.out]; exact own2, k1.then k2 (fun i hi h => by have := hge i h; omega)⟩
theorem keys_c (bM : Nat) (w : World) : Calls Try.prog 27 #[.map (some bM)] w fun e w' => e = .returned (.func (.func 48) #[] #[.pointer (some ⟨w.heap.size, 0, none⟩)]) ∧ w' = w.alloc (.cells #[.map (some bM)] 62) := by
  go_enter Try.func27, Try.ntmps27
  go_wp2_with fail
  go_ret
  exact ⟨rfl, rfl⟩
/-- A list that rises and has no more than another rising one is that one. -/
theorem rising_eq : ∀ {a b : List Int}, a.Pairwise (· < ·) → b.Pairwise (· < ·) → (∀ k, k ∈ a ↔ k ∈ b) → a = b
  | [], [], _, _, _ => rfl
  | [], y :: b, _, _, h => by have := (h y).2 (by simp); cases this
  | x :: a, [], _, _, h => by have := (h x).1 (by simp); cases this
  | x :: a, y :: b, ha, hb, h => by
    obtain ⟨a1, a2⟩ := List.pairwise_cons.1 ha
    obtain ⟨b1, b2⟩ := List.pairwise_cons.1 hb
    have hxy : x = y := by
      rcases List.mem_cons.1 ((h x).1 (by simp)) with e | e
      · exact e
      · rcases List.mem_cons.1 ((h y).2 (by simp)) with e2 | e2
        · exact e2.symm
        · have := b1 x e; have := a1 y e2; omega
    subst hxy
    rw [rising_eq a2 b2 (fun k => ?_)]
    constructor
    · intro hk
      rcases List.mem_cons.1 ((h k).1 (by simp [hk])) with e | e
      · have := a1 k hk; omega
      · exact e
    · intro hk
      rcases List.mem_cons.1 ((h k).2 (by simp [hk])) with e | e
      · have := b1 k hk; omega
      · exact e
theorem upTo_rising {ys : List Int} (h : UpTo ys.length ys) (hn : ys.Nodup) : ys.Pairwise (· < ·) := by
  rw [List.pairwise_iff_getElem]
  intro i j hi hj hij
  have h1 := h i j hij hj
  rw [gd_at hi, gd_at hj] at h1
  have h2 : ys[i] ≠ ys[j] := (List.pairwise_iff_getElem.1 hn) i j hi hj hij
  omega
end Go.Proofs.Ythchpdflnpfjkaa
namespace Go.Proofs.Ythchpdflnpfjkaa
open Go.RowKit

set_option maxRecDepth 100000 in
theorem growB_c (k : Nat) (h0 : 0 < k) (hk : k ≤ 1000000000) (w : World) : Calls Try.prog 49 #[.slice none 0 0, .int .i64 k] w fun e w' => ∃ G, e = .returned (.slice (some ⟨w.heap.size, 0, none⟩) 0 G) ∧ w'.ownsRow w.heap.size 5 1 (.slice (some ⟨w.heap.size, 0, none⟩) 0 G) 0 [] ∧ Keep Nix w w' := by
  obtain ⟨i, z, hi, hz, hsz, hby, hzs⟩ := T_bytes.info
  obtain ⟨G, Z, hG, hG2, hZ, hrz⟩ : ∃ (G : Nat) (Z : List Value), k ≤ G ∧ G ≤ 9223372036854775807 ∧ Z.length = G * 1 ∧ ∀ ty, (Builtin.append_ #[31, 3] ty #[.slice none 0 0, .int .i64 (k : Int)]).run Try.prog w = .ok (.slice (some ⟨w.heap.size, 0, none⟩) k G) (w.drew.alloc (.cells Z.toArray 5)) := by
    refine ⟨grownCap w (0 + k) 0 5, (Builtin.zeroCells z.cells k ++ Builtin.zeroCells z.cells (grownCap w (0 + k) 0 5 - (0 + k))).toList, ?_, ?_, ?_, fun ty => ?_⟩
    · have := grownCap_ge w (0 + k) 0 5; omega
    · have := grownCap_le_maxLen w (0 + k) 0 5 (by unfold maxLen; omega)
      unfold maxLen at this
      omega
    · have := grownCap_ge w (0 + k) 0 5
      simp [Builtin.zeroCells, hzs]
      simp at this
      omega
    · have h := Lib.run_append_grow_zeros w 31 3 ty 5 i z .i64 .i64 T_bytes.under Try.underlying3 hi hz none 0 0 [] (by simp [Builtin.firstCells]) k h0 (by rw [hsz]; omega) (by omega) (by omega) (by rw [hby]; omega) (by rw [hby]; exact growslice_fits (by omega) (by omega))
      rw [show 0 + k = k by omega] at h ⊢
      rw [h]
      congr 3
      simp
  have kk : Keep Nix w (w.drew.alloc (.cells Z.toArray 5)) := ((Keep.refl Nix w).drew).alloc _
  have row : RowIs (w.drew.alloc (.cells Z.toArray 5)) w.heap.size 5 ([] ++ Z) := by
    have h := RowIs.alloc w.drew Z.toArray 5
    exact h
  have own : Hid ((w.drew.alloc (.cells Z.toArray 5)).ownsRow w.heap.size 5 1 (.slice (some ⟨w.heap.size, 0, none⟩) 0 G) 0 []) := row_own row (Nat.le_refl _) (by simpa using hZ) rfl (by omega) (by unfold maxLen; exact hG2)
  have hk0 : (0 : Int) < (k : Int) := by omega
  have hkn : ¬ (k : Int) < 0 := by omega
  have hkG : (k : Int) ≤ (G : Int) := by omega
  clear hi hz hsz hby hzs row hZ
  go_enter Try.func49, Try.ntmps49
  go_wp2_with (at_builtin; refine Lib.wpList_append_run _ rfl _ _ _ _ rfl _ _ rfl rfl _ _ (hrz _) ?_)
  go_ret
  exact ⟨G, rfl, own.out, kk⟩
/-- Byte slices that stand in a row, one behind the other. -/
def PartsAt (w : World) (p : Nat → Prop) (cells : List Value) (ps : List (List UInt8)) : Prop := cells.length = ps.length ∧ ∀ (i : Nat) (l : List UInt8), ps[i]? = some l → ∃ (a : Option Addr) (c : Nat), cells[i]? = some (.slice a l.length c) ∧ Lies w p a (l.map bv)
theorem PartsAt.keep {w w' : World} {p : Nat → Prop} {cells : List Value} {ps : List (List UInt8)} (h : PartsAt w p cells ps) {S : Nat → Prop} (k : Keep S w w') (hs : ∀ b, p b → ¬ S b) : PartsAt w' p cells ps :=
  ⟨h.1, fun i l hl => by obtain ⟨a, c, h1, h2⟩ := h.2 i l hl; exact ⟨a, c, h1, h2.keep k hs⟩⟩
theorem PartsAt.nil (w : World) (p : Nat → Prop) : PartsAt w p [] [] := ⟨rfl, fun i l h => by simp at h⟩
theorem PartsAt.cons {w : World} {p : Nat → Prop} {cells : List Value} {ps : List (List UInt8)} (h : PartsAt w p cells ps) {a : Option Addr} {c n : Nat} {l : List UInt8} (hn : l.length = n) (hl : Lies w p a (l.map bv)) : PartsAt w p (.slice a n c :: cells) (l :: ps) := by
  subst hn
  refine ⟨by simp [h.1], fun i x hx => ?_⟩
  match i, hx with
  | 0, hx => cases hx; exact ⟨a, c, rfl, hl⟩
  | i + 1, hx => obtain ⟨a2, c2, h1, h2⟩ := h.2 i x (by simpa using hx); exact ⟨a2, c2, by simpa using h1, h2⟩
theorem take_flatB (ps : List (List UInt8)) (k : Nat) (h : k < ps.length) : (ps.take (k + 1)).flatten = (ps.take k).flatten ++ ps[k] := by
  rw [List.take_succ_eq_append_getElem h, List.flatten_append]; simp
theorem take_flatB_le (ps : List (List UInt8)) (k : Nat) : (ps.take k).flatten.length ≤ ps.flatten.length := by
  have h := congrArg (fun l => (List.flatten l).length) (List.take_append_drop k ps)
  simp only [List.flatten_append, List.length_append] at h
  omega
set_option maxRecDepth 100000 in
set_option maxHeartbeats 2000000 in
theorem concat_c {p : Nat → Prop} (g c : Nat) (ps : List (List UInt8)) (cells : List Value) (w : World) (row : RowIs w g 31 cells) (hp : PartsAt w p cells ps) (hpb : ∀ b, p b → b < w.heap.size) (h0 : 0 < ps.flatten.length) (hn : ps.flatten.length ≤ 1000000000) (hk : ps.length ≤ 1000000) :
    Calls Try.prog 28 #[.slice (some ⟨g, 0, none⟩) ps.length c] w fun e w' => ∃ a' c', e = .returned (.slice a' ps.flatten.length c') ∧ w'.ownsRow w.heap.size 5 1 (.slice a' ps.flatten.length c') ps.flatten.length (ps.flatten.map bv) ∧ Keep Nix w w' := by
  have HP := Lib.hid hp
  have HPB := Lib.hid hpb
  have ROW := Lib.hid row
  have HG := Lib.hid (growB_c ps.flatten.length h0 hn w)
  have HLE := Lib.hid (take_flatB_le ps)
  clear row hp hpb
  obtain ⟨N, hN⟩ : ∃ N, Hid (ps.flatten.length = N) := ⟨_, rfl⟩
  rw [hN.out] at HG h0 hn ⊢
  go_enter Try.func28, Try.ntmps28
  go_wp2_with fail
  go_loopw [3, 11] (fun s i wr => ∃ (k n : Nat), k ≤ ps.length ∧ i = .int .i64 (k : Int) ∧ s = .int .i64 (n : Int) ∧ Hid (n = (ps.take k).flatten.length) ∧ w = wr) (fun _ i _ => ps.length - (intOf i).toNat)
  case atStart => exact ⟨0, 0, Nat.zero_le _, rfl, rfl, rfl, rfl⟩
  case round =>
    obtain ⟨k, n, hkp, rfl, rfl, hs, rfl⟩ := hrel
    by_cases hlt : k < ps.length
    · have hi0 : (0 : Int) ≤ (k : Int) := by omega
      have hi1 : (k : Int) < (ps.length : Int) := by omega
      have hstep : Hid ((ps.take (k + 1)).flatten.length = (ps.take k).flatten.length + ps[k].length) := by show _ = _; rw [take_flatB ps k hlt, List.length_append]
      obtain ⟨a, c1, hc, -⟩ := HP.out.2 k ps[k] (List.getElem?_eq_getElem hlt)
      have x0 := (ROW.out.cell k).trans hc
      generalize ps[k] = l at *
      have hle : n + l.length ≤ N := by have := HLE.out (k + 1); have := hstep.out; have := hs.out; have := hN.out; omega
      have hwk : IntKind.i64.wrap ((k : Int) + 1) = (k : Int) + 1 := by rw [IntKind.wrap_i64]; omega
      have hwn : IntKind.i64.wrap ((n : Int) + (l.length : Int)) = (n : Int) + (l.length : Int) := by rw [IntKind.wrap_i64]; omega
      have hnn : ¬ (n : Int) + (l.length : Int) < 0 := by omega
      clear hc
      go_wp2_with fail
      go_roundw
      case rel => exact ⟨k + 1, n + l.length, by omega, by go_num, by go_num, by show _ = _; rw [hstep.out, hs.out], by first | rfl | trivial⟩
      case measure => simp [intOf]; omega
    · obtain rfl : k = ps.length := by omega
      have hnN : n = N := by have := hs.out; rw [List.take_length] at this; rw [this, hN.out]
      subst hnN
      go_wp2_with fail
      go_fit HG.out
      rintro e w1 ⟨G, rfl, own, k1⟩
      have ROW1 := Lib.hid (ROW.out.keep k1 id)
      have HP1 := Lib.hid (HP.out.keep k1 (fun _ _ h => h))
      have hs1 := k1.size
      have OWN := Lib.hid own
      have HK1 := Lib.hid k1
      clear own k1 HG
      go_wp2_with fail
      go_loopw [6, 27] (fun s i wr => ∃ (k : Nat) (a : Option Addr) (cp : Nat), k ≤ ps.length ∧ i = .int .i64 (k : Int) ∧ s = .slice a (ps.take k).flatten.length cp ∧ wr.ownsRow w.heap.size 5 1 (.slice a (ps.take k).flatten.length cp) (ps.take k).flatten.length ((ps.take k).flatten.map bv) ∧ Keep Nix w wr) (fun _ i _ => ps.length - (intOf i).toNat)
      case atStart => exact ⟨0, _, G, Nat.zero_le _, rfl, rfl, OWN.out, HK1.out⟩
      case round =>
        clear OWN HK1 hkp hlt hs
        obtain ⟨k, a, cp, hkp, rfl, rfl, own, kk⟩ := hrel
        by_cases hlt : k < ps.length
        · have hi0 : (0 : Int) ≤ (k : Int) := by omega
          have hi1 : (k : Int) < (ps.length : Int) := by omega
          have hstep : Hid ((ps.take (k + 1)).flatten = (ps.take k).flatten ++ ps[k]) := take_flatB ps k hlt
          obtain ⟨a2, c2, hc, hl⟩ := (HP.out.keep kk (fun _ _ h => h)).2 k ps[k] (List.getElem?_eq_getElem hlt)
          have x0 := ((ROW.out.keep kk id).cell k).trans hc
          generalize ps[k] = l at *
          have hwk : IntKind.i64.wrap ((k : Int) + 1) = (k : Int) + 1 := by rw [IntKind.wrap_i64]; omega
          have hle : (ps.take k).flatten.length + l.length ≤ n := by
            have h1 := HLE.out (k + 1)
            rw [hstep.out, List.length_append] at h1
            have := hN.out
            omega
          have HL := Lib.hid hl
          have HKK := Lib.hid kk
          have hsz := kk.size
          clear hc hl kk
          generalize (ps.take k).flatten = xs at *
          go_wp2_with (at_builtin; refine wpl_append (m := l.length) (c := c2) T_bytes ?hgd (.tmp 31) (.tmp 32) ?ho w.heap.size ?hs own (l.map bv) ?hx ?c0 HL.out ?c1 ?c2 ?c3 ?c4 ?_)
          case hgd => rfl
          case ho => rfl
          case hs => rfl
          case hx => rfl
          case c0 => simp
          case c1 => exact bv_one l
          case c2 => unfold maxLen; omega
          case c3 => omega
          case c4 => exact hsz
          intro a' cap' w2 own2 hg2
          have k2 : Keep (OwnB (.slice a xs.length cp)) wr w2 := (Keep.refl _ wr).grown hg2 (fun _ h _ => h)
          have hge : ∀ b, OwnB (.slice a xs.length cp) b → w.heap.size ≤ b := fun b hb => (own.lt b hb).1
          have kw := Lib.hid (HKK.out.then k2 (fun i hi h => by have := hge i h; omega))
          have OW2 := Lib.hid own2
          clear x0 own hg2 k2 hge own2
          go_wp2_with fail
          go_roundw
          case rel => exact ⟨k + 1, a', cap', by omega, by go_num, by rw [hstep.out, List.length_append], by rw [hstep.out, List.length_append, List.map_append]; exact OW2.out, kw.out⟩
          case measure => simp [intOf]; omega
        · obtain rfl : k = ps.length := by omega
          rw [List.take_length] at own ⊢
          rw [hN.out] at own ⊢
          have HO := Lib.hid own
          have HKK := Lib.hid kk
          clear own kk
          go_wp2_with fail
          go_ret
          exact ⟨a, cp, rfl, HO.out, HKK.out⟩
end Go.Proofs.Ythchpdflnpfjkaa
