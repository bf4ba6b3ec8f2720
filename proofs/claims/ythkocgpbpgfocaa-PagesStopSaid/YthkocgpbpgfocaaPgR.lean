/- PAGES: a range over a function that tells pairs: the rounds are told what lies in memory. Of our own making, over the base law. -/
import Derived.Test.YthkocgpbpgfocaaPgC
import Derived.Test.YthkocgpbpgfocaaPg4
namespace Go.Proofs.Ythkocgpbpgfocaa
open Go.RowKit Go.Shelf

theorem Keep.put (w : World) (l : Nat) (o : Obj) : Keep (· = l) w (w.putObj l o) := (Keep.refl _ w).grown (grownBy_putObj' w l o) (fun _ hk _ => (Option.some.inj hk).symm)
def Free (D n1 n2 : Nat) (b : Nat) : Prop := b ≠ D ∧ b ≠ D + 1 ∧ ¬ (n1 ≤ b ∧ b < n2)
def Book (D : Nat) (b : Nat) : Prop := b = D ∨ b = D + 1
def Off (n1 n2 : Nat) (b : Nat) : Prop := ¬ (n1 ≤ b ∧ b < n2)
/-- How a round may be left. -/
def roundQ (D n1 n2 : Nat) (In : World → Prop) (Ix : Code → World → Prop) (W : World) : Exit → Act → World → Prop
  | .normal, _, W' => Keep (Free D n1 n2) W W' ∧ In W'
  | .ret, _, W' => Keep (Free D n1 n2) W W' ∧ Ix .ret W'
  | .exit id, _, W' => Keep (Free D n1 n2) W W' ∧ Ix (.exit id) W'
  | .goto t, _, W' => Keep (Free D n1 n2) W W' ∧ Ix (.goto t) W'
  | .panic _, _, _ => False
  | .outgrown, _, _ => False
/-- An iterator over a list of pairs in memory (its own blocks: from n1 to n2): each pair comes as one that is owned. -/
def Tells (f : FuncId) (lb : Array Value) (xs : List GPair) (n1 n2 : Nat) (w : World) : Prop :=
  ∀ (l : Nat) (J : Nat → World → Prop) (Jx : World → Prop) (W : World), Keep (Off n1 n2) w W → (∀ k A B, J k A → Keep Nix A B → J k B) →
    (∀ k (hk : k < xs.length) cn W0 W1, J k W0 → Keep Nix W0 W1 → W.heap.size ≤ W0.heap.size → OwnP W1 W0.heap.size cn xs[k] → YieldAt Fence.wide 2 Try.prog l #[.agg cn.toArray] W1 (fun e W' =>
      (e = .returned (.bool true) ∧ J (k + 1) W' ∧ Keep (Off n1 n2) W1 W') ∨ (e = .returned (.bool false) ∧ Jx W'))) →
    J 0 W → CallsIn Fence.wide 3 Try.prog f (#[.func (.yield l) #[] #[]] ++ lb) W fun e W' => (∃ v, e = .returned v) ∧ (J xs.length W' ∨ Jx W')
theorem range_tells {f : FuncId} {lb : Array Value} {xs : List GPair} {n1 n2 : Nat} {gop : Operand} {p : Tmp} {assign body : Code} {Q : Exit → Act → World → Prop} {a : Act} {w : World}
    (hg : a.eval gop = .func (.func f) #[] lb) (eg : ∀ args w, (callFunc f args).run Try.prog w = .ok (.enter f args) w) (ht : Tells f lb xs n1 n2 w) (hn2 : n2 ≤ w.heap.size)
    (I : Nat → World → Prop) (Ix : Code → World → Prop) (hI : ∀ k A B, I k A → Keep (Book w.heap.size) A B → I k B) (hIx : ∀ c A B, Ix c A → Keep (Book w.heap.size) A B → Ix c B) (h0 : I 0 w)
    (round : ∀ k (hk : k < xs.length) cn W0 W, I k W0 → Keep Nix W0 W → w.heap.size + 2 ≤ W0.heap.size → OwnP W W0.heap.size cn xs[k] →
      assign.wpIn (Fence.wide.inRound (w.heap.size + 1)) 2 Try.prog (Exit.then (fun a1 W1 => Keep (Free w.heap.size n1 n2) W W1 ∧ ∀ W2, Keep (· = w.heap.size + 1) W1 W2 → W2.heap.size = W1.heap.size → body.wpIn (Fence.wide.inRound (w.heap.size + 1)) 2 Try.prog (roundQ w.heap.size n1 n2 (I (k + 1)) Ix W2) a1 W2) (fun _ _ _ => False))
        { tmps := a.tmps.setIfInBounds p (.agg cn.toArray), defers := [] } W)
    (done : ∀ W, I xs.length W → W.heap[w.heap.size]? = some (.deferred (some [])) → Q .normal { a with defers := { target := .collected w.heap.size, args := #[] } :: a.defers } W)
    (stop : ∀ c W, Ix c W → W.heap[w.heap.size]? = some (.deferred (some [])) → c.wp Try.prog Q { a with defers := { target := .collected w.heap.size, args := #[] } :: a.defers } W) :
    (Code.rangeFunc gop #[p] assign body).wp Try.prog Q a w := by
  refine (wpIn_wide (n := 4)).1 (wpIn_rangeFunc ?_)
  intro fn hfn
  generalize hD : w.heap.size = D at *
  obtain ⟨rc, hrc⟩ : ∃ rc : LoopState → Option Code → Loop, rc = fun st pe => { state := st, pending := pe, fn, tmps := a.tmps, params := #[p], assign, body, defers := D } := ⟨_, rfl⟩
  obtain ⟨w1, hw1⟩ : ∃ w1, (w.alloc (.deferred (some []))).alloc (.loop (rc .ready none)) = w1 := ⟨_, rfl⟩
  have hL1 : w1.heap[D + 1]? = some (.loop (rc .ready none)) := by
    rw [← hw1, ← hD]
    have h := World.alloc_heap_new (w.alloc (.deferred (some []))) (.loop (rc .ready none))
    rwa [World.size_alloc] at h
  have kA : Keep Nix (w.alloc (.deferred (some []))) w1 := by rw [← hw1]; exact (Keep.refl Nix _).alloc _
  have kw : Keep Nix w w1 := by rw [← hw1]; exact ((Keep.refl Nix _).alloc _).alloc _
  have hs1 : w1.heap.size = D + 2 := by rw [← hw1, World.size_alloc, World.size_alloc, hD]
  have hD1 : w1.heap[D]? = some (.deferred (some [])) := by
    rw [kA.block D (by rw [World.size_alloc]; omega) id, ← hD]; exact World.alloc_heap_new w _
  refine ⟨D + 1, [{ target := .collected D, args := #[] }], w1, { target := .fn (.func f) lb, args := #[.func (.yield (D + 1)) #[] #[]] }, w1, f, #[.func (.yield (D + 1)) #[] #[]] ++ lb, w1, ?_, ?_, fun _ _ => trivial, ?_, fun h => by simp [Fence.wide] at h, ?_⟩
  · have h := run_enterLoop_outer (P := Try.prog) (w := w) fn a.tmps #[p] assign body
    rw [hD] at h
    rw [← hw1, hrc]
    exact h
  · simp only [resolve, hg]
    simp [go_sem]
  · simp [invoke, go_sem, eg]
  have keepL : ∀ {A B : World} {S : Nat → Prop} {b : Nat} {o : Obj}, A.heap[b]? = some o → Keep S A B → ¬ S b → B.heap[b]? = some o := fun h k hs => (k.block _ (Array.getElem?_eq_some_iff.1 h).1 hs).trans h
  have hput : ∀ (A : World) (o : Obj), Keep (Book D) A (A.putObj (D + 1) o) := fun A o => (Keep.put A (D + 1) o).mono (fun b hb => .inr hb)
  refine (ht (D + 1) (fun k W => I k W ∧ W.heap[D + 1]? = some (.loop (rc .ready none)) ∧ W.heap[D]? = some (.deferred (some [])))
    (fun W => ∃ c, Ix c W ∧ W.heap[D + 1]? = some (.loop (rc .done (some c))) ∧ W.heap[D]? = some (.deferred (some []))) w1 kw.nix
    (fun k A B h kk => ⟨hI k A B h.1 kk.nix, keepL h.2.1 kk id, keepL h.2.2 kk id⟩) ?_ ⟨hI 0 _ _ h0 kw.nix, hL1, hD1⟩).mono ?_
  · rintro k hk cn W0 W ⟨hi, hl0, hd0⟩ kN hsz hcn
    rw [hs1] at hsz
    have hl := keepL hl0 kN id
    have hd := keepL hd0 kN id
    have hy := run_yield (P := Try.prog) (args := #[.agg cn.toArray]) hl (by rw [hrc]; rfl)
    rw [hrc] at hy
    refine ⟨fn, a.tmps.setIfInBounds p (.agg cn.toArray), assign, body, by simpa using hy, roundIn_of_wpIn trivial (wpIn_mono (round k hk cn W0 W hi kN hsz hcn) ?_)⟩
    rintro e a1 W1 h1
    cases e with
    | normal =>
      obtain ⟨k1, hb⟩ := h1
      have hl1 := keepL hl k1 (fun h => h.2.1 rfl)
      have hd1 := keepL hd k1 (fun h => h.1 rfl)
      refine ⟨_, run_beginRound hl1 (by rw [hrc]), ?_⟩
      have k2 := Keep.put W1 (D + 1) (.loop { rc .ready none with state := .busy })
      have hl2 : (W1.putObj (D + 1) (.loop { rc .ready none with state := .busy })).heap[D + 1]? = some (.loop { rc .ready none with state := .busy }) := World.putObj_heap_same (Array.getElem?_eq_some_iff.1 hl1).1
      have hd2 := keepL hd1 k2 (by omega)
      refine wpIn_mono (hb _ k2 World.putObj_size) ?_
      have fin : ∀ (jump : Option Code) (W3 : World), Keep (Free D n1 n2) (W1.putObj (D + 1) (.loop { rc .ready none with state := .busy })) W3 →
          (Instr.endRound (D + 1) jump).run Try.prog W3 = .ok (.bool jump.isNone) (W3.putObj (D + 1) (.loop (rc (if jump.isNone then .ready else .done) jump))) ∧
          (W3.putObj (D + 1) (.loop (rc (if jump.isNone then .ready else .done) jump))).heap[D + 1]? = some (.loop (rc (if jump.isNone then .ready else .done) jump)) ∧
          (W3.putObj (D + 1) (.loop (rc (if jump.isNone then .ready else .done) jump))).heap[D]? = some (.deferred (some [])) := fun jump W3 k3 => by
        have hl3 := keepL hl2 k3 (fun h => h.2.1 rfl)
        have hr := run_endRound (P := Try.prog) jump hl3
        rw [hrc] at hr ⊢
        exact ⟨hr, World.putObj_heap_same (Array.getElem?_eq_some_iff.1 hl3).1, keepL (keepL hd2 k3 (fun h => h.1 rfl)) (Keep.put W3 (D + 1) _) (by omega)⟩
      rintro e a3 W3 hp
      cases e with
      | normal =>
        obtain ⟨hr, hl4, hd4⟩ := fin none W3 hp.1
        refine ⟨_, _, hr, .inl ⟨rfl, ⟨hI _ _ _ hp.2 (hput _ _), hl4, hd4⟩, ?_⟩⟩
        exact (((k1.mono (fun b h => h.2.2)).trans (k2.mono (fun b (h : b = D + 1) (h2 : n1 ≤ b ∧ b < n2) => by omega))).trans (hp.1.mono (fun b h => h.2.2))).trans ((Keep.put W3 (D + 1) _).mono (fun b (h : b = D + 1) (h2 : n1 ≤ b ∧ b < n2) => by omega))
      | ret =>
        obtain ⟨hr, hl4, hd4⟩ := fin (some .ret) W3 hp.1
        exact ⟨_, _, hr, .inr ⟨rfl, .ret, hIx _ _ _ hp.2 (hput _ _), hl4, hd4⟩⟩
      | exit id =>
        obtain ⟨hr, hl4, hd4⟩ := fin (some (.exit id)) W3 hp.1
        exact ⟨_, _, hr, .inr ⟨rfl, .exit id, hIx _ _ _ hp.2 (hput _ _), hl4, hd4⟩⟩
      | goto t =>
        obtain ⟨hr, hl4, hd4⟩ := fin (some (.goto t)) W3 hp.1
        exact ⟨_, _, hr, .inr ⟨rfl, .goto t, hIx _ _ _ hp.2 (hput _ _), hl4, hd4⟩⟩
      | panic ch => exact hp.elim
      | outgrown => exact hp.elim
    | ret => exact h1.elim
    | exit id => exact h1.elim
    | goto t => exact h1.elim
    | panic ch => exact h1.elim
    | outgrown => exact h1.elim
  · rintro e W2 ⟨⟨v, rfl⟩, (⟨hi, hl, hd⟩ | ⟨c, hi, hl, hd⟩)⟩
    · have hr := run_endLoop (P := Try.prog) hl (by rw [hrc]; simp)
      rw [hrc] at hr
      exact ⟨none, _, hr, done _ (hI _ _ _ hi (hput _ _)) (keepL hd (Keep.put W2 (D + 1) _) (by omega))⟩
    · have hr := run_endLoop (P := Try.prog) hl (by rw [hrc]; simp)
      rw [hrc] at hr
      exact ⟨some c, _, hr, (wpIn_wide (n := 4)).2 (stop c _ (hIx _ _ _ hi (hput _ _)) (keepL hd (Keep.put W2 (D + 1) _) (by omega)))⟩
end Go.Proofs.Ythkocgpbpgfocaa
