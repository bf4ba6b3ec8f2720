/- LOCK: the law's steps: what cells read as them; lists of numbers; lengths. The reading's lines written by gen.py. -/
import Derived.Test.YtfagejfcibgigaaQLpY
import Derived.Test.YtfagejfcibgigaaQSameH
import Derived.Test.YtfagejfcibgigaaQLkL
namespace Go.Proofs.Ytfagejfcibgigaa
open Go.RowKit

theorem cellsOp : Try.prog.cellsOf 56 = 5 := by kernel_rfl
/-- armoire/armoirelaw15.Op -/
structure GOp where
  fDrop : Bool
  fH : GHeld
  deriving DecidableEq
def rGOp : RD GOp := fun w p cs x => ∃ c0 c1 : List Value, cs = List.flatten [c0, c1] ∧ rBool w p c0 x.fDrop ∧ rGHeld w p c1 x.fH
theorem rGOp_lawful : Lawful rGOp 5 :=
  ⟨fun ⟨c0, c1, h, h0, h1⟩ => by rw [h]; simp only [List.flatten_cons, List.flatten_nil, List.append_nil, List.length_append, rBool_lawful.len h0, rGHeld_lawful.len h1],
   fun ⟨c0, c1, h, h0, h1⟩ k hs => ⟨c0, c1, h, rBool_lawful.keep h0 k hs, rGHeld_lawful.keep h1 k hs⟩,
   fun ⟨c0, c1, h, h0, h1⟩ hq => ⟨c0, c1, h, rBool_lawful.mono h0 hq, rGHeld_lawful.mono h1 hq⟩⟩
def GOp.size (x : GOp) : Nat := (fun _ => 1) x.fDrop + GHeld.size x.fH + 1
theorem redGOp {W : World} {m : Nat} {cs : List Value} (h : Red Try.prog W m 56 cs) : ∃ x, rGOp W (· < W.heap.size) cs x ∧ x.size ≤ m := by
  obtain ⟨hl, ms, h1, h2, h3⟩ := h.fields Try.underlying56 cellsOp
  match ms, h1 with
  | [m0, m1], _ =>
    have r0 : Red Try.prog W m0 4 ((cs.drop 0).take 1) := (congrArg (fun k => Red Try.prog W m0 4 ((cs.drop 0).take k)) (by kernel_rfl : Try.prog.cellsOf 4 = 1)).mp (h3 0 _ m0 rfl rfl)
    obtain ⟨x0, g0, s0⟩ := Red.toBool Try.underlying4 r0
    have r1 : Red Try.prog W m1 28 ((cs.drop 1).take 4) := (congrArg (fun k => Red Try.prog W m1 28 ((cs.drop 1).take k)) (by kernel_rfl : Try.prog.cellsOf 28 = 4)).mp (h3 1 _ m1 rfl rfl)
    obtain ⟨x1, g1, s1⟩ := redGHeld r1
    have hp := parts_flat cs [1, 4] 0 (by simpa using hl)
    simp only [parts, List.drop_zero, Nat.zero_add] at hp
    refine ⟨⟨x0, x1⟩, ⟨_, _, hp.symm, g0, g1⟩, ?_⟩
    simp only [List.sum_cons, List.sum_nil] at h2
    simp only [GOp.size] at *
    omega
theorem S_Op : StructT Try.prog 56 5 := ⟨⟨_, Try.underlying56⟩, by kernel_rfl⟩
theorem lda_Op (a : Act) (dst : Option Tmp) (x : Operand) (ty : TypeId) (pos : String) (after : Array Edge) (guard : Option (Nat × Bool)) : execOp a.eval { dst := dst, op := .load 56 x, type := ty, pos := pos, after := after, guard := guard } = wholeSem 56 (a.eval x) := rfl
theorem stz_Op (a : Act) (dst : Option Tmp) (x y : Operand) (ty : TypeId) (pos : String) (after : Array Edge) (guard : Option (Nat × Bool)) : execOp a.eval { dst := dst, op := .store 56 x y, type := ty, pos := pos, after := after, guard := guard } = storeSem 56 (a.eval x) (a.eval y) := rfl
theorem rGOp_open {w : World} {p : Nat → Prop} {cs : List Value} {x : GOp} (h : rGOp w p cs x) : ∃ aK cK aS cS aW cW, cs = [.bool x.fDrop, .int .u64 x.fH.fTxn, .slice aK x.fH.fKeys.length cK, .slice aS x.fH.fSpans.length cS, .slice aW x.fH.fWrites.length cW] ∧ rGHeld w p [.int .u64 x.fH.fTxn, .slice aK x.fH.fKeys.length cK, .slice aS x.fH.fSpans.length cS, .slice aW x.fH.fWrites.length cW] x.fH := by
  obtain ⟨c0, c1, rfl, h0, h1⟩ := h
  have h2 := h1
  obtain ⟨aK, cK, aS, cS, aW, cW, rfl, -⟩ := rGHeld_open h1
  exact ⟨aK, cK, aS, cS, aW, cW, by rw [h0]; rfl, h2⟩
theorem nums_R {w : World} {base n : Nat} {a : Option Addr} {cp : Nat} {xs : List Int} (own : w.ownsRow base 23 1 (.slice a n cp) n (xs.map iv)) (hn : xs.length = n) (hu : ∀ x ∈ xs, isU64 x) (hf : n ≤ far) : rList (rInt .u64) w (fun _ => True) [.slice a n cp] xs := by
  subst hn
  have e : ∀ l : List Int, (l.map (fun x => [iv x])).flatten = l.map iv := fun l => by
    induction l with
    | nil => rfl
    | cons x l ih => rw [List.map_cons, List.flatten_cons, ih, List.map_cons]; rfl
  refine ⟨a, cp, xs.map (fun x => [iv x]), rfl, by simp, ?_, (owned_bounds own).2.1, hf, fun i c x hc hx => ?_⟩
  · rw [e]; exact (Lies.of_owned own).mono (fun _ _ => trivial)
  · rw [List.getElem?_map, hx] at hc
    cases hc
    exact ⟨rfl, wf_of_isU64 (hu x (List.mem_of_getElem? hx))⟩
theorem RTab.list {w : World} {Q : Nat → Prop} {b : Nat} {L : List GHeld} {aL : Option Addr} {cL : Nat} {css : List (List Value)} (h : RTab w Q b L aL cL css) (hf : L.length ≤ far) : rList rGHeld w Q [.slice aL L.length cL] L :=
  ⟨aL, cL, css, rfl, h.els.1, (Lies.of_owned h.own).mono (fun i hi => h.qL i hi.2), (owned_bounds h.own).2.1, hf, (h.els.mono rGHeld_lawful (fun _ hi => hi.1)).2⟩
theorem RTab.made {w : World} {b : Nat} (h : RowIs w b 54 [.slice none 0 0]) : RTab w (· = b) b [] none 0 [] :=
  ⟨h, World.ownsRow_nil _ _ _ _, Els.nil _ _ _, (fun h => by cases h), (fun _ e => e ▸ h.lt), rfl, (fun _ h => by cases h)⟩
theorem put_le (L : List GHeld) (x : GHeld) : (afterPut L x).length ≤ L.length + 1 := by
  unfold afterPut
  split
  · unfold putT
    rw [List.length_append, List.length_cons]
    have e : ∀ l : List GHeld, (l.filter (fun y => decide (y.fTxn < x.fTxn))).length + (l.filter (fun y => decide (x.fTxn < y.fTxn))).length ≤ l.length := fun l => by
      induction l with
      | nil => exact Nat.le_refl _
      | cons y l ih =>
        rw [List.filter_cons, List.filter_cons, List.length_cons]
        by_cases h1 : y.fTxn < x.fTxn
        · have h2 : ¬ x.fTxn < y.fTxn := by omega
          rw [if_pos (by simpa using h1), if_neg (by simpa using h2), List.length_cons]; omega
        · rw [if_neg (by simpa using h1)]
          split
          · rw [List.length_cons]; omega
          · omega
    have := e L
    omega
  · omega
theorem U8s.mono {w : World} {p q : Nat → Prop} {a : Option Addr} {n : Nat} (h : U8s w p a n) (hq : ∀ b, p b → q b) : U8s w q a n := fun hn => by
  obtain ⟨b, off, h1, h2, r⟩ := h hn
  exact ⟨b, off, h1, hq b h2, r⟩
end Go.Proofs.Ytfagejfcibgigaa
