/- A REGION THAT DRAWS, ITS GUARDED OPERATIONS TAKEN WITHOUT BRANCHING: what a guarded operation leaves is 'opt g v'. -/
import Derived.Test.YtpblmaklbnpbfaaLst
import Derived.Deep.RegionHeld3
namespace Go.Proofs.Ytpblmaklbnpbfaa

def opt (g : Bool) (v : Value) : Value := if g then v else undef
theorem opt_t (v : Value) : opt true v = v := rfl
theorem opt_f (v : Value) : opt false v = undef := rfl

section
variable {P : Program} {ops : Array Oper} {Q : Exit → Act → World → Prop} {md : Region.Mode} {S : World → Prop}
theorem wpAnyH_opt {i : Nat} {oi : Oper} (g : Bool) {v : Value} {fuel : Nat} {listed : Array Bool} {a : Act} {w : World} (hi : ops[i]? = some oi)
    (hs : Region.noSelect ops = true) (hf : Region.free md ops listed i = true) (hr : (Region.ready md ops listed).contains i = true)
    (hQ : ∀ c a w, Q (.panic c) (a.put oi.dst (opt g v)) w → Q (.panic c) a w)
    (hw : Region.wanted oi (yielded ops a.tmps) = g) (hS : S w)
    (hy : g = true → ∀ w, S w → (execOp a.eval oi).run P w = .ok (.value v) w)
    (h : wpAnyH P md ops Q S fuel (listed.setIfInBounds i true) (a.put oi.dst (opt g v)) w) : wpAnyH P md ops Q S (fuel + 1) listed a w := by
  refine wpAnyH_take hi hs hf hr hQ ?_ hS h
  cases g with
  | true => exact .inl ⟨hw, hy rfl⟩
  | false => exact .inr ⟨hw, rfl⟩
/-- A call that is guarded, and comes alone. -/
theorem wpAnyH_optcall {i : Nat} {oi : Oper} (g : Bool) {v : Value} (R : World → Prop) {fuel : Nat} {listed : Array Bool} {a : Act} {w : World} (hi : ops[i]? = some oi)
    (hr : Region.ready md ops listed = [i]) (hw : Region.wanted oi (yielded ops a.tmps) = g)
    (hcall : g = true → ∀ K' : Act → World → Prop, Shut (∀ w', R w' → K' (a.put oi.dst v) w') → Oper.wp P oi a w K' Q)
    (hrefl : R w) (hS : ∀ w', R w' → S w')
    (h : ∀ w', R w' → S w' → wpAnyH P md ops Q S fuel (listed.setIfInBounds i true) (a.put oi.dst (opt g v)) w') : wpAnyH P md ops Q S (fuel + 1) listed a w := by
  refine wpAnyH_ready hr (by simp) (AllReadyH.cons hi (fun K hK => ?_) AllReadyH.nil)
  cases g with
  | true =>
    rw [if_pos hw]
    exact hcall rfl K (fun w' hR => hK.out _ _ (hS w' hR) (fun hSw => h w' hR hSw))
  | false =>
    rw [if_neg (by rw [hw]; decide)]
    exact hK.out _ _ (hS w hrefl) (fun hSw => h w hrefl hSw)
end

/-- A region of a function's body, by its number. -/
def regionAt (n : Nat) : Code → Option Code
  | .region id ops d => if id = n then some (.region id ops d) else none
  | .seq a b => match regionAt n a with
    | some c => some c
    | none => regionAt n b
  | .cond _ a b => match regionAt n a with
    | some c => some c
    | none => regionAt n b
  | .block _ c => regionAt n c
  | .loop c => regionAt n c
  | .scope c => regionAt n c
  | _ => none
end Go.Proofs.Ytpblmaklbnpbfaa
