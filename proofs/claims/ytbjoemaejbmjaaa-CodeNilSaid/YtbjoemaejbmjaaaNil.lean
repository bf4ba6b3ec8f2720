/- CodeNil: a nil reader. For every input. -/
import Derived.Test.YtbjoemaejbmjaaaReadLaws
namespace Go.Proofs.Ytbjoemaejbmjaaa.codeNil
open Go.RowKit Go.ChangeShapes Go.WideShapes Go.ChangeAt

set_option maxRecDepth 100000 in
theorem walk' (m : Int) (w : World) (hm : isI64 m) : Calls Try.prog 7 #[.int .i64 m] w fun e w' => e = .returned (.bool true) ∧ Keep Nix w w' := by
  go_enter Try.func7, Try.ntmps7
  go_wp2_with fail
  refine (awake_c _).mono ?_
  rintro e w1 ⟨rfl, kk⟩
  go_wp2_with (first
    | (go_at_call 21; refine (Num_nil _).mono ?_; rintro e w' ⟨rfl, rfl⟩)
    | (go_at_call 26; refine (Int_nil _).mono ?_; rintro e w' ⟨rfl, rfl⟩)
    | (go_at_call 25; refine (Small_nil _ _ hm).mono ?_; rintro e w' ⟨rfl, rfl⟩)
    | (go_at_call 27; refine (Text_nil _ _).mono ?_; rintro e w' ⟨rfl, rfl⟩)
    | (go_at_call 22; refine (Left_nil _).mono ?_; rintro e w' ⟨rfl, rfl⟩)
    | (go_at_call 23; refine (Err_nil _).mono ?_; rintro e w' ⟨rfl, rfl⟩)
    | (go_at_call 24; refine (End_nil _).mono ?_; rintro e w' ⟨rfl, rfl⟩))
  go_ret
  exact ⟨rfl, kk⟩
theorem walk {m0 : Nat} (W : World) (v0 : Value) (h0 : Arg Try.prog W m0 3 v0) :
    Calls Try.prog 7 #[v0] W fun e w' => e = .returned (.bool true) ∧ Keep Nix W w' := by
  obtain ⟨a, rfl, wa⟩ := h0.int Try.underlying3
  exact walk' a W (isI64_wf wa)
end Go.Proofs.Ytbjoemaejbmjaaa.codeNil
