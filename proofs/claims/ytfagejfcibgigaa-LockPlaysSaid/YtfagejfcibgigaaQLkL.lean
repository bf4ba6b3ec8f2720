/- LOCK: small, awake. Printed by mac.py. -/
import Derived.Test.YtfagejfcibgigaaQLkK
import Derived.Lib.SlBytesConst
namespace Go.Proofs.Ytfagejfcibgigaa
open Go.RowKit Go.Shelf

def smallB (h : GHeld) : Bool := decide (h.fKeys.length < 40) && decide (h.fSpans.length < 40) && decide (h.fWrites.length < 40)
theorem smallB_F {h : GHeld} (e : smallB h = true) : smallF h := by
  unfold smallB at e
  simp only [Bool.and_eq_true, decide_eq_true_eq] at e
  exact ⟨by omega, by omega, by omega⟩
set_option maxRecDepth 100000 in
theorem small_c {p : Nat → Prop} (h : GHeld) (csh : List Value) (w : World) (hh : rGHeld w p csh h) :
    Calls Try.prog 10 #[.agg csh.toArray] w fun e w' => e = .returned (.bool (smallB h)) ∧ Keep Nix w w' := by
  obtain ⟨aK, cK, aS, cS, aW, cW, rfl, -⟩ := rGHeld_open hh
  have kk : Keep Nix w (w.alloc (.cells #[.int .u64 h.fTxn, .slice aK h.fKeys.length cK, .slice aS h.fSpans.length cS, .slice aW h.fWrites.length cW] 28)) := (Keep.refl Nix w).alloc _
  have row0 : RowIs (w.alloc (.cells #[.int .u64 h.fTxn, .slice aK h.fKeys.length cK, .slice aS h.fSpans.length cS, .slice aW h.fWrites.length cW] 28)) w.heap.size 28 [.int .u64 h.fTxn, .slice aK h.fKeys.length cK, .slice aS h.fSpans.length cS, .slice aW h.fWrites.length cW] := RowIs.alloc w _ _
  have e1 : decide (h.fKeys.length < 40) = decide ((h.fKeys.length : Int) < 40) := by simp only [decide_eq_decide]; omega
  have e2 : decide (h.fSpans.length < 40) = decide ((h.fSpans.length : Int) < 40) := by simp only [decide_eq_decide]; omega
  have e3 : decide (h.fWrites.length < 40) = decide ((h.fWrites.length : Int) < 40) := by simp only [decide_eq_decide]; omega
  obtain ⟨y, HY⟩ : ∃ y, Hid (smallB h = y) := ⟨_, rfl⟩
  rw [HY.out]
  have E : Hid ((decide ((h.fKeys.length : Int) < 40) && decide ((h.fSpans.length : Int) < 40) && decide ((h.fWrites.length : Int) < 40)) = y) := by
    show _ = _; rw [← HY.out, smallB, e1, e2, e3]
  have y1 := row0.cell 1
  (try simp only [List.getElem?_cons_succ] at y1); (try simp only [List.getElem?_cons_zero] at y1)
  have y2 := row0.cell 2
  (try simp only [List.getElem?_cons_succ] at y2); (try simp only [List.getElem?_cons_zero] at y2)
  have y3 := row0.cell 3
  (try simp only [List.getElem?_cons_succ] at y3); (try simp only [List.getElem?_cons_zero] at y3)
  clear e1 e2 e3 row0 hh
  by_cases h1 : (h.fKeys.length : Int) < 40
  · by_cases h2 : (h.fSpans.length : Int) < 40
    · obtain ⟨d, hd⟩ : ∃ d, decide ((h.fWrites.length : Int) < 40) = d := ⟨_, rfl⟩
      have E2 : Hid (y = d) := by show _ = _; rw [← E.out, hd]; simp [h1, h2]
      clear E
      go_enter Try.func10, Try.ntmps10
      go_wp2_with fail
      go_ret
      exact ⟨by rw [E2.out]; rfl, kk⟩
    · have E2 : Hid (y = false) := by show _ = _; rw [← E.out]; simp [h2]
      clear E
      go_enter Try.func10, Try.ntmps10
      go_wp2_with fail
      go_ret
      exact ⟨by rw [E2.out]; rfl, kk⟩
  · have E2 : Hid (y = false) := by show _ = _; rw [← E.out]; simp [h1]
    clear E
    go_enter Try.func10, Try.ntmps10
    go_wp2_with fail
    go_ret
    exact ⟨by rw [E2.out]; rfl, kk⟩
def a1 : GHeld := ⟨1, [[97]], [], []⟩
def a2 : GHeld := ⟨2, [], [], [⟨[97], [], false⟩]⟩
theorem nil_R {α : Type} {R : RD α} (w : World) (p : Nat → Prop) : rList R w p [.slice none 0 0] [] := ⟨none, 0, [], rfl, rfl, Lies.nil _ _ _, Nat.le_refl _, Nat.zero_le _, fun i c x h => by cases h⟩
theorem nil_B (w : World) (p : Nat → Prop) : Lies w p none (([] : List UInt8).map bv) ∧ ([] : List UInt8).length ≤ 0 ∧ ([] : List UInt8).length ≤ far := ⟨Lies.nil _ _ _, Nat.le_refl _, Nat.zero_le _⟩
theorem lies_marked (w : World) (x : Value) (t : TypeId) (fr : Nat × Nat) (p : Nat → Prop) (hp : p w.heap.size) : Lies (w.alloc (.cells #[x] t fr)) p (some ⟨w.heap.size, 0, none⟩) [x] := by
  intro _
  refine ⟨w.heap.size, 0, rfl, hp, by simp, fun j u hu => ?_⟩
  have hj : j = 0 := by have := (List.getElem?_eq_some_iff.1 hu).1; simp at this; omega
  subst hj
  have : u = x := by simpa using hu.symm
  subst this
  have hb : (w.alloc (.cells #[u] t fr)).heap[w.heap.size]? = some (.cells #[u] t fr) := World.alloc_heap_new w _
  unfold World.cell?
  rw [hb]
  rfl
set_option maxRecDepth 100000 in
theorem awake_c (w : World) : Calls Try.prog 9 #[] w fun e w' => e = .returned (.bool true) ∧ Keep Nix w w' := by
  have hcv := fun (w : World) (C : Array Value) (n c : Nat) => Lib.run_convert_bytes_const (P := Try.prog) w 42 5 C n c Try.underlying42 Try.underlying5
  go_enter Try.func9, Try.ntmps9
  go_wp2_with fail
  go_fit (new_c w)
  rintro e w1 ⟨g, O, rfl, T, hO, k1⟩
  have kP : Keep Nix w1 ((w1.alloc (.cells #[.int .u8 97] 5 (1, 2))).alloc (.cells #[.slice (some ⟨w1.heap.size, 0, none⟩) 1 1] 42)) := ((Keep.refl Nix w1).alloc _).alloc _
  have hsP : Hid ((w1.alloc (.cells #[.int .u8 97] 5 (1, 2))).heap.size = w1.heap.size + 1) := by show _ = _; simp
  have hP : rGHeld ((w1.alloc (.cells #[.int .u8 97] 5 (1, 2))).alloc (.cells #[.slice (some ⟨w1.heap.size, 0, none⟩) 1 1] 42)) (fun b => b < (((w1.alloc (.cells #[.int .u8 97] 5 (1, 2))).alloc (.cells #[.slice (some ⟨w1.heap.size, 0, none⟩) 1 1] 42))).heap.size) [.int .u64 1, .slice (some ⟨w1.heap.size + 1, 0, none⟩) 1 1, .slice none 0 0, .slice none 0 0] a1 := by
    have l1 := lies_marked w1 (.int .u8 97) 5 (1, 2) (fun b => b < (((w1.alloc (.cells #[.int .u8 97] 5 (1, 2))).alloc (.cells #[.slice (some ⟨w1.heap.size, 0, none⟩) 1 1] 42))).heap.size) (by simp; omega)
    have l2 := Lies.one (w1.alloc (.cells #[.int .u8 97] 5 (1, 2))) (.slice (some ⟨w1.heap.size, 0, none⟩) 1 1) 42 (fun b => b < (((w1.alloc (.cells #[.int .u8 97] 5 (1, 2))).alloc (.cells #[.slice (some ⟨w1.heap.size, 0, none⟩) 1 1] 42))).heap.size) (by simp)
    rw [hsP.out] at l2
    have l3 := l1.keep ((Keep.refl Nix _).alloc (.cells #[.slice (some ⟨w1.heap.size, 0, none⟩) 1 1] 42)) (fun _ _ h => h)
    refine rGHeld_mk _ _ (x := a1) ⟨by decide, by decide⟩ ⟨some ⟨w1.heap.size + 1, 0, none⟩, 1, [[.slice (some ⟨w1.heap.size, 0, none⟩) 1 1]], rfl, rfl, l2, by decide, by decide, fun i c x hc hx => ?_⟩ (nil_R _ _) (nil_R _ _)
    match i, hc, hx with
    | 0, hc, hx =>
      have hc' : c = [.slice (some ⟨w1.heap.size, 0, none⟩) 1 1] := by simpa using hc.symm
      have hx' : x = [97] := by simpa [a1] using hx.symm
      subst hc' hx'
      exact ⟨_, 1, rfl, l3, by decide, by decide⟩
    | i + 1, hc, hx => simp at hc
  have HPUT := Lib.hid (put_c O g 0 [] a1 _ ((w1.alloc (.cells #[.int .u8 97] 5 (1, 2))).alloc (.cells #[.slice (some ⟨w1.heap.size, 0, none⟩) 1 1] 42)) (T.nix kP) (by decide) hP ⟨by decide, by decide, by decide⟩ (fun b hb => hb))
  clear hP T
  go_wp2_with fail
  go_fit HPUT.out
  unfold PutPost
  rintro e w2 ⟨rfl, O2, T2, hO2, -, k2⟩
  have hm0 : Hid (mayF [] a1 = 0) := by show _ = _; decide
  rw [show afterPut [] a1 = [a1] by decide] at T2
  rw [hm0.out]
  have kk2 : Keep Nix w w2 := (k1.trans kP).then k2 (fun i hi h => by have := hO i h; omega)
  have kM : Keep Nix w2 ((w2.alloc (.cells #[.int .u8 97] 5 (1, 2))).alloc (.cells #[.slice (some ⟨w2.heap.size, 0, none⟩) 1 1, .slice none 0 0, .bool false] 48)) := ((Keep.refl Nix w2).alloc _).alloc _
  have hsM : Hid ((w2.alloc (.cells #[.int .u8 97] 5 (1, 2))).heap.size = w2.heap.size + 1) := by show _ = _; simp
  have hM : rGHeld ((w2.alloc (.cells #[.int .u8 97] 5 (1, 2))).alloc (.cells #[.slice (some ⟨w2.heap.size, 0, none⟩) 1 1, .slice none 0 0, .bool false] 48)) (fun b => b < (((w2.alloc (.cells #[.int .u8 97] 5 (1, 2))).alloc (.cells #[.slice (some ⟨w2.heap.size, 0, none⟩) 1 1, .slice none 0 0, .bool false] 48))).heap.size) [.int .u64 2, .slice none 0 0, .slice none 0 0, .slice (some ⟨w2.heap.size + 1, 0, none⟩) 1 1] a2 := by
    have l1 := lies_marked w2 (.int .u8 97) 5 (1, 2) (fun b => b < (((w2.alloc (.cells #[.int .u8 97] 5 (1, 2))).alloc (.cells #[.slice (some ⟨w2.heap.size, 0, none⟩) 1 1, .slice none 0 0, .bool false] 48))).heap.size) (by simp; omega)
    have l2 := Lies.block (w2.alloc (.cells #[.int .u8 97] 5 (1, 2))) #[.slice (some ⟨w2.heap.size, 0, none⟩) 1 1, .slice none 0 0, .bool false] 48 (fun b => b < (((w2.alloc (.cells #[.int .u8 97] 5 (1, 2))).alloc (.cells #[.slice (some ⟨w2.heap.size, 0, none⟩) 1 1, .slice none 0 0, .bool false] 48))).heap.size) (by simp)
    rw [hsM.out] at l2
    have l3 := l1.keep ((Keep.refl Nix _).alloc (.cells #[.slice (some ⟨w2.heap.size, 0, none⟩) 1 1, .slice none 0 0, .bool false] 48)) (fun _ _ h => h)
    refine rGHeld_mk _ _ (x := a2) ⟨by decide, by decide⟩ (nil_R _ _) (nil_R _ _) ⟨some ⟨w2.heap.size + 1, 0, none⟩, 1, [[.slice (some ⟨w2.heap.size, 0, none⟩) 1 1, .slice none 0 0, .bool false]], rfl, rfl, l2, by decide, by decide, fun i c x hc hx => ?_⟩
    match i, hc, hx with
    | 0, hc, hx =>
      have hc' : c = [.slice (some ⟨w2.heap.size, 0, none⟩) 1 1, .slice none 0 0, .bool false] := by simpa using hc.symm
      have hx' : x = ⟨[97], [], false⟩ := by simpa [a2] using hx.symm
      subst hc' hx'
      exact rGWrite_mk _ _ (x := ⟨[97], [], false⟩) ⟨l3, by decide, by decide⟩ (nil_B _ _)
    | i + 1, hc, hx => simp at hc
  have HMAY := Lib.hid (may_c O2 g 1 [a1] a2 _ ((w2.alloc (.cells #[.int .u8 97] 5 (1, 2))).alloc (.cells #[.slice (some ⟨w2.heap.size, 0, none⟩) 1 1, .slice none 0 0, .bool false] 48)) (T2.nix kM) hM (fun b hb => hb))
  have hm2 : Hid (mayF [a1] a2 = 12) := by show _ = _; decide
  rw [hm2.out] at HMAY
  have HT2 := Lib.hid T2
  clear HPUT T2 hM
  go_wp2_with fail
  go_fit HMAY.out
  rintro e w3 ⟨rfl, k3⟩
  have k23 := kM.trans k3
  have kQ : Keep Nix w3 (w3.alloc (.cells #[.int .u8 97] 5 (1, 2))) := (Keep.refl Nix w3).alloc _
  have lQ := lies_marked w3 (.int .u8 97) 5 (1, 2) (fun _ => True) trivial
  have HF := Lib.hid (free_c O2 g 1 [a1] (some ⟨w3.heap.size, 0, none⟩) 1 [97] (w3.alloc (.cells #[.int .u8 97] 5 (1, 2))) ((HT2.out.nix k23).nix kQ) (by decide) (by decide) lQ)
  rw [show (!([a1].any (fun h => wrB h [97]))) = true by decide] at HF
  clear HMAY lQ
  go_wp2_with fail
  go_fit HF.out
  rintro e w4 ⟨rfl, k4⟩
  go_wp2_with fail
  go_ret
  exact ⟨rfl, ((kk2.trans k23).trans kQ).trans k4⟩
end Go.Proofs.Ytfagejfcibgigaa
