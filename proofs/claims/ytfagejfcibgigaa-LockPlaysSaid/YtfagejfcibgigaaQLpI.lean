/- LOCK: the reference's table: Put. Printed by mac.py. -/
import Derived.Test.YtfagejfcibgigaaQLpI0
namespace Go.Proofs.Ytfagejfcibgigaa
open Go.RowKit

theorem onesH {w : World} {p : Nat → Prop} {css : List (List Value)} {L : List GHeld} (h : Els rGHeld w p css L) : ∀ u ∈ css.flatten, u.oneCell' = true := by
  intro u hu
  obtain ⟨c, hc, huc⟩ := List.mem_flatten.1 hu
  obtain ⟨i, hi, rfl⟩ := List.mem_iff_getElem.1 hc
  have r := h.2 i css[i] (L[i]'(by rw [← h.1]; exact hi)) (List.getElem?_eq_getElem hi) (List.getElem?_eq_getElem _)
  generalize css[i] = z at *
  obtain ⟨_, _, _, _, _, _, rfl, -⟩ := rGHeld_open r
  simp only [List.mem_cons, List.not_mem_nil, or_false] at huc
  rcases huc with rfl | rfl | rfl | rfl <;> rfl
def RPutPost (w : World) (Q : Nat → Prop) (b : Nat) (L : List GHeld) (h : GHeld) (e : Ending) (w' : World) : Prop :=
  e = .returned (.int .i64 (mayF L h)) ∧ ∃ (aL : Option Addr) (cL : Nat) (css : List (List Value)), RTab w' (fun i => Q i ∨ NewIn w w' i) b (afterPut L h) aL cL css ∧ Keep (· = b) w w'
theorem RTab.more {w w' : World} {Q : Nat → Prop} {b : Nat} {L : List GHeld} {aL : Option Addr} {cL : Nat} {css : List (List Value)} (h : RTab w' Q b L aL cL css) : RTab w' (fun i => Q i ∨ NewIn w w' i) b L aL cL css :=
  ⟨h.row, h.own, h.els.mono rGHeld_lawful (fun _ hi => ⟨.inl hi.1, hi.2⟩), h.ne, fun i hi => hi.elim (h.lt i) (·.2), .inl h.qb, fun i hi => .inl (h.qL i hi)⟩
theorem lies_rest {w : World} {aL : Option Addr} {cL k : Nat} {L : List GHeld} {css : List (List Value)} {aR : Option Addr} (h : Lies w (fun i => i < w.heap.size) aL css.flatten) (h4 : ∀ z ∈ css, z.length = 4) (hl : css.length = L.length) (hc : L.length ≤ cL) (hb : L ≠ [] → ∃ b, aL = some ⟨b, 0, none⟩) (e : (if cL = k then aL else Option.map (fun x => x.add (k * 4)) aL) = aR) : Lies w (fun i => i < w.heap.size) aR (css.drop k).flatten := by
  by_cases hk : k < L.length
  · obtain ⟨b, rfl⟩ := hb (by intro e; rw [e] at hk; exact Nat.not_lt_zero _ hk)
    rw [if_neg (by omega)] at e
    subst e
    have h1 := lies_dropN (n := 4) h h4 k
    rw [Nat.zero_add] at h1
    have e2 : Option.map (fun x : Addr => x.add (k * 4)) (some ⟨b, 0, none⟩) = some ⟨b, k * 4, none⟩ := by rw [Option.map_some, Addr.add_lit, Nat.zero_add]
    rw [e2]
    exact h1
  · rw [List.drop_of_length_le (by omega)]
    exact Lies.nil _ _ _
section
attribute [local go_sem ↓] ldz_Held stz_Held
set_option maxRecDepth 100000 in
set_option maxHeartbeats 4000000 in
theorem rput_c {p : Nat → Prop} (Q : Nat → Prop) (b : Nat) (L : List GHeld) (aL : Option Addr) (cL : Nat) (css : List (List Value)) (h : GHeld) (csh : List Value) (w : World) (T : RTab w Q b L aL cL css) (hL : L.length ≤ 90000) (ok : TabOk L) (hh : rGHeld w p csh h) (hs : smallF h) (hp : ∀ b, p b → b < w.heap.size) :
    Calls Try.prog 22 #[.pointer (some ⟨b, 0, none⟩), .agg csh.toArray] w (RPutPost w Q b L h) := by
  have hh2 := hh
  obtain ⟨aK, cK, aS, cS, aW, cW, rfl, -⟩ := rGHeld_open hh
  have kA : Keep Nix w (w.alloc (.cells #[.int .u64 h.fTxn, .slice aK h.fKeys.length cK, .slice aS h.fSpans.length cS, .slice aW h.fWrites.length cW] 28)) := (Keep.refl Nix w).alloc _
  have row0 : RowIs (w.alloc (.cells #[.int .u64 h.fTxn, .slice aK h.fKeys.length cK, .slice aS h.fSpans.length cS, .slice aW h.fWrites.length cW] 28)) w.heap.size 28 [.int .u64 h.fTxn, .slice aK h.fKeys.length cK, .slice aS h.fSpans.length cS, .slice aW h.fWrites.length cW] := RowIs.alloc w _ _
  have HM := Lib.hid (rmay_c Q b L aL cL css h [.int .u64 h.fTxn, .slice aK h.fKeys.length cK, .slice aS h.fSpans.length cS, .slice aW h.fWrites.length cW] (w.alloc (.cells #[.int .u64 h.fTxn, .slice aK h.fKeys.length cK, .slice aS h.fSpans.length cS, .slice aW h.fWrites.length cW] 28)) (T.nix kA) (by omega) (rGHeld_lawful.nix hh2 kA))
  have hld := Whole.row (P := Try.prog) S_Held rfl row0
  unfold Whole at hld
  have HT := Lib.hid T
  have HH := Lib.hid (rGHeld_lawful.nix hh2 kA)
  have HR0 := Lib.hid row0
  have KA := Lib.hid kA
  have HBW : Hid (b < w.heap.size) := T.lt b T.qb
  have HSM := Lib.hid hs
  have HPI := Lib.hid hp
  have HQL := Lib.hid T.lt
  have H4 := Lib.hid T.len4
  have HON := Lib.hid (onesH T.els)
  have HCL : Hid (css.length = L.length) := T.els.1
  have HAL : Hid (L ≠ [] → ∃ b, aL = some ⟨b, 0, none⟩) := fun hne => by
    obtain ⟨bL, _, e1, -⟩ := T.cells (k := 0) (List.length_pos_iff.2 hne)
    exact ⟨bL, e1⟩
  obtain ⟨y, HY⟩ : ∃ y, Hid (mayF L h = y) := ⟨_, rfl⟩
  unfold RPutPost
  rw [HY.out] at HM ⊢
  by_cases h0 : y = 0
  · have hq : (y != 0) = false := by simp [h0]
    have HNO : Hid (findT L h.fTxn = none) := may_none (by rw [HY.out, h0])
    have HAP : Hid (afterPut L h = putT L h) := by show _ = _; unfold afterPut; rw [HY.out, if_pos h0]
    have HRI : Hid (L.Pairwise (fun a b => a.fTxn < b.fTxn)) := ok.rising
    have HY0 := Lib.hid h0
    have hcap : L.length ≤ cL := (owned_bounds T.own).2.1
    clear h0 T hh hh2 hs kA row0 hp ok HY
    go_enter Try.func22, Try.ntmps22
    go_wp2_with fail
    go_fit HM.out
    rintro e w1 ⟨rfl, k1⟩
    have K1 := Lib.hid k1
    clear k1 HM hld
    go_wp2_with fail
    generalize (w.alloc (.cells #[.int .u64 h.fTxn, .slice aK h.fKeys.length cK, .slice aS h.fSpans.length cS, .slice aW h.fWrites.length cW] 28)) = w0 at *
    go_loopw [6] (fun i wr => ∃ k : Nat, k ≤ L.length ∧ i = .int .i64 (k : Int) ∧ Hid (∀ q (_ : q < L.length), q < k → L[q].fTxn < h.fTxn) ∧ Keep Nix w1 wr) (fun i _ => L.length - (intOf i).toNat)
    case atStart => exact ⟨0, Nat.zero_le _, rfl, fun q _ h => absurd h (Nat.not_lt_zero q), Keep.refl _ _⟩
    case round =>
      obtain ⟨k, hk, rfl, HLO, kw⟩ := hrel
      have KW := Lib.hid (K1.out.trans kw)
      have HR := Lib.hid (HT.out.nix (KA.out.trans KW.out))
      have x0 : wr.cell? ⟨b, 0, none⟩ = some (.slice aL L.length cL) := HR.out.row.cell 0
      have p0 : wr.cell? ⟨w.heap.size, 0, none⟩ = some (.int .u64 h.fTxn) := (HR0.out.keep KW.out id).cell 0
      have HKW := Lib.hid kw
      clear kw
      by_cases hlt : k < L.length
      · have hi0 : (0 : Int) ≤ (k : Int) := by omega
        have hi1 : (k : Int) < (L.length : Int) := by omega
        have hwk : IntKind.i64.wrap ((k : Int) + 1) = (k : Int) + 1 := by rw [IntKind.wrap_i64]; omega
        obtain ⟨bL, cx, e1, -, rx, hcx⟩ := HR.out.cells hlt
        have HE1 := Lib.hid e1
        rw [e1] at x0
        clear e1
        have HZL : Hid (∀ v, decide (L[k].fTxn < h.fTxn) = v → (v = true → L[k].fTxn < h.fTxn) ∧ (v = false → ¬ L[k].fTxn < h.fTxn)) := fun v e => ⟨fun e' => of_decide_eq_true (e.trans e'), fun e' => of_decide_eq_false (e.trans e')⟩
        obtain ⟨v, hv⟩ : ∃ v, decide (L[k].fTxn < h.fTxn) = v := ⟨_, rfl⟩
        have HV := Lib.hid (HZL.out v hv)
        obtain ⟨z, hz⟩ : ∃ z, L[k] = z := ⟨_, rfl⟩
        rw [hz] at rx hv
        obtain ⟨eK, fK, eS, fS, eW, fW, rfl, -⟩ := rGHeld_open rx
        have z0 := hcx 0 _ rfl
        (try simp only [Nat.add_zero] at z0)
        clear hcx rx hz HZL
        go_upto_region 5 with fail
        have kd : Keep Nix wr wr.drew := (Keep.refl Nix wr).drew
        refine wp_region_held_drew (S := (fun w' => w'.cell? ⟨b, 0, none⟩ = some (.slice (some ⟨bL, 0, none⟩) L.length cL) ∧ w'.cell? ⟨bL, k * 4, none⟩ = some (.int .u64 z.fTxn) ∧ w'.cell? ⟨w.heap.size, 0, none⟩ = some (.int .u64 h.fTxn))) (by kernel_rfl) (⟨x0, z0, p0⟩) (fun hHeld => ?_)
        clear x0 z0 p0 HR
        have KD := Lib.hid (KW.out.trans kd)
        have KX := Lib.hid (HKW.out.trans kd)
        clear kd KW HKW
        generalize wr.drew = wd at *
        refine wpAnyH_take (i := 0) (v := ?_) rfl (by kernel_rfl) (by kernel_rfl) (by kernel_rfl) (fun _ _ _ h => h) (Or.inl ⟨by kernel_rfl, ?_⟩) hHeld ?_
        rotate_left
        · intro w' hSw
          (try dsimp only at hSw)
          (try simp only [List.getElem_toArray]); (try simp only [List.getElem_cons_succ]); (try simp only [List.getElem_cons_zero])
          go_simp
          try with_reducible rfl
        (try simp only [Act.put]); (try simp only [List.getElem_toArray]); (try simp only [List.getElem_cons_succ]); (try simp only [List.getElem_cons_zero]); (try simp only [List.setIfInBounds_toArray]); (try simp only [List.set_cons_succ]); (try simp only [List.set_cons_zero])
        refine wpAnyH_take (i := 1) (v := ?_) rfl (by kernel_rfl) (by kernel_rfl) (by kernel_rfl) (fun _ _ _ h => h) (Or.inl ⟨by kernel_rfl, ?_⟩) hHeld ?_
        rotate_left
        · intro w' hSw
          (try dsimp only at hSw)
          (try simp only [List.getElem_toArray]); (try simp only [List.getElem_cons_succ]); (try simp only [List.getElem_cons_zero])
          go_simp
          try with_reducible rfl
        (try simp only [Act.put]); (try simp only [List.getElem_toArray]); (try simp only [List.getElem_cons_succ]); (try simp only [List.getElem_cons_zero]); (try simp only [List.setIfInBounds_toArray]); (try simp only [List.set_cons_succ]); (try simp only [List.set_cons_zero])
        refine wpAnyH_take (i := 2) (v := ?_) rfl (by kernel_rfl) (by kernel_rfl) (by kernel_rfl) (fun _ _ _ h => h) (Or.inl ⟨by kernel_rfl, ?_⟩) hHeld ?_
        rotate_left
        · intro w' hSw
          (try dsimp only at hSw)
          (try simp only [List.getElem_toArray]); (try simp only [List.getElem_cons_succ]); (try simp only [List.getElem_cons_zero])
          go_simp
          try with_reducible rfl
        (try simp only [Act.put]); (try simp only [List.getElem_toArray]); (try simp only [List.getElem_cons_succ]); (try simp only [List.getElem_cons_zero]); (try simp only [List.setIfInBounds_toArray]); (try simp only [List.set_cons_succ]); (try simp only [List.set_cons_zero])
        refine wpAnyH_take (i := 3) (v := ?_) rfl (by kernel_rfl) (by kernel_rfl) (by kernel_rfl) (fun _ _ _ h => h) (Or.inl ⟨by kernel_rfl, ?_⟩) hHeld ?_
        rotate_left
        · intro w' hSw
          (try dsimp only at hSw)
          (try simp only [List.getElem_toArray]); (try simp only [List.getElem_cons_succ]); (try simp only [List.getElem_cons_zero])
          go_simp
          try with_reducible rfl
        (try simp only [Act.put]); (try simp only [List.getElem_toArray]); (try simp only [List.getElem_cons_succ]); (try simp only [List.getElem_cons_zero]); (try simp only [List.setIfInBounds_toArray]); (try simp only [List.set_cons_succ]); (try simp only [List.set_cons_zero])
        refine wpAnyH_take (i := 4) (v := ?_) rfl (by kernel_rfl) (by kernel_rfl) (by kernel_rfl) (fun _ _ _ h => h) (Or.inl ⟨by kernel_rfl, ?_⟩) hHeld ?_
        rotate_left
        · intro w' hSw
          (try dsimp only at hSw)
          (try simp only [List.getElem_toArray]); (try simp only [List.getElem_cons_succ]); (try simp only [List.getElem_cons_zero])
          go_simp
          try with_reducible rfl
        (try simp only [Act.put]); (try simp only [List.getElem_toArray]); (try simp only [List.getElem_cons_succ]); (try simp only [List.getElem_cons_zero]); (try simp only [List.setIfInBounds_toArray]); (try simp only [List.set_cons_succ]); (try simp only [List.set_cons_zero])
        refine wpAnyH_take (i := 5) (v := ?_) rfl (by kernel_rfl) (by kernel_rfl) (by kernel_rfl) (fun _ _ _ h => h) (Or.inl ⟨by kernel_rfl, ?_⟩) hHeld ?_
        rotate_left
        · intro w' hSw
          (try dsimp only at hSw)
          (try simp only [List.getElem_toArray]); (try simp only [List.getElem_cons_succ]); (try simp only [List.getElem_cons_zero])
          go_simp
          try with_reducible rfl
        (try simp only [Act.put]); (try simp only [List.getElem_toArray]); (try simp only [List.getElem_cons_succ]); (try simp only [List.getElem_cons_zero]); (try simp only [List.setIfInBounds_toArray]); (try simp only [List.set_cons_succ]); (try simp only [List.set_cons_zero])
        refine wpAnyH_take (i := 6) (v := ?_) rfl (by kernel_rfl) (by kernel_rfl) (by kernel_rfl) (fun _ _ _ h => h) (Or.inl ⟨by kernel_rfl, ?_⟩) hHeld ?_
        rotate_left
        · intro w' hSw
          (try dsimp only at hSw)
          (try simp only [List.getElem_toArray]); (try simp only [List.getElem_cons_succ]); (try simp only [List.getElem_cons_zero])
          go_simp
          try with_reducible rfl
        (try simp only [Act.put]); (try simp only [List.getElem_toArray]); (try simp only [List.getElem_cons_succ]); (try simp only [List.getElem_cons_zero]); (try simp only [List.setIfInBounds_toArray]); (try simp only [List.set_cons_succ]); (try simp only [List.set_cons_zero])
        refine wpAnyH_take (i := 7) (v := ?_) rfl (by kernel_rfl) (by kernel_rfl) (by kernel_rfl) (fun _ _ _ h => h) (Or.inl ⟨by kernel_rfl, ?_⟩) hHeld ?_
        rotate_left
        · intro w' hSw
          (try dsimp only at hSw)
          (try simp only [List.getElem_toArray]); (try simp only [List.getElem_cons_succ]); (try simp only [List.getElem_cons_zero])
          go_simp
          try with_reducible rfl
        (try simp only [Act.put]); (try simp only [List.getElem_toArray]); (try simp only [List.getElem_cons_succ]); (try simp only [List.getElem_cons_zero]); (try simp only [List.setIfInBounds_toArray]); (try simp only [List.set_cons_succ]); (try simp only [List.set_cons_zero])
        refine wpAnyH_take (i := 8) (v := ?_) rfl (by kernel_rfl) (by kernel_rfl) (by kernel_rfl) (fun _ _ _ h => h) (Or.inl ⟨by kernel_rfl, ?_⟩) hHeld ?_
        rotate_left
        · intro w' hSw
          (try dsimp only at hSw)
          (try simp only [List.getElem_toArray]); (try simp only [List.getElem_cons_succ]); (try simp only [List.getElem_cons_zero])
          go_simp
          try with_reducible rfl
        (try simp only [Act.put]); (try simp only [List.getElem_toArray]); (try simp only [List.getElem_cons_succ]); (try simp only [List.getElem_cons_zero]); (try simp only [List.setIfInBounds_toArray]); (try simp only [List.set_cons_succ]); (try simp only [List.set_cons_zero])
        refine wpAnyH_take (i := 9) (v := ?_) rfl (by kernel_rfl) (by kernel_rfl) (by kernel_rfl) (fun _ _ _ h => h) (Or.inl ⟨by kernel_rfl, ?_⟩) hHeld ?_
        rotate_left
        · intro w' hSw
          (try dsimp only at hSw)
          (try simp only [List.getElem_toArray]); (try simp only [List.getElem_cons_succ]); (try simp only [List.getElem_cons_zero])
          go_simp
          try with_reducible rfl
        (try simp only [Act.put]); (try simp only [List.getElem_toArray]); (try simp only [List.getElem_cons_succ]); (try simp only [List.getElem_cons_zero]); (try simp only [List.setIfInBounds_toArray]); (try simp only [List.set_cons_succ]); (try simp only [List.set_cons_zero])
        refine wpAnyH_take (i := 10) (v := ?_) rfl (by kernel_rfl) (by kernel_rfl) (by kernel_rfl) (fun _ _ _ h => h) (Or.inl ⟨by kernel_rfl, ?_⟩) hHeld ?_
        rotate_left
        · intro w' hSw
          (try dsimp only at hSw)
          (try simp only [List.getElem_toArray]); (try simp only [List.getElem_cons_succ]); (try simp only [List.getElem_cons_zero])
          go_simp
          try with_reducible rfl
        (try simp only [Act.put]); (try simp only [List.getElem_toArray]); (try simp only [List.getElem_cons_succ]); (try simp only [List.getElem_cons_zero]); (try simp only [List.setIfInBounds_toArray]); (try simp only [List.set_cons_succ]); (try simp only [List.set_cons_zero])
        refine wpAnyH_take (i := 11) (v := ?_) rfl (by kernel_rfl) (by kernel_rfl) (by kernel_rfl) (fun _ _ _ h => h) (Or.inl ⟨by kernel_rfl, ?_⟩) hHeld ?_
        rotate_left
        · intro w' hSw
          (try dsimp only at hSw)
          (try simp only [List.getElem_toArray]); (try simp only [List.getElem_cons_succ]); (try simp only [List.getElem_cons_zero])
          go_simp
          try with_reducible rfl
        (try simp only [Act.put]); (try simp only [List.getElem_toArray]); (try simp only [List.getElem_cons_succ]); (try simp only [List.getElem_cons_zero]); (try simp only [List.setIfInBounds_toArray]); (try simp only [List.set_cons_succ]); (try simp only [List.set_cons_zero])
        refine wpAnyH_take (i := 12) (v := ?_) rfl (by kernel_rfl) (by kernel_rfl) (by kernel_rfl) (fun _ _ _ h => h) (Or.inl ⟨by kernel_rfl, ?_⟩) hHeld ?_
        rotate_left
        · intro w' hSw
          (try dsimp only at hSw)
          (try simp only [List.getElem_toArray]); (try simp only [List.getElem_cons_succ]); (try simp only [List.getElem_cons_zero])
          go_simp
          try with_reducible rfl
        (try simp only [Act.put]); (try simp only [List.getElem_toArray]); (try simp only [List.getElem_cons_succ]); (try simp only [List.getElem_cons_zero]); (try simp only [List.setIfInBounds_toArray]); (try simp only [List.set_cons_succ]); (try simp only [List.set_cons_zero])
        refine wpAnyH_take (i := 13) (v := ?_) rfl (by kernel_rfl) (by kernel_rfl) (by kernel_rfl) (fun _ _ _ h => h) (Or.inl ⟨by kernel_rfl, ?_⟩) hHeld ?_
        rotate_left
        · intro w' hSw
          (try dsimp only at hSw)
          (try simp only [List.getElem_toArray]); (try simp only [List.getElem_cons_succ]); (try simp only [List.getElem_cons_zero])
          go_simp
          try with_reducible rfl
        (try simp only [Act.put]); (try simp only [List.getElem_toArray]); (try simp only [List.getElem_cons_succ]); (try simp only [List.getElem_cons_zero]); (try simp only [List.setIfInBounds_toArray]); (try simp only [List.set_cons_succ]); (try simp only [List.set_cons_zero])
        refine wpAnyH_take (i := 14) (v := ?_) rfl (by kernel_rfl) (by kernel_rfl) (by kernel_rfl) (fun _ _ _ h => h) (Or.inl ⟨by kernel_rfl, ?_⟩) hHeld ?_
        rotate_left
        · intro w' hSw
          (try dsimp only at hSw)
          (try simp only [List.getElem_toArray]); (try simp only [List.getElem_cons_succ]); (try simp only [List.getElem_cons_zero])
          go_simp
          try with_reducible rfl
        (try simp only [Act.put]); (try simp only [List.getElem_toArray]); (try simp only [List.getElem_cons_succ]); (try simp only [List.getElem_cons_zero]); (try simp only [List.setIfInBounds_toArray]); (try simp only [List.set_cons_succ]); (try simp only [List.set_cons_zero])
        refine wpAnyH_take (i := 15) (v := ?_) rfl (by kernel_rfl) (by kernel_rfl) (by kernel_rfl) (fun _ _ _ h => h) (Or.inl ⟨by kernel_rfl, ?_⟩) hHeld ?_
        rotate_left
        · intro w' hSw
          (try dsimp only at hSw)
          (try simp only [List.getElem_toArray]); (try simp only [List.getElem_cons_succ]); (try simp only [List.getElem_cons_zero])
          go_simp
          try with_reducible rfl
        (try simp only [Act.put]); (try simp only [List.getElem_toArray]); (try simp only [List.getElem_cons_succ]); (try simp only [List.getElem_cons_zero]); (try simp only [List.setIfInBounds_toArray]); (try simp only [List.set_cons_succ]); (try simp only [List.set_cons_zero])
        refine wpAnyH_take (i := 16) (v := ?_) rfl (by kernel_rfl) (by kernel_rfl) (by kernel_rfl) (fun _ _ _ h => h) (Or.inl ⟨by kernel_rfl, ?_⟩) hHeld ?_
        rotate_left
        · intro w' hSw
          (try dsimp only at hSw)
          (try simp only [List.getElem_toArray]); (try simp only [List.getElem_cons_succ]); (try simp only [List.getElem_cons_zero])
          go_simp
          try with_reducible rfl
        (try simp only [Act.put]); (try simp only [List.getElem_toArray]); (try simp only [List.getElem_cons_succ]); (try simp only [List.getElem_cons_zero]); (try simp only [List.setIfInBounds_toArray]); (try simp only [List.set_cons_succ]); (try simp only [List.set_cons_zero])
        refine wpAnyH_take (i := 17) (v := ?_) rfl (by kernel_rfl) (by kernel_rfl) (by kernel_rfl) (fun _ _ _ h => h) (Or.inl ⟨by kernel_rfl, ?_⟩) hHeld ?_
        rotate_left
        · intro w' hSw
          (try dsimp only at hSw)
          (try simp only [List.getElem_toArray]); (try simp only [List.getElem_cons_succ]); (try simp only [List.getElem_cons_zero])
          go_simp
          try with_reducible rfl
        (try simp only [Act.put]); (try simp only [List.getElem_toArray]); (try simp only [List.getElem_cons_succ]); (try simp only [List.getElem_cons_zero]); (try simp only [List.setIfInBounds_toArray]); (try simp only [List.set_cons_succ]); (try simp only [List.set_cons_zero])
        refine wpAnyH_take (i := 18) (v := ?_) rfl (by kernel_rfl) (by kernel_rfl) (by kernel_rfl) (fun _ _ _ h => h) (Or.inl ⟨by kernel_rfl, ?_⟩) hHeld ?_
        rotate_left
        · intro w' hSw
          (try dsimp only at hSw)
          (try simp only [List.getElem_toArray]); (try simp only [List.getElem_cons_succ]); (try simp only [List.getElem_cons_zero])
          go_simp
          try with_reducible rfl
        (try simp only [Act.put]); (try simp only [List.getElem_toArray]); (try simp only [List.getElem_cons_succ]); (try simp only [List.getElem_cons_zero]); (try simp only [List.setIfInBounds_toArray]); (try simp only [List.set_cons_succ]); (try simp only [List.set_cons_zero])
        refine wpAnyH_take (i := 19) (v := ?_) rfl (by kernel_rfl) (by kernel_rfl) (by kernel_rfl) (fun _ _ _ h => h) (Or.inl ⟨by kernel_rfl, ?_⟩) hHeld ?_
        rotate_left
        · intro w' hSw
          (try dsimp only at hSw)
          (try simp only [List.getElem_toArray]); (try simp only [List.getElem_cons_succ]); (try simp only [List.getElem_cons_zero])
          go_simp
          try with_reducible rfl
        (try simp only [Act.put]); (try simp only [List.getElem_toArray]); (try simp only [List.getElem_cons_succ]); (try simp only [List.getElem_cons_zero]); (try simp only [List.setIfInBounds_toArray]); (try simp only [List.set_cons_succ]); (try simp only [List.set_cons_zero])
        refine wpAnyH_done (by kernel_rfl) ?_ _
        clear hHeld
        cases v with
        | true =>
          have HLO2 : Hid (∀ q (_ : q < L.length), q < k + 1 → L[q].fTxn < h.fTxn) := fun q h h2 => by
            by_cases e : q = k
            · subst e; exact HV.out.1 rfl
            · exact HLO.out q h (by omega)
          clear hv
          go_wp2_with fail
          go_roundw
          case rel => exact ⟨k + 1, by omega, by go_num, HLO2, KX.out⟩
          case measure => simp [intOf]; omega
        | false =>
          have HPT : Hid (afterPut L h = L.take k ++ h :: L.drop k) := by
            show _ = _
            rw [HAP.out]
            exact putT_at HRI.out HNO.out HLO.out (fun _ => HV.out.2 rfl)
          have hnk0 : (0 : Int) < ((L.length - k : Nat) : Int) := by omega
          have hnk1 : 0 < L.length - k := by omega
          have hkc : k ≤ cL := by omega
          have hki2 : (k : Int) ≤ (L.length : Int) := by omega
          clear hv HLO HV HAP
          go_upto_region 7 with fail
          have kz : Keep Nix wd wd.drew := (Keep.refl Nix _).drew
          have HKE := Lib.hid (KA.out.trans (KD.out.trans kz))
          have HTE := Lib.hid (HT.out.nix HKE.out)
          have RB := HR0.out.keep (KD.out.trans kz) id
          have HBE : Hid (b < wd.drew.heap.size) := HTE.out.lt b HTE.out.qb
          have HSS : Hid (∀ w', Keep (· = b) wd.drew w' → (wholeSem 28 (.pointer (some ⟨w.heap.size, 0, none⟩))).run Try.prog w' = .ok (.value (.agg ([.int .u64 h.fTxn, .slice aK h.fKeys.length cK, .slice aS h.fSpans.length cS, .slice aW h.fWrites.length cW] : List Value).toArray)) w') := fun w' k' => Whole.row (P := Try.prog) S_Held rfl (RB.keep k' (by have := HBW.out; omega))
          have HWE : Hid (w.heap.size < wd.drew.heap.size) := RB.lt
          have HHE := Lib.hid (rGHeld_lawful.nix HH.out (KD.out.trans kz))
          have HLI0 : Lies wd.drew (fun i => i < wd.drew.heap.size) aL css.flatten := (Lies.of_owned HTE.out.own).mono (fun i hi => (HTE.out.own.lt i hi.2).2)
          have LA := lies_takeN (n := 4) HLI0 H4.out k
          obtain ⟨aR, haR⟩ : ∃ aR, (if cL = k then aL else Option.map (fun x => x.add (k * 4)) aL) = aR := ⟨_, rfl⟩
          have LR : Lies wd.drew (fun i => i < wd.drew.heap.size) aR (css.drop k).flatten := lies_rest HLI0 H4.out HCL.out hcap HAL.out haR
          refine wp_region_held_drew (S := (fun w' => (wholeSem 28 (.pointer (some ⟨w.heap.size, 0, none⟩))).run Try.prog w' = .ok (.value (.agg ([.int .u64 h.fTxn, .slice aK h.fKeys.length cK, .slice aS h.fSpans.length cS, .slice aW h.fWrites.length cW] : List Value).toArray)) w')) (by kernel_rfl) ((HSS.out _ (Keep.refl _ _))) (fun hHeld => ?_)
          clear kz RB HLI0 KD
          generalize wd.drew = wE at *
          have kk : Keep Nix wE wE := Keep.refl _ _
          have HPP : Hid (∀ i, p i → i < wE.heap.size) := fun i hi => by have := HPI.out i hi; have := HWE.out; omega
          refine wpAnyH_take (i := 0) (v := ?_) rfl (by kernel_rfl) (by kernel_rfl) (by kernel_rfl) (fun _ _ _ h => h) (Or.inl ⟨by kernel_rfl, ?_⟩) hHeld ?_
          rotate_left
          · intro w' hSw
            (try dsimp only at hSw)
            (try simp only [List.getElem_toArray]); (try simp only [List.getElem_cons_succ]); (try simp only [List.getElem_cons_zero])
            go_simp
            try with_reducible rfl
          (try simp only [Act.put]); (try simp only [List.getElem_toArray]); (try simp only [List.getElem_cons_succ]); (try simp only [List.getElem_cons_zero]); (try simp only [List.setIfInBounds_toArray]); (try simp only [List.set_cons_succ]); (try simp only [List.set_cons_zero])
          refine wpAnyH_take (i := 1) (v := ?_) rfl (by kernel_rfl) (by kernel_rfl) (by kernel_rfl) (fun _ _ _ h => h) (Or.inl ⟨by kernel_rfl, ?_⟩) hHeld ?_
          rotate_left
          · intro w' hSw
            (try dsimp only at hSw)
            (try simp only [List.getElem_toArray]); (try simp only [List.getElem_cons_succ]); (try simp only [List.getElem_cons_zero])
            go_simp
            try with_reducible rfl
          (try simp only [Act.put]); (try simp only [List.getElem_toArray]); (try simp only [List.getElem_cons_succ]); (try simp only [List.getElem_cons_zero]); (try simp only [List.setIfInBounds_toArray]); (try simp only [List.set_cons_succ]); (try simp only [List.set_cons_zero])
          refine wpAnyH_take (i := 2) (v := ?_) rfl (by kernel_rfl) (by kernel_rfl) (by kernel_rfl) (fun _ _ _ h => h) (Or.inl ⟨by kernel_rfl, ?_⟩) hHeld ?_
          rotate_left
          · intro w' hSw
            (try dsimp only at hSw)
            (try simp only [List.getElem_toArray]); (try simp only [List.getElem_cons_succ]); (try simp only [List.getElem_cons_zero])
            go_simp
            try with_reducible rfl
          (try simp only [Act.put]); (try simp only [List.getElem_toArray]); (try simp only [List.getElem_cons_succ]); (try simp only [List.getElem_cons_zero]); (try simp only [List.setIfInBounds_toArray]); (try simp only [List.set_cons_succ]); (try simp only [List.set_cons_zero])
          refine wpAnyH_take (i := 3) (v := ?_) rfl (by kernel_rfl) (by kernel_rfl) (by kernel_rfl) (fun _ _ _ h => h) (Or.inl ⟨by kernel_rfl, ?_⟩) hHeld ?_
          rotate_left
          · intro w' hSw
            (try dsimp only at hSw)
            (try simp only [List.getElem_toArray]); (try simp only [List.getElem_cons_succ]); (try simp only [List.getElem_cons_zero])
            go_simp
            try with_reducible rfl
          (try simp only [Act.put]); (try simp only [List.getElem_toArray]); (try simp only [List.getElem_cons_succ]); (try simp only [List.getElem_cons_zero]); (try simp only [List.setIfInBounds_toArray]); (try simp only [List.set_cons_succ]); (try simp only [List.set_cons_zero])
          refine wpAnyH_take (i := 5) (v := ?_) rfl (by kernel_rfl) (by kernel_rfl) (by kernel_rfl) (fun _ _ _ h => h) (Or.inl ⟨by kernel_rfl, ?_⟩) hHeld ?_
          rotate_left
          · intro w' hSw
            (try dsimp only at hSw)
            (try simp only [List.getElem_toArray]); (try simp only [List.getElem_cons_succ]); (try simp only [List.getElem_cons_zero])
            go_simp
            try with_reducible rfl
          (try simp only [Act.put]); (try simp only [List.getElem_toArray]); (try simp only [List.getElem_cons_succ]); (try simp only [List.getElem_cons_zero]); (try simp only [List.setIfInBounds_toArray]); (try simp only [List.set_cons_succ]); (try simp only [List.set_cons_zero])
          refine wpAnyH_take (i := 8) (v := ?_) rfl (by kernel_rfl) (by kernel_rfl) (by kernel_rfl) (fun _ _ _ h => h) (Or.inl ⟨by kernel_rfl, ?_⟩) hHeld ?_
          rotate_left
          · intro w' hSw
            (try dsimp only at hSw)
            (try simp only [List.getElem_toArray]); (try simp only [List.getElem_cons_succ]); (try simp only [List.getElem_cons_zero])
            go_simp
            try with_reducible rfl
          (try simp only [Act.put]); (try simp only [List.getElem_toArray]); (try simp only [List.getElem_cons_succ]); (try simp only [List.getElem_cons_zero]); (try simp only [List.setIfInBounds_toArray]); (try simp only [List.set_cons_succ]); (try simp only [List.set_cons_zero])
          refine wpAnyH_take (i := 12) (v := ?_) rfl (by kernel_rfl) (by kernel_rfl) (by kernel_rfl) (fun _ _ _ h => h) (Or.inl ⟨by kernel_rfl, ?_⟩) hHeld ?_
          rotate_left
          · intro w' hSw
            (try dsimp only at hSw)
            (try simp only [List.getElem_toArray]); (try simp only [List.getElem_cons_succ]); (try simp only [List.getElem_cons_zero])
            go_simp
            try with_reducible rfl
          (try simp only [Act.put]); (try simp only [List.getElem_toArray]); (try simp only [List.getElem_cons_succ]); (try simp only [List.getElem_cons_zero]); (try simp only [List.setIfInBounds_toArray]); (try simp only [List.set_cons_succ]); (try simp only [List.set_cons_zero])
          refine wpAnyH_take (i := 13) (v := ?_) rfl (by kernel_rfl) (by kernel_rfl) (by kernel_rfl) (fun _ _ _ h => h) (Or.inl ⟨by kernel_rfl, ?_⟩) hHeld ?_
          rotate_left
          · intro w' hSw
            (try dsimp only at hSw)
            (try simp only [List.getElem_toArray]); (try simp only [List.getElem_cons_succ]); (try simp only [List.getElem_cons_zero])
            go_simp
            try with_reducible rfl
          (try simp only [Act.put]); (try simp only [List.getElem_toArray]); (try simp only [List.getElem_cons_succ]); (try simp only [List.getElem_cons_zero]); (try simp only [List.setIfInBounds_toArray]); (try simp only [List.set_cons_succ]); (try simp only [List.set_cons_zero])
          refine wpAnyH_take (i := 14) (v := ?_) rfl (by kernel_rfl) (by kernel_rfl) (by kernel_rfl) (fun _ _ _ h => h) (Or.inl ⟨by kernel_rfl, ?_⟩) hHeld ?_
          rotate_left
          · intro w' hSw
            (try dsimp only at hSw)
            (try simp only [List.getElem_toArray]); (try simp only [List.getElem_cons_succ]); (try simp only [List.getElem_cons_zero])
            go_simp
            try with_reducible rfl
          (try simp only [Act.put]); (try simp only [List.getElem_toArray]); (try simp only [List.getElem_cons_succ]); (try simp only [List.getElem_cons_zero]); (try simp only [List.setIfInBounds_toArray]); (try simp only [List.set_cons_succ]); (try simp only [List.set_cons_zero])
          refine wpAnyH_take (i := 16) (v := ?_) rfl (by kernel_rfl) (by kernel_rfl) (by kernel_rfl) (fun _ _ _ h => h) (Or.inl ⟨by kernel_rfl, ?_⟩) hHeld ?_
          rotate_left
          · intro w' hSw
            (try dsimp only at hSw)
            (try simp only [List.getElem_toArray]); (try simp only [List.getElem_cons_succ]); (try simp only [List.getElem_cons_zero])
            go_simp
            try with_reducible rfl
          (try simp only [Act.put]); (try simp only [List.getElem_toArray]); (try simp only [List.getElem_cons_succ]); (try simp only [List.getElem_cons_zero]); (try simp only [List.setIfInBounds_toArray]); (try simp only [List.set_cons_succ]); (try simp only [List.set_cons_zero])
          refine wpAnyH_ready (rs := [4, 15]) (by kernel_rfl) (by simp) ?_
          refine AllReadyH.cons rfl (fun K hK => ?_) (AllReadyH.cons rfl (fun K hK => ?_) AllReadyH.nil)
          · have z1 := (HTE.out.nix kk).row.cell 0
            (try simp only [List.getElem?_cons_zero] at z1)
            (try simp only [List.getElem_toArray]); (try simp only [List.getElem_cons_succ]); (try simp only [List.getElem_cons_zero])
            go_simp
            clear z1
            refine hK.out _ _ ((HSS.out _ kk.nix)) (fun hHeld => ?_)
            clear hK K
            (try simp only [Act.put]); (try simp only [List.getElem_toArray]); (try simp only [List.getElem_cons_succ]); (try simp only [List.getElem_cons_zero]); (try simp only [List.setIfInBounds_toArray]); (try simp only [List.set_cons_succ]); (try simp only [List.set_cons_zero])
            refine wpAnyH_take (i := 6) (v := ?_) rfl (by kernel_rfl) (by kernel_rfl) (by kernel_rfl) (fun _ _ _ h => h) (Or.inl ⟨by kernel_rfl, ?_⟩) hHeld ?_
            rotate_left
            · intro w' hSw
              (try dsimp only at hSw)
              (try simp only [List.getElem_toArray]); (try simp only [List.getElem_cons_succ]); (try simp only [List.getElem_cons_zero])
              go_simp
              try with_reducible rfl
            (try simp only [Act.put]); (try simp only [List.getElem_toArray]); (try simp only [List.getElem_cons_succ]); (try simp only [List.getElem_cons_zero]); (try simp only [List.setIfInBounds_toArray]); (try simp only [List.set_cons_succ]); (try simp only [List.set_cons_zero])
            refine wpAnyH_ready (rs := [7, 15]) (by kernel_rfl) (by simp) ?_
            refine AllReadyH.cons rfl (fun K hK => ?_) (AllReadyH.cons rfl (fun K hK => ?_) AllReadyH.nil)
            · obtain ⟨a1, c1, w2, hr1, own1, k1, -⟩ := appF_run T_lHeld 22 wE.heap.size (World.ownsRow_nil wE wE.heap.size 28 4) (css.take k).flatten (m := k) (c := cL) (by rw [flat_lenN (n := 4) (fun c hc => H4.out c (List.mem_of_mem_take hc)), List.length_take, HCL.out]; omega) LA (fun u hu => HON.out u (by rw [← flat_takeN H4.out] at hu; exact List.mem_of_mem_take hu)) (by unfold maxLen; omega) (by omega) (Nat.le_refl _)
              rw [Nat.zero_add] at hr1 own1
              rw [List.nil_append] at own1
              refine step_app (by kernel_rfl) _ _ rfl rfl rfl hr1 ?_
              replace k1 : Keep Nix wE w2 := k1.mono (fun b h => by cases h)
              replace kk := kk.trans k1
              have hge1 : ∀ i, OwnB (.slice a1 k c1) i → wE.heap.size ≤ i ∧ i < w2.heap.size := fun i hi => own1.lt i hi
              have hs2 := k1.size
              clear hr1 k1
              refine hK.out _ _ ((HSS.out _ kk.nix)) (fun hHeld => ?_)
              clear hK K
              (try simp only [Act.put]); (try simp only [List.getElem_toArray]); (try simp only [List.getElem_cons_succ]); (try simp only [List.getElem_cons_zero]); (try simp only [List.setIfInBounds_toArray]); (try simp only [List.set_cons_succ]); (try simp only [List.set_cons_zero])
              refine wpAnyH_ready (rs := [9, 15]) (by kernel_rfl) (by simp) ?_
              refine AllReadyH.cons rfl (fun K hK => ?_) (AllReadyH.cons rfl (fun K hK => ?_) AllReadyH.nil)
              · (try simp only [List.getElem_toArray]); (try simp only [List.getElem_cons_succ]); (try simp only [List.getElem_cons_zero])
                go_simp
                have hCC := rcopy_c h [.int .u64 h.fTxn, .slice aK h.fKeys.length cK, .slice aS h.fSpans.length cS, .slice aW h.fWrites.length cW] w2 (rGHeld_lawful.nix HHE.out kk) HSM.out (fun i hi => by have := HPP.out i hi; have := kk.size; omega)
                go_fit hCC
                rintro e w3 ⟨cn, rfl, rn, k3⟩
                have rn2 := rn
                obtain ⟨bK, dK, bS, dS, bW, dW, rfl, -⟩ := rGHeld_open rn
                replace kk := kk.trans k3
                replace own1 := owned_keep own1 k3 (fun _ _ h => h)
                have hs3 := k3.size
                clear hCC rn k3
                go_wp2_with fail
                refine hK.out _ _ ((HSS.out _ kk.nix)) (fun hHeld => ?_)
                clear hK K
                (try simp only [Act.put]); (try simp only [List.getElem_toArray]); (try simp only [List.getElem_cons_succ]); (try simp only [List.getElem_cons_zero]); (try simp only [List.setIfInBounds_toArray]); (try simp only [List.set_cons_succ]); (try simp only [List.set_cons_zero])
                refine wpAnyH_ready (rs := [10, 15]) (by kernel_rfl) (by simp) ?_
                refine AllReadyH.cons rfl (fun K hK => ?_) (AllReadyH.cons rfl (fun K hK => ?_) AllReadyH.nil)
                · (try simp only [List.getElem_toArray]); (try simp only [List.getElem_cons_succ]); (try simp only [List.getElem_cons_zero])
                  go_simp
                  have kk3 := kk
                  replace kk := kk.trans ((Keep.refl Nix w3).alloc (.cells #[.int .u64 h.fTxn, .slice bK h.fKeys.length dK, .slice bS h.fSpans.length dS, .slice bW h.fWrites.length dW] 28))
                  refine hK.out _ _ ((HSS.out _ kk.nix)) (fun hHeld => ?_)
                  clear hK K
                  (try simp only [Act.put]); (try simp only [List.getElem_toArray]); (try simp only [List.getElem_cons_succ]); (try simp only [List.getElem_cons_zero]); (try simp only [List.setIfInBounds_toArray]); (try simp only [List.set_cons_succ]); (try simp only [List.set_cons_zero])
                  refine wpAnyH_ready (rs := [11, 15]) (by kernel_rfl) (by simp) ?_
                  refine AllReadyH.cons rfl (fun K hK => ?_) (AllReadyH.cons rfl (fun K hK => ?_) AllReadyH.nil)
                  · refine step_append1 (w := w3) (cs := [.int .u64 h.fTxn, .slice bK h.fKeys.length dK, .slice bS h.fSpans.length dS, .slice bW h.fWrites.length dW]) T_lHeld (by rfl) (.tmp 42) (.tmp 45) (by rfl) wE.heap.size (by rfl) (by rfl) own1 (by rfl) (by rfl) (by unfold maxLen; omega) (by omega) kk3.size ?_
                    intro a2 c2 w4 own2 k4 hf2
                    replace kk := kk3.then k4 (fun i hi hb => by have := (hge1 i hb).1; omega)
                    have hs4 := k4.size
                    have hge2 : ∀ i, OwnB (.slice a2 (k + 1) c2) i → wE.heap.size ≤ i := fun i hi => (own2.lt i hi).1
                    refine hK.out _ _ ((HSS.out _ kk.nix)) (fun hHeld => ?_)
                    clear hK K
                    (try simp only [Act.put]); (try simp only [List.getElem_toArray]); (try simp only [List.getElem_cons_succ]); (try simp only [List.getElem_cons_zero]); (try simp only [List.setIfInBounds_toArray]); (try simp only [List.set_cons_succ]); (try simp only [List.set_cons_zero])
                    refine wpAnyH_ready (rs := [15]) (by kernel_rfl) (by simp) ?_
                    refine AllReadyH.cons rfl (fun K hK => ?_) AllReadyH.nil
                    have z1 := (HTE.out.nix kk).row.cell 0
                    (try simp only [List.getElem?_cons_zero] at z1)
                    (try simp only [List.getElem_toArray]); (try simp only [List.getElem_cons_succ]); (try simp only [List.getElem_cons_zero])
                    go_simp
                    clear z1
                    refine hK.out _ _ ((HSS.out _ kk.nix)) (fun hHeld => ?_)
                    clear hK K
                    (try simp only [Act.put]); (try simp only [List.getElem_toArray]); (try simp only [List.getElem_cons_succ]); (try simp only [List.getElem_cons_zero]); (try simp only [List.setIfInBounds_toArray]); (try simp only [List.set_cons_succ]); (try simp only [List.set_cons_zero])
                    refine wpAnyH_take (i := 17) (v := ?_) rfl (by kernel_rfl) (by kernel_rfl) (by kernel_rfl) (fun _ _ _ h => h) (Or.inl ⟨by kernel_rfl, ?_⟩) hHeld ?_
                    rotate_left
                    · intro w' hSw
                      (try dsimp only at hSw)
                      (try simp only [List.getElem_toArray]); (try simp only [List.getElem_cons_succ]); (try simp only [List.getElem_cons_zero])
                      go_simp
                      try with_reducible rfl
                    (try simp only [Act.put]); (try simp only [List.getElem_toArray]); (try simp only [List.getElem_cons_succ]); (try simp only [List.getElem_cons_zero]); (try simp only [List.setIfInBounds_toArray]); (try simp only [List.set_cons_succ]); (try simp only [List.set_cons_zero])
                    refine wpAnyH_ready (rs := [18]) (by kernel_rfl) (by simp) ?_
                    refine AllReadyH.cons rfl (fun K hK => ?_) AllReadyH.nil
                    obtain ⟨a3, c3, w5, hr3, own3, k5, hf3⟩ := appF_run T_lHeld 22 wE.heap.size own2 (css.drop k).flatten (m := (L.length - k)) (c := (cL - k)) (by rw [flat_lenN (n := 4) (fun c hc => H4.out c (List.mem_of_mem_drop hc)), List.length_drop, HCL.out]; try omega) (LR.keep kk (fun _ _ h => h)) (fun u hu => HON.out u (by rw [← flat_dropN H4.out] at hu; exact List.mem_of_mem_drop hu)) (by unfold maxLen; omega) (by omega) kk.size
                    (try rw [Nat.add_zero] at hr3 own3 hf3)
                    refine step_app (by kernel_rfl) _ _ rfl rfl rfl hr3 ?_
                    replace kk := kk.then k5 (fun i hi hb => by have := hge2 i hb; omega)
                    have hs5 := k5.size
                    refine hK.out _ _ ((HSS.out _ kk.nix)) (fun hHeld => ?_)
                    clear hK K
                    (try simp only [Act.put]); (try simp only [List.getElem_toArray]); (try simp only [List.getElem_cons_succ]); (try simp only [List.getElem_cons_zero]); (try simp only [List.setIfInBounds_toArray]); (try simp only [List.set_cons_succ]); (try simp only [List.set_cons_zero])
                    refine wpAnyH_take (i := 19) (v := ?_) rfl (by kernel_rfl) (by kernel_rfl) (by kernel_rfl) (fun _ _ _ h => h) (Or.inl ⟨by kernel_rfl, ?_⟩) hHeld ?_
                    rotate_left
                    · intro w' hSw
                      (try dsimp only at hSw)
                      (try simp only [List.getElem_toArray]); (try simp only [List.getElem_cons_succ]); (try simp only [List.getElem_cons_zero])
                      go_simp
                      try with_reducible rfl
                    (try simp only [Act.put]); (try simp only [List.getElem_toArray]); (try simp only [List.getElem_cons_succ]); (try simp only [List.getElem_cons_zero]); (try simp only [List.setIfInBounds_toArray]); (try simp only [List.set_cons_succ]); (try simp only [List.set_cons_zero])
                    refine wpAnyH_take (i := 20) (v := ?_) rfl (by kernel_rfl) (by kernel_rfl) (by kernel_rfl) (fun _ _ _ h => h) (Or.inl ⟨by kernel_rfl, ?_⟩) hHeld ?_
                    rotate_left
                    · intro w' hSw
                      (try dsimp only at hSw)
                      (try simp only [List.getElem_toArray]); (try simp only [List.getElem_cons_succ]); (try simp only [List.getElem_cons_zero])
                      go_simp
                      try with_reducible rfl
                    (try simp only [Act.put]); (try simp only [List.getElem_toArray]); (try simp only [List.getElem_cons_succ]); (try simp only [List.getElem_cons_zero]); (try simp only [List.setIfInBounds_toArray]); (try simp only [List.set_cons_succ]); (try simp only [List.set_cons_zero])
                    refine wpAnyH_ready (rs := [21]) (by kernel_rfl) (by simp) ?_
                    refine AllReadyH.cons rfl (fun K hK => ?_) AllReadyH.nil
                    have T5 := HTE.out.nix kk
                    have z1 := T5.row.cell 0
                    (try simp only [List.getElem?_cons_zero] at z1)
                    have zf := T5.row.frozen 0
                    have kS : Keep (· = b) w5 (w5.setCell ⟨b, 0, none⟩ (.slice a3 (k + 1 + (L.length - k)) c3)) := (Keep.refl (· = b) w5).setCell (p := ⟨b, 0, none⟩) (fun _ => rfl) _
                    have rowS := T5.row.set 0 (.slice a3 (k + 1 + (L.length - k)) c3)
                    (try simp only [List.set_cons_zero] at rowS)
                    (try simp only [List.getElem_toArray]); (try simp only [List.getElem_cons_succ]); (try simp only [List.getElem_cons_zero])
                    go_simp
                    clear z1 zf
                    have kT := kk.nix.trans kS
                    refine hK.out _ _ ((HSS.out _ kT)) (fun hHeld => ?_)
                    clear hK K
                    (try simp only [Act.put]); (try simp only [List.getElem_toArray]); (try simp only [List.getElem_cons_succ]); (try simp only [List.getElem_cons_zero]); (try simp only [List.setIfInBounds_toArray]); (try simp only [List.set_cons_succ]); (try simp only [List.set_cons_zero])
                    refine wpAnyH_done (by kernel_rfl) ?_ _
                    clear hHeld
                    have hge3 : ∀ i, OwnB (.slice a3 (k + 1 + (L.length - k)) c3) i → wE.heap.size ≤ i ∧ i < w5.heap.size := fun i hi => own3.lt i hi
                    have hbE := HBE.out
                    have HO := Lib.hid (owned_keep own3 kS (fun i hi e => by have := (hge3 i hi).1; omega))
                    have e1 := (HTE.out.els.takeN k).keep rGHeld_lawful kT (fun i hi => hi.2.1)
                    have e2 := (HTE.out.els.dropN k).keep rGHeld_lawful kT (fun i hi => hi.2.1)
                    have e3 := rGHeld_lawful.keep (rGHeld_lawful.keep (rGHeld_lawful.keep rn2 k4 (fun i hi h => by have := (hge1 i h).2; have := hi.1; omega)) k5 (fun i hi h => by
                      rcases hf2 i h with h | h
                      · have := (hge1 i h).2; have := hi.1; omega
                      · have := hi.2; omega)) kS (fun i hi e => by have := hi.1; omega)
                    have HE1 := Lib.hid e1
                    have HE2 := Lib.hid e2
                    have HE3 := Lib.hid e3
                    have HRS := Lib.hid rowS
                    have HKT := Lib.hid kT
                    have hsS := kS.size
                    have HF3 : Hid (∀ i, NewIn w2 w3 i → ¬ OwnB (.slice a3 (k + 1 + (L.length - k)) c3) i) := fun i hi h => by
                      rcases hf3 i h with h | h
                      · rcases hf2 i h with h | h
                        · have := (hge1 i h).2; have := hi.1; omega
                        · have := hi.2; omega
                      · have := hi.2; omega
                    clear e1 e2 e3 rowS kT kS own1 own2 own3 k4 k5 kk kk3 hf2 hf3 rn2 LA LR hr3 T5
                    go_wp2_with fail
                    go_ret
                    rw [HPT.out, HY0.out]
                    have hwE := HWE.out
                    have hlen : (L.take k ++ h :: L.drop k).length = k + 1 + (L.length - k) := by rw [List.length_append, List.length_cons, List.length_take, List.length_drop]; omega
                    refine ⟨rfl, a3, c3, css.take k ++ [.int .u64 h.fTxn, .slice bK h.fKeys.length dK, .slice bS h.fSpans.length dS, .slice bW h.fWrites.length dW] :: css.drop k, ⟨by rw [hlen]; exact HRS.out, ?_, ?_, ?_, ?_, .inl HTE.out.qb, ?_⟩, (HKE.out.nix (S := (· = b))).trans HKT.out⟩
                    · rw [hlen, List.flatten_append, List.flatten_cons, ← List.append_assoc]
                      exact own_from HO.out (Nat.zero_le _)
                    · rw [hlen]
                      have hq : ∀ i, Q i → ¬ OwnB (.slice a3 (k + 1 + (L.length - k)) c3) i := fun i hi h => by have := (hge3 i h).1; have := HQL.out i hi; omega
                      refine Els.app (HE1.out.mono rGHeld_lawful (fun i hi => ⟨.inl hi.1, hi.2.1, hq i hi.1⟩)) (Els.cons (rGHeld_lawful.mono HE3.out (fun i hi => ⟨.inr ⟨?_, ?_⟩, ?_, HF3.out i hi⟩)) (HE2.out.mono rGHeld_lawful (fun i hi => ⟨.inl hi.1, hi.2.1, hq i hi.1⟩)))
                      · have := hi.1; omega
                      · have := hi.2; omega
                      · have := hi.1; omega
                    · rw [hlen]; exact fun h => by have := (hge3 b h).1; omega
                    · intro i hi
                      rcases hi with h | h
                      · have := HQL.out i h; omega
                      · exact h.2
                    · rw [hlen]
                      intro i hi
                      have := hge3 i hi
                      exact .inr ⟨by omega, by omega⟩
                  · have z1 := (HTE.out.nix kk).row.cell 0
                    (try simp only [List.getElem?_cons_zero] at z1)
                    (try simp only [List.getElem_toArray]); (try simp only [List.getElem_cons_succ]); (try simp only [List.getElem_cons_zero])
                    go_simp
                    clear z1
                    refine hK.out _ _ ((HSS.out _ kk.nix)) (fun hHeld => ?_)
                    clear hK K
                    (try simp only [Act.put]); (try simp only [List.getElem_toArray]); (try simp only [List.getElem_cons_succ]); (try simp only [List.getElem_cons_zero]); (try simp only [List.setIfInBounds_toArray]); (try simp only [List.set_cons_succ]); (try simp only [List.set_cons_zero])
                    refine wpAnyH_take (i := 17) (v := ?_) rfl (by kernel_rfl) (by kernel_rfl) (by kernel_rfl) (fun _ _ _ h => h) (Or.inl ⟨by kernel_rfl, ?_⟩) hHeld ?_
                    rotate_left
                    · intro w' hSw
                      (try dsimp only at hSw)
                      (try simp only [List.getElem_toArray]); (try simp only [List.getElem_cons_succ]); (try simp only [List.getElem_cons_zero])
                      go_simp
                      try with_reducible rfl
                    (try simp only [Act.put]); (try simp only [List.getElem_toArray]); (try simp only [List.getElem_cons_succ]); (try simp only [List.getElem_cons_zero]); (try simp only [List.setIfInBounds_toArray]); (try simp only [List.set_cons_succ]); (try simp only [List.set_cons_zero])
                    refine wpAnyH_ready (rs := [11]) (by kernel_rfl) (by simp) ?_
                    refine AllReadyH.cons rfl (fun K hK => ?_) AllReadyH.nil
                    refine step_append1 (w := w3) (cs := [.int .u64 h.fTxn, .slice bK h.fKeys.length dK, .slice bS h.fSpans.length dS, .slice bW h.fWrites.length dW]) T_lHeld (by rfl) (.tmp 42) (.tmp 45) (by rfl) wE.heap.size (by rfl) (by rfl) own1 (by rfl) (by rfl) (by unfold maxLen; omega) (by omega) kk3.size ?_
                    intro a2 c2 w4 own2 k4 hf2
                    replace kk := kk3.then k4 (fun i hi hb => by have := (hge1 i hb).1; omega)
                    have hs4 := k4.size
                    have hge2 : ∀ i, OwnB (.slice a2 (k + 1) c2) i → wE.heap.size ≤ i := fun i hi => (own2.lt i hi).1
                    refine hK.out _ _ ((HSS.out _ kk.nix)) (fun hHeld => ?_)
                    clear hK K
                    (try simp only [Act.put]); (try simp only [List.getElem_toArray]); (try simp only [List.getElem_cons_succ]); (try simp only [List.getElem_cons_zero]); (try simp only [List.setIfInBounds_toArray]); (try simp only [List.set_cons_succ]); (try simp only [List.set_cons_zero])
                    refine wpAnyH_ready (rs := [18]) (by kernel_rfl) (by simp) ?_
                    refine AllReadyH.cons rfl (fun K hK => ?_) AllReadyH.nil
                    obtain ⟨a3, c3, w5, hr3, own3, k5, hf3⟩ := appF_run T_lHeld 22 wE.heap.size own2 (css.drop k).flatten (m := (L.length - k)) (c := (cL - k)) (by rw [flat_lenN (n := 4) (fun c hc => H4.out c (List.mem_of_mem_drop hc)), List.length_drop, HCL.out]; try omega) (LR.keep kk (fun _ _ h => h)) (fun u hu => HON.out u (by rw [← flat_dropN H4.out] at hu; exact List.mem_of_mem_drop hu)) (by unfold maxLen; omega) (by omega) kk.size
                    (try rw [Nat.add_zero] at hr3 own3 hf3)
                    refine step_app (by kernel_rfl) _ _ rfl rfl rfl hr3 ?_
                    replace kk := kk.then k5 (fun i hi hb => by have := hge2 i hb; omega)
                    have hs5 := k5.size
                    refine hK.out _ _ ((HSS.out _ kk.nix)) (fun hHeld => ?_)
                    clear hK K
                    (try simp only [Act.put]); (try simp only [List.getElem_toArray]); (try simp only [List.getElem_cons_succ]); (try simp only [List.getElem_cons_zero]); (try simp only [List.setIfInBounds_toArray]); (try simp only [List.set_cons_succ]); (try simp only [List.set_cons_zero])
                    refine wpAnyH_take (i := 19) (v := ?_) rfl (by kernel_rfl) (by kernel_rfl) (by kernel_rfl) (fun _ _ _ h => h) (Or.inl ⟨by kernel_rfl, ?_⟩) hHeld ?_
                    rotate_left
                    · intro w' hSw
                      (try dsimp only at hSw)
                      (try simp only [List.getElem_toArray]); (try simp only [List.getElem_cons_succ]); (try simp only [List.getElem_cons_zero])
                      go_simp
                      try with_reducible rfl
                    (try simp only [Act.put]); (try simp only [List.getElem_toArray]); (try simp only [List.getElem_cons_succ]); (try simp only [List.getElem_cons_zero]); (try simp only [List.setIfInBounds_toArray]); (try simp only [List.set_cons_succ]); (try simp only [List.set_cons_zero])
                    refine wpAnyH_take (i := 20) (v := ?_) rfl (by kernel_rfl) (by kernel_rfl) (by kernel_rfl) (fun _ _ _ h => h) (Or.inl ⟨by kernel_rfl, ?_⟩) hHeld ?_
                    rotate_left
                    · intro w' hSw
                      (try dsimp only at hSw)
                      (try simp only [List.getElem_toArray]); (try simp only [List.getElem_cons_succ]); (try simp only [List.getElem_cons_zero])
                      go_simp
                      try with_reducible rfl
                    (try simp only [Act.put]); (try simp only [List.getElem_toArray]); (try simp only [List.getElem_cons_succ]); (try simp only [List.getElem_cons_zero]); (try simp only [List.setIfInBounds_toArray]); (try simp only [List.set_cons_succ]); (try simp only [List.set_cons_zero])
                    refine wpAnyH_ready (rs := [21]) (by kernel_rfl) (by simp) ?_
                    refine AllReadyH.cons rfl (fun K hK => ?_) AllReadyH.nil
                    have T5 := HTE.out.nix kk
                    have z1 := T5.row.cell 0
                    (try simp only [List.getElem?_cons_zero] at z1)
                    have zf := T5.row.frozen 0
                    have kS : Keep (· = b) w5 (w5.setCell ⟨b, 0, none⟩ (.slice a3 (k + 1 + (L.length - k)) c3)) := (Keep.refl (· = b) w5).setCell (p := ⟨b, 0, none⟩) (fun _ => rfl) _
                    have rowS := T5.row.set 0 (.slice a3 (k + 1 + (L.length - k)) c3)
                    (try simp only [List.set_cons_zero] at rowS)
                    (try simp only [List.getElem_toArray]); (try simp only [List.getElem_cons_succ]); (try simp only [List.getElem_cons_zero])
                    go_simp
                    clear z1 zf
                    have kT := kk.nix.trans kS
                    refine hK.out _ _ ((HSS.out _ kT)) (fun hHeld => ?_)
                    clear hK K
                    (try simp only [Act.put]); (try simp only [List.getElem_toArray]); (try simp only [List.getElem_cons_succ]); (try simp only [List.getElem_cons_zero]); (try simp only [List.setIfInBounds_toArray]); (try simp only [List.set_cons_succ]); (try simp only [List.set_cons_zero])
                    refine wpAnyH_done (by kernel_rfl) ?_ _
                    clear hHeld
                    have hge3 : ∀ i, OwnB (.slice a3 (k + 1 + (L.length - k)) c3) i → wE.heap.size ≤ i ∧ i < w5.heap.size := fun i hi => own3.lt i hi
                    have hbE := HBE.out
                    have HO := Lib.hid (owned_keep own3 kS (fun i hi e => by have := (hge3 i hi).1; omega))
                    have e1 := (HTE.out.els.takeN k).keep rGHeld_lawful kT (fun i hi => hi.2.1)
                    have e2 := (HTE.out.els.dropN k).keep rGHeld_lawful kT (fun i hi => hi.2.1)
                    have e3 := rGHeld_lawful.keep (rGHeld_lawful.keep (rGHeld_lawful.keep rn2 k4 (fun i hi h => by have := (hge1 i h).2; have := hi.1; omega)) k5 (fun i hi h => by
                      rcases hf2 i h with h | h
                      · have := (hge1 i h).2; have := hi.1; omega
                      · have := hi.2; omega)) kS (fun i hi e => by have := hi.1; omega)
                    have HE1 := Lib.hid e1
                    have HE2 := Lib.hid e2
                    have HE3 := Lib.hid e3
                    have HRS := Lib.hid rowS
                    have HKT := Lib.hid kT
                    have hsS := kS.size
                    have HF3 : Hid (∀ i, NewIn w2 w3 i → ¬ OwnB (.slice a3 (k + 1 + (L.length - k)) c3) i) := fun i hi h => by
                      rcases hf3 i h with h | h
                      · rcases hf2 i h with h | h
                        · have := (hge1 i h).2; have := hi.1; omega
                        · have := hi.2; omega
                      · have := hi.2; omega
                    clear e1 e2 e3 rowS kT kS own1 own2 own3 k4 k5 kk kk3 hf2 hf3 rn2 LA LR hr3 T5
                    go_wp2_with fail
                    go_ret
                    rw [HPT.out, HY0.out]
                    have hwE := HWE.out
                    have hlen : (L.take k ++ h :: L.drop k).length = k + 1 + (L.length - k) := by rw [List.length_append, List.length_cons, List.length_take, List.length_drop]; omega
                    refine ⟨rfl, a3, c3, css.take k ++ [.int .u64 h.fTxn, .slice bK h.fKeys.length dK, .slice bS h.fSpans.length dS, .slice bW h.fWrites.length dW] :: css.drop k, ⟨by rw [hlen]; exact HRS.out, ?_, ?_, ?_, ?_, .inl HTE.out.qb, ?_⟩, (HKE.out.nix (S := (· = b))).trans HKT.out⟩
                    · rw [hlen, List.flatten_append, List.flatten_cons, ← List.append_assoc]
                      exact own_from HO.out (Nat.zero_le _)
                    · rw [hlen]
                      have hq : ∀ i, Q i → ¬ OwnB (.slice a3 (k + 1 + (L.length - k)) c3) i := fun i hi h => by have := (hge3 i h).1; have := HQL.out i hi; omega
                      refine Els.app (HE1.out.mono rGHeld_lawful (fun i hi => ⟨.inl hi.1, hi.2.1, hq i hi.1⟩)) (Els.cons (rGHeld_lawful.mono HE3.out (fun i hi => ⟨.inr ⟨?_, ?_⟩, ?_, HF3.out i hi⟩)) (HE2.out.mono rGHeld_lawful (fun i hi => ⟨.inl hi.1, hi.2.1, hq i hi.1⟩)))
                      · have := hi.1; omega
                      · have := hi.2; omega
                      · have := hi.1; omega
                    · rw [hlen]; exact fun h => by have := (hge3 b h).1; omega
                    · intro i hi
                      rcases hi with h | h
                      · have := HQL.out i h; omega
                      · exact h.2
                    · rw [hlen]
                      intro i hi
                      have := hge3 i hi
                      exact .inr ⟨by omega, by omega⟩
                · have z1 := (HTE.out.nix kk).row.cell 0
                  (try simp only [List.getElem?_cons_zero] at z1)
                  (try simp only [List.getElem_toArray]); (try simp only [List.getElem_cons_succ]); (try simp only [List.getElem_cons_zero])
                  go_simp
                  clear z1
                  refine hK.out _ _ ((HSS.out _ kk.nix)) (fun hHeld => ?_)
                  clear hK K
                  (try simp only [Act.put]); (try simp only [List.getElem_toArray]); (try simp only [List.getElem_cons_succ]); (try simp only [List.getElem_cons_zero]); (try simp only [List.setIfInBounds_toArray]); (try simp only [List.set_cons_succ]); (try simp only [List.set_cons_zero])
                  refine wpAnyH_take (i := 17) (v := ?_) rfl (by kernel_rfl) (by kernel_rfl) (by kernel_rfl) (fun _ _ _ h => h) (Or.inl ⟨by kernel_rfl, ?_⟩) hHeld ?_
                  rotate_left
                  · intro w' hSw
                    (try dsimp only at hSw)
                    (try simp only [List.getElem_toArray]); (try simp only [List.getElem_cons_succ]); (try simp only [List.getElem_cons_zero])
                    go_simp
                    try with_reducible rfl
                  (try simp only [Act.put]); (try simp only [List.getElem_toArray]); (try simp only [List.getElem_cons_succ]); (try simp only [List.getElem_cons_zero]); (try simp only [List.setIfInBounds_toArray]); (try simp only [List.set_cons_succ]); (try simp only [List.set_cons_zero])
                  refine wpAnyH_ready (rs := [10]) (by kernel_rfl) (by simp) ?_
                  refine AllReadyH.cons rfl (fun K hK => ?_) AllReadyH.nil
                  (try simp only [List.getElem_toArray]); (try simp only [List.getElem_cons_succ]); (try simp only [List.getElem_cons_zero])
                  go_simp
                  have kk3 := kk
                  replace kk := kk.trans ((Keep.refl Nix w3).alloc (.cells #[.int .u64 h.fTxn, .slice bK h.fKeys.length dK, .slice bS h.fSpans.length dS, .slice bW h.fWrites.length dW] 28))
                  refine hK.out _ _ ((HSS.out _ kk.nix)) (fun hHeld => ?_)
                  clear hK K
                  (try simp only [Act.put]); (try simp only [List.getElem_toArray]); (try simp only [List.getElem_cons_succ]); (try simp only [List.getElem_cons_zero]); (try simp only [List.setIfInBounds_toArray]); (try simp only [List.set_cons_succ]); (try simp only [List.set_cons_zero])
                  refine wpAnyH_ready (rs := [11]) (by kernel_rfl) (by simp) ?_
                  refine AllReadyH.cons rfl (fun K hK => ?_) AllReadyH.nil
                  refine step_append1 (w := w3) (cs := [.int .u64 h.fTxn, .slice bK h.fKeys.length dK, .slice bS h.fSpans.length dS, .slice bW h.fWrites.length dW]) T_lHeld (by rfl) (.tmp 42) (.tmp 45) (by rfl) wE.heap.size (by rfl) (by rfl) own1 (by rfl) (by rfl) (by unfold maxLen; omega) (by omega) kk3.size ?_
                  intro a2 c2 w4 own2 k4 hf2
                  replace kk := kk3.then k4 (fun i hi hb => by have := (hge1 i hb).1; omega)
                  have hs4 := k4.size
                  have hge2 : ∀ i, OwnB (.slice a2 (k + 1) c2) i → wE.heap.size ≤ i := fun i hi => (own2.lt i hi).1
                  refine hK.out _ _ ((HSS.out _ kk.nix)) (fun hHeld => ?_)
                  clear hK K
                  (try simp only [Act.put]); (try simp only [List.getElem_toArray]); (try simp only [List.getElem_cons_succ]); (try simp only [List.getElem_cons_zero]); (try simp only [List.setIfInBounds_toArray]); (try simp only [List.set_cons_succ]); (try simp only [List.set_cons_zero])
                  refine wpAnyH_ready (rs := [18]) (by kernel_rfl) (by simp) ?_
                  refine AllReadyH.cons rfl (fun K hK => ?_) AllReadyH.nil
                  obtain ⟨a3, c3, w5, hr3, own3, k5, hf3⟩ := appF_run T_lHeld 22 wE.heap.size own2 (css.drop k).flatten (m := (L.length - k)) (c := (cL - k)) (by rw [flat_lenN (n := 4) (fun c hc => H4.out c (List.mem_of_mem_drop hc)), List.length_drop, HCL.out]; try omega) (LR.keep kk (fun _ _ h => h)) (fun u hu => HON.out u (by rw [← flat_dropN H4.out] at hu; exact List.mem_of_mem_drop hu)) (by unfold maxLen; omega) (by omega) kk.size
                  (try rw [Nat.add_zero] at hr3 own3 hf3)
                  refine step_app (by kernel_rfl) _ _ rfl rfl rfl hr3 ?_
                  replace kk := kk.then k5 (fun i hi hb => by have := hge2 i hb; omega)
                  have hs5 := k5.size
                  refine hK.out _ _ ((HSS.out _ kk.nix)) (fun hHeld => ?_)
                  clear hK K
                  (try simp only [Act.put]); (try simp only [List.getElem_toArray]); (try simp only [List.getElem_cons_succ]); (try simp only [List.getElem_cons_zero]); (try simp only [List.setIfInBounds_toArray]); (try simp only [List.set_cons_succ]); (try simp only [List.set_cons_zero])
                  refine wpAnyH_take (i := 19) (v := ?_) rfl (by kernel_rfl) (by kernel_rfl) (by kernel_rfl) (fun _ _ _ h => h) (Or.inl ⟨by kernel_rfl, ?_⟩) hHeld ?_
                  rotate_left
                  · intro w' hSw
                    (try dsimp only at hSw)
                    (try simp only [List.getElem_toArray]); (try simp only [List.getElem_cons_succ]); (try simp only [List.getElem_cons_zero])
                    go_simp
                    try with_reducible rfl
                  (try simp only [Act.put]); (try simp only [List.getElem_toArray]); (try simp only [List.getElem_cons_succ]); (try simp only [List.getElem_cons_zero]); (try simp only [List.setIfInBounds_toArray]); (try simp only [List.set_cons_succ]); (try simp only [List.set_cons_zero])
                  refine wpAnyH_take (i := 20) (v := ?_) rfl (by kernel_rfl) (by kernel_rfl) (by kernel_rfl) (fun _ _ _ h => h) (Or.inl ⟨by kernel_rfl, ?_⟩) hHeld ?_
                  rotate_left
                  · intro w' hSw
                    (try dsimp only at hSw)
                    (try simp only [List.getElem_toArray]); (try simp only [List.getElem_cons_succ]); (try simp only [List.getElem_cons_zero])
                    go_simp
                    try with_reducible rfl
                  (try simp only [Act.put]); (try simp only [List.getElem_toArray]); (try simp only [List.getElem_cons_succ]); (try simp only [List.getElem_cons_zero]); (try simp only [List.setIfInBounds_toArray]); (try simp only [List.set_cons_succ]); (try simp only [List.set_cons_zero])
                  refine wpAnyH_ready (rs := [21]) (by kernel_rfl) (by simp) ?_
                  refine AllReadyH.cons rfl (fun K hK => ?_) AllReadyH.nil
                  have T5 := HTE.out.nix kk
                  have z1 := T5.row.cell 0
                  (try simp only [List.getElem?_cons_zero] at z1)
                  have zf := T5.row.frozen 0
                  have kS : Keep (· = b) w5 (w5.setCell ⟨b, 0, none⟩ (.slice a3 (k + 1 + (L.length - k)) c3)) := (Keep.refl (· = b) w5).setCell (p := ⟨b, 0, none⟩) (fun _ => rfl) _
                  have rowS := T5.row.set 0 (.slice a3 (k + 1 + (L.length - k)) c3)
                  (try simp only [List.set_cons_zero] at rowS)
                  (try simp only [List.getElem_toArray]); (try simp only [List.getElem_cons_succ]); (try simp only [List.getElem_cons_zero])
                  go_simp
                  clear z1 zf
                  have kT := kk.nix.trans kS
                  refine hK.out _ _ ((HSS.out _ kT)) (fun hHeld => ?_)
                  clear hK K
                  (try simp only [Act.put]); (try simp only [List.getElem_toArray]); (try simp only [List.getElem_cons_succ]); (try simp only [List.getElem_cons_zero]); (try simp only [List.setIfInBounds_toArray]); (try simp only [List.set_cons_succ]); (try simp only [List.set_cons_zero])
                  refine wpAnyH_done (by kernel_rfl) ?_ _
                  clear hHeld
                  have hge3 : ∀ i, OwnB (.slice a3 (k + 1 + (L.length - k)) c3) i → wE.heap.size ≤ i ∧ i < w5.heap.size := fun i hi => own3.lt i hi
                  have hbE := HBE.out
                  have HO := Lib.hid (owned_keep own3 kS (fun i hi e => by have := (hge3 i hi).1; omega))
                  have e1 := (HTE.out.els.takeN k).keep rGHeld_lawful kT (fun i hi => hi.2.1)
                  have e2 := (HTE.out.els.dropN k).keep rGHeld_lawful kT (fun i hi => hi.2.1)
                  have e3 := rGHeld_lawful.keep (rGHeld_lawful.keep (rGHeld_lawful.keep rn2 k4 (fun i hi h => by have := (hge1 i h).2; have := hi.1; omega)) k5 (fun i hi h => by
                    rcases hf2 i h with h | h
                    · have := (hge1 i h).2; have := hi.1; omega
                    · have := hi.2; omega)) kS (fun i hi e => by have := hi.1; omega)
                  have HE1 := Lib.hid e1
                  have HE2 := Lib.hid e2
                  have HE3 := Lib.hid e3
                  have HRS := Lib.hid rowS
                  have HKT := Lib.hid kT
                  have hsS := kS.size
                  have HF3 : Hid (∀ i, NewIn w2 w3 i → ¬ OwnB (.slice a3 (k + 1 + (L.length - k)) c3) i) := fun i hi h => by
                    rcases hf3 i h with h | h
                    · rcases hf2 i h with h | h
                      · have := (hge1 i h).2; have := hi.1; omega
                      · have := hi.2; omega
                    · have := hi.2; omega
                  clear e1 e2 e3 rowS kT kS own1 own2 own3 k4 k5 kk kk3 hf2 hf3 rn2 LA LR hr3 T5
                  go_wp2_with fail
                  go_ret
                  rw [HPT.out, HY0.out]
                  have hwE := HWE.out
                  have hlen : (L.take k ++ h :: L.drop k).length = k + 1 + (L.length - k) := by rw [List.length_append, List.length_cons, List.length_take, List.length_drop]; omega
                  refine ⟨rfl, a3, c3, css.take k ++ [.int .u64 h.fTxn, .slice bK h.fKeys.length dK, .slice bS h.fSpans.length dS, .slice bW h.fWrites.length dW] :: css.drop k, ⟨by rw [hlen]; exact HRS.out, ?_, ?_, ?_, ?_, .inl HTE.out.qb, ?_⟩, (HKE.out.nix (S := (· = b))).trans HKT.out⟩
                  · rw [hlen, List.flatten_append, List.flatten_cons, ← List.append_assoc]
                    exact own_from HO.out (Nat.zero_le _)
                  · rw [hlen]
                    have hq : ∀ i, Q i → ¬ OwnB (.slice a3 (k + 1 + (L.length - k)) c3) i := fun i hi h => by have := (hge3 i h).1; have := HQL.out i hi; omega
                    refine Els.app (HE1.out.mono rGHeld_lawful (fun i hi => ⟨.inl hi.1, hi.2.1, hq i hi.1⟩)) (Els.cons (rGHeld_lawful.mono HE3.out (fun i hi => ⟨.inr ⟨?_, ?_⟩, ?_, HF3.out i hi⟩)) (HE2.out.mono rGHeld_lawful (fun i hi => ⟨.inl hi.1, hi.2.1, hq i hi.1⟩)))
                    · have := hi.1; omega
                    · have := hi.2; omega
                    · have := hi.1; omega
                  · rw [hlen]; exact fun h => by have := (hge3 b h).1; omega
                  · intro i hi
                    rcases hi with h | h
                    · have := HQL.out i h; omega
                    · exact h.2
                  · rw [hlen]
                    intro i hi
                    have := hge3 i hi
                    exact .inr ⟨by omega, by omega⟩
              · have z1 := (HTE.out.nix kk).row.cell 0
                (try simp only [List.getElem?_cons_zero] at z1)
                (try simp only [List.getElem_toArray]); (try simp only [List.getElem_cons_succ]); (try simp only [List.getElem_cons_zero])
                go_simp
                clear z1
                refine hK.out _ _ ((HSS.out _ kk.nix)) (fun hHeld => ?_)
                clear hK K
                (try simp only [Act.put]); (try simp only [List.getElem_toArray]); (try simp only [List.getElem_cons_succ]); (try simp only [List.getElem_cons_zero]); (try simp only [List.setIfInBounds_toArray]); (try simp only [List.set_cons_succ]); (try simp only [List.set_cons_zero])
                refine wpAnyH_take (i := 17) (v := ?_) rfl (by kernel_rfl) (by kernel_rfl) (by kernel_rfl) (fun _ _ _ h => h) (Or.inl ⟨by kernel_rfl, ?_⟩) hHeld ?_
                rotate_left
                · intro w' hSw
                  (try dsimp only at hSw)
                  (try simp only [List.getElem_toArray]); (try simp only [List.getElem_cons_succ]); (try simp only [List.getElem_cons_zero])
                  go_simp
                  try with_reducible rfl
                (try simp only [Act.put]); (try simp only [List.getElem_toArray]); (try simp only [List.getElem_cons_succ]); (try simp only [List.getElem_cons_zero]); (try simp only [List.setIfInBounds_toArray]); (try simp only [List.set_cons_succ]); (try simp only [List.set_cons_zero])
                refine wpAnyH_ready (rs := [9]) (by kernel_rfl) (by simp) ?_
                refine AllReadyH.cons rfl (fun K hK => ?_) AllReadyH.nil
                (try simp only [List.getElem_toArray]); (try simp only [List.getElem_cons_succ]); (try simp only [List.getElem_cons_zero])
                go_simp
                have hCC := rcopy_c h [.int .u64 h.fTxn, .slice aK h.fKeys.length cK, .slice aS h.fSpans.length cS, .slice aW h.fWrites.length cW] w2 (rGHeld_lawful.nix HHE.out kk) HSM.out (fun i hi => by have := HPP.out i hi; have := kk.size; omega)
                go_fit hCC
                rintro e w3 ⟨cn, rfl, rn, k3⟩
                have rn2 := rn
                obtain ⟨bK, dK, bS, dS, bW, dW, rfl, -⟩ := rGHeld_open rn
                replace kk := kk.trans k3
                replace own1 := owned_keep own1 k3 (fun _ _ h => h)
                have hs3 := k3.size
                clear hCC rn k3
                go_wp2_with fail
                refine hK.out _ _ ((HSS.out _ kk.nix)) (fun hHeld => ?_)
                clear hK K
                (try simp only [Act.put]); (try simp only [List.getElem_toArray]); (try simp only [List.getElem_cons_succ]); (try simp only [List.getElem_cons_zero]); (try simp only [List.setIfInBounds_toArray]); (try simp only [List.set_cons_succ]); (try simp only [List.set_cons_zero])
                refine wpAnyH_ready (rs := [10]) (by kernel_rfl) (by simp) ?_
                refine AllReadyH.cons rfl (fun K hK => ?_) AllReadyH.nil
                (try simp only [List.getElem_toArray]); (try simp only [List.getElem_cons_succ]); (try simp only [List.getElem_cons_zero])
                go_simp
                have kk3 := kk
                replace kk := kk.trans ((Keep.refl Nix w3).alloc (.cells #[.int .u64 h.fTxn, .slice bK h.fKeys.length dK, .slice bS h.fSpans.length dS, .slice bW h.fWrites.length dW] 28))
                refine hK.out _ _ ((HSS.out _ kk.nix)) (fun hHeld => ?_)
                clear hK K
                (try simp only [Act.put]); (try simp only [List.getElem_toArray]); (try simp only [List.getElem_cons_succ]); (try simp only [List.getElem_cons_zero]); (try simp only [List.setIfInBounds_toArray]); (try simp only [List.set_cons_succ]); (try simp only [List.set_cons_zero])
                refine wpAnyH_ready (rs := [11]) (by kernel_rfl) (by simp) ?_
                refine AllReadyH.cons rfl (fun K hK => ?_) AllReadyH.nil
                refine step_append1 (w := w3) (cs := [.int .u64 h.fTxn, .slice bK h.fKeys.length dK, .slice bS h.fSpans.length dS, .slice bW h.fWrites.length dW]) T_lHeld (by rfl) (.tmp 42) (.tmp 45) (by rfl) wE.heap.size (by rfl) (by rfl) own1 (by rfl) (by rfl) (by unfold maxLen; omega) (by omega) kk3.size ?_
                intro a2 c2 w4 own2 k4 hf2
                replace kk := kk3.then k4 (fun i hi hb => by have := (hge1 i hb).1; omega)
                have hs4 := k4.size
                have hge2 : ∀ i, OwnB (.slice a2 (k + 1) c2) i → wE.heap.size ≤ i := fun i hi => (own2.lt i hi).1
                refine hK.out _ _ ((HSS.out _ kk.nix)) (fun hHeld => ?_)
                clear hK K
                (try simp only [Act.put]); (try simp only [List.getElem_toArray]); (try simp only [List.getElem_cons_succ]); (try simp only [List.getElem_cons_zero]); (try simp only [List.setIfInBounds_toArray]); (try simp only [List.set_cons_succ]); (try simp only [List.set_cons_zero])
                refine wpAnyH_ready (rs := [18]) (by kernel_rfl) (by simp) ?_
                refine AllReadyH.cons rfl (fun K hK => ?_) AllReadyH.nil
                obtain ⟨a3, c3, w5, hr3, own3, k5, hf3⟩ := appF_run T_lHeld 22 wE.heap.size own2 (css.drop k).flatten (m := (L.length - k)) (c := (cL - k)) (by rw [flat_lenN (n := 4) (fun c hc => H4.out c (List.mem_of_mem_drop hc)), List.length_drop, HCL.out]; try omega) (LR.keep kk (fun _ _ h => h)) (fun u hu => HON.out u (by rw [← flat_dropN H4.out] at hu; exact List.mem_of_mem_drop hu)) (by unfold maxLen; omega) (by omega) kk.size
                (try rw [Nat.add_zero] at hr3 own3 hf3)
                refine step_app (by kernel_rfl) _ _ rfl rfl rfl hr3 ?_
                replace kk := kk.then k5 (fun i hi hb => by have := hge2 i hb; omega)
                have hs5 := k5.size
                refine hK.out _ _ ((HSS.out _ kk.nix)) (fun hHeld => ?_)
                clear hK K
                (try simp only [Act.put]); (try simp only [List.getElem_toArray]); (try simp only [List.getElem_cons_succ]); (try simp only [List.getElem_cons_zero]); (try simp only [List.setIfInBounds_toArray]); (try simp only [List.set_cons_succ]); (try simp only [List.set_cons_zero])
                refine wpAnyH_take (i := 19) (v := ?_) rfl (by kernel_rfl) (by kernel_rfl) (by kernel_rfl) (fun _ _ _ h => h) (Or.inl ⟨by kernel_rfl, ?_⟩) hHeld ?_
                rotate_left
                · intro w' hSw
                  (try dsimp only at hSw)
                  (try simp only [List.getElem_toArray]); (try simp only [List.getElem_cons_succ]); (try simp only [List.getElem_cons_zero])
                  go_simp
                  try with_reducible rfl
                (try simp only [Act.put]); (try simp only [List.getElem_toArray]); (try simp only [List.getElem_cons_succ]); (try simp only [List.getElem_cons_zero]); (try simp only [List.setIfInBounds_toArray]); (try simp only [List.set_cons_succ]); (try simp only [List.set_cons_zero])
                refine wpAnyH_take (i := 20) (v := ?_) rfl (by kernel_rfl) (by kernel_rfl) (by kernel_rfl) (fun _ _ _ h => h) (Or.inl ⟨by kernel_rfl, ?_⟩) hHeld ?_
                rotate_left
                · intro w' hSw
                  (try dsimp only at hSw)
                  (try simp only [List.getElem_toArray]); (try simp only [List.getElem_cons_succ]); (try simp only [List.getElem_cons_zero])
                  go_simp
                  try with_reducible rfl
                (try simp only [Act.put]); (try simp only [List.getElem_toArray]); (try simp only [List.getElem_cons_succ]); (try simp only [List.getElem_cons_zero]); (try simp only [List.setIfInBounds_toArray]); (try simp only [List.set_cons_succ]); (try simp only [List.set_cons_zero])
                refine wpAnyH_ready (rs := [21]) (by kernel_rfl) (by simp) ?_
                refine AllReadyH.cons rfl (fun K hK => ?_) AllReadyH.nil
                have T5 := HTE.out.nix kk
                have z1 := T5.row.cell 0
                (try simp only [List.getElem?_cons_zero] at z1)
                have zf := T5.row.frozen 0
                have kS : Keep (· = b) w5 (w5.setCell ⟨b, 0, none⟩ (.slice a3 (k + 1 + (L.length - k)) c3)) := (Keep.refl (· = b) w5).setCell (p := ⟨b, 0, none⟩) (fun _ => rfl) _
                have rowS := T5.row.set 0 (.slice a3 (k + 1 + (L.length - k)) c3)
                (try simp only [List.set_cons_zero] at rowS)
                (try simp only [List.getElem_toArray]); (try simp only [List.getElem_cons_succ]); (try simp only [List.getElem_cons_zero])
                go_simp
                clear z1 zf
                have kT := kk.nix.trans kS
                refine hK.out _ _ ((HSS.out _ kT)) (fun hHeld => ?_)
                clear hK K
                (try simp only [Act.put]); (try simp only [List.getElem_toArray]); (try simp only [List.getElem_cons_succ]); (try simp only [List.getElem_cons_zero]); (try simp only [List.setIfInBounds_toArray]); (try simp only [List.set_cons_succ]); (try simp only [List.set_cons_zero])
                refine wpAnyH_done (by kernel_rfl) ?_ _
                clear hHeld
                have hge3 : ∀ i, OwnB (.slice a3 (k + 1 + (L.length - k)) c3) i → wE.heap.size ≤ i ∧ i < w5.heap.size := fun i hi => own3.lt i hi
                have hbE := HBE.out
                have HO := Lib.hid (owned_keep own3 kS (fun i hi e => by have := (hge3 i hi).1; omega))
                have e1 := (HTE.out.els.takeN k).keep rGHeld_lawful kT (fun i hi => hi.2.1)
                have e2 := (HTE.out.els.dropN k).keep rGHeld_lawful kT (fun i hi => hi.2.1)
                have e3 := rGHeld_lawful.keep (rGHeld_lawful.keep (rGHeld_lawful.keep rn2 k4 (fun i hi h => by have := (hge1 i h).2; have := hi.1; omega)) k5 (fun i hi h => by
                  rcases hf2 i h with h | h
                  · have := (hge1 i h).2; have := hi.1; omega
                  · have := hi.2; omega)) kS (fun i hi e => by have := hi.1; omega)
                have HE1 := Lib.hid e1
                have HE2 := Lib.hid e2
                have HE3 := Lib.hid e3
                have HRS := Lib.hid rowS
                have HKT := Lib.hid kT
                have hsS := kS.size
                have HF3 : Hid (∀ i, NewIn w2 w3 i → ¬ OwnB (.slice a3 (k + 1 + (L.length - k)) c3) i) := fun i hi h => by
                  rcases hf3 i h with h | h
                  · rcases hf2 i h with h | h
                    · have := (hge1 i h).2; have := hi.1; omega
                    · have := hi.2; omega
                  · have := hi.2; omega
                clear e1 e2 e3 rowS kT kS own1 own2 own3 k4 k5 kk kk3 hf2 hf3 rn2 LA LR hr3 T5
                go_wp2_with fail
                go_ret
                rw [HPT.out, HY0.out]
                have hwE := HWE.out
                have hlen : (L.take k ++ h :: L.drop k).length = k + 1 + (L.length - k) := by rw [List.length_append, List.length_cons, List.length_take, List.length_drop]; omega
                refine ⟨rfl, a3, c3, css.take k ++ [.int .u64 h.fTxn, .slice bK h.fKeys.length dK, .slice bS h.fSpans.length dS, .slice bW h.fWrites.length dW] :: css.drop k, ⟨by rw [hlen]; exact HRS.out, ?_, ?_, ?_, ?_, .inl HTE.out.qb, ?_⟩, (HKE.out.nix (S := (· = b))).trans HKT.out⟩
                · rw [hlen, List.flatten_append, List.flatten_cons, ← List.append_assoc]
                  exact own_from HO.out (Nat.zero_le _)
                · rw [hlen]
                  have hq : ∀ i, Q i → ¬ OwnB (.slice a3 (k + 1 + (L.length - k)) c3) i := fun i hi h => by have := (hge3 i h).1; have := HQL.out i hi; omega
                  refine Els.app (HE1.out.mono rGHeld_lawful (fun i hi => ⟨.inl hi.1, hi.2.1, hq i hi.1⟩)) (Els.cons (rGHeld_lawful.mono HE3.out (fun i hi => ⟨.inr ⟨?_, ?_⟩, ?_, HF3.out i hi⟩)) (HE2.out.mono rGHeld_lawful (fun i hi => ⟨.inl hi.1, hi.2.1, hq i hi.1⟩)))
                  · have := hi.1; omega
                  · have := hi.2; omega
                  · have := hi.1; omega
                · rw [hlen]; exact fun h => by have := (hge3 b h).1; omega
                · intro i hi
                  rcases hi with h | h
                  · have := HQL.out i h; omega
                  · exact h.2
                · rw [hlen]
                  intro i hi
                  have := hge3 i hi
                  exact .inr ⟨by omega, by omega⟩
            · have z1 := (HTE.out.nix kk).row.cell 0
              (try simp only [List.getElem?_cons_zero] at z1)
              (try simp only [List.getElem_toArray]); (try simp only [List.getElem_cons_succ]); (try simp only [List.getElem_cons_zero])
              go_simp
              clear z1
              refine hK.out _ _ ((HSS.out _ kk.nix)) (fun hHeld => ?_)
              clear hK K
              (try simp only [Act.put]); (try simp only [List.getElem_toArray]); (try simp only [List.getElem_cons_succ]); (try simp only [List.getElem_cons_zero]); (try simp only [List.setIfInBounds_toArray]); (try simp only [List.set_cons_succ]); (try simp only [List.set_cons_zero])
              refine wpAnyH_take (i := 17) (v := ?_) rfl (by kernel_rfl) (by kernel_rfl) (by kernel_rfl) (fun _ _ _ h => h) (Or.inl ⟨by kernel_rfl, ?_⟩) hHeld ?_
              rotate_left
              · intro w' hSw
                (try dsimp only at hSw)
                (try simp only [List.getElem_toArray]); (try simp only [List.getElem_cons_succ]); (try simp only [List.getElem_cons_zero])
                go_simp
                try with_reducible rfl
              (try simp only [Act.put]); (try simp only [List.getElem_toArray]); (try simp only [List.getElem_cons_succ]); (try simp only [List.getElem_cons_zero]); (try simp only [List.setIfInBounds_toArray]); (try simp only [List.set_cons_succ]); (try simp only [List.set_cons_zero])
              refine wpAnyH_ready (rs := [7]) (by kernel_rfl) (by simp) ?_
              refine AllReadyH.cons rfl (fun K hK => ?_) AllReadyH.nil
              obtain ⟨a1, c1, w2, hr1, own1, k1, -⟩ := appF_run T_lHeld 22 wE.heap.size (World.ownsRow_nil wE wE.heap.size 28 4) (css.take k).flatten (m := k) (c := cL) (by rw [flat_lenN (n := 4) (fun c hc => H4.out c (List.mem_of_mem_take hc)), List.length_take, HCL.out]; omega) LA (fun u hu => HON.out u (by rw [← flat_takeN H4.out] at hu; exact List.mem_of_mem_take hu)) (by unfold maxLen; omega) (by omega) (Nat.le_refl _)
              rw [Nat.zero_add] at hr1 own1
              rw [List.nil_append] at own1
              refine step_app (by kernel_rfl) _ _ rfl rfl rfl hr1 ?_
              replace k1 : Keep Nix wE w2 := k1.mono (fun b h => by cases h)
              replace kk := kk.trans k1
              have hge1 : ∀ i, OwnB (.slice a1 k c1) i → wE.heap.size ≤ i ∧ i < w2.heap.size := fun i hi => own1.lt i hi
              have hs2 := k1.size
              clear hr1 k1
              refine hK.out _ _ ((HSS.out _ kk.nix)) (fun hHeld => ?_)
              clear hK K
              (try simp only [Act.put]); (try simp only [List.getElem_toArray]); (try simp only [List.getElem_cons_succ]); (try simp only [List.getElem_cons_zero]); (try simp only [List.setIfInBounds_toArray]); (try simp only [List.set_cons_succ]); (try simp only [List.set_cons_zero])
              refine wpAnyH_ready (rs := [9]) (by kernel_rfl) (by simp) ?_
              refine AllReadyH.cons rfl (fun K hK => ?_) AllReadyH.nil
              (try simp only [List.getElem_toArray]); (try simp only [List.getElem_cons_succ]); (try simp only [List.getElem_cons_zero])
              go_simp
              have hCC := rcopy_c h [.int .u64 h.fTxn, .slice aK h.fKeys.length cK, .slice aS h.fSpans.length cS, .slice aW h.fWrites.length cW] w2 (rGHeld_lawful.nix HHE.out kk) HSM.out (fun i hi => by have := HPP.out i hi; have := kk.size; omega)
              go_fit hCC
              rintro e w3 ⟨cn, rfl, rn, k3⟩
              have rn2 := rn
              obtain ⟨bK, dK, bS, dS, bW, dW, rfl, -⟩ := rGHeld_open rn
              replace kk := kk.trans k3
              replace own1 := owned_keep own1 k3 (fun _ _ h => h)
              have hs3 := k3.size
              clear hCC rn k3
              go_wp2_with fail
              refine hK.out _ _ ((HSS.out _ kk.nix)) (fun hHeld => ?_)
              clear hK K
              (try simp only [Act.put]); (try simp only [List.getElem_toArray]); (try simp only [List.getElem_cons_succ]); (try simp only [List.getElem_cons_zero]); (try simp only [List.setIfInBounds_toArray]); (try simp only [List.set_cons_succ]); (try simp only [List.set_cons_zero])
              refine wpAnyH_ready (rs := [10]) (by kernel_rfl) (by simp) ?_
              refine AllReadyH.cons rfl (fun K hK => ?_) AllReadyH.nil
              (try simp only [List.getElem_toArray]); (try simp only [List.getElem_cons_succ]); (try simp only [List.getElem_cons_zero])
              go_simp
              have kk3 := kk
              replace kk := kk.trans ((Keep.refl Nix w3).alloc (.cells #[.int .u64 h.fTxn, .slice bK h.fKeys.length dK, .slice bS h.fSpans.length dS, .slice bW h.fWrites.length dW] 28))
              refine hK.out _ _ ((HSS.out _ kk.nix)) (fun hHeld => ?_)
              clear hK K
              (try simp only [Act.put]); (try simp only [List.getElem_toArray]); (try simp only [List.getElem_cons_succ]); (try simp only [List.getElem_cons_zero]); (try simp only [List.setIfInBounds_toArray]); (try simp only [List.set_cons_succ]); (try simp only [List.set_cons_zero])
              refine wpAnyH_ready (rs := [11]) (by kernel_rfl) (by simp) ?_
              refine AllReadyH.cons rfl (fun K hK => ?_) AllReadyH.nil
              refine step_append1 (w := w3) (cs := [.int .u64 h.fTxn, .slice bK h.fKeys.length dK, .slice bS h.fSpans.length dS, .slice bW h.fWrites.length dW]) T_lHeld (by rfl) (.tmp 42) (.tmp 45) (by rfl) wE.heap.size (by rfl) (by rfl) own1 (by rfl) (by rfl) (by unfold maxLen; omega) (by omega) kk3.size ?_
              intro a2 c2 w4 own2 k4 hf2
              replace kk := kk3.then k4 (fun i hi hb => by have := (hge1 i hb).1; omega)
              have hs4 := k4.size
              have hge2 : ∀ i, OwnB (.slice a2 (k + 1) c2) i → wE.heap.size ≤ i := fun i hi => (own2.lt i hi).1
              refine hK.out _ _ ((HSS.out _ kk.nix)) (fun hHeld => ?_)
              clear hK K
              (try simp only [Act.put]); (try simp only [List.getElem_toArray]); (try simp only [List.getElem_cons_succ]); (try simp only [List.getElem_cons_zero]); (try simp only [List.setIfInBounds_toArray]); (try simp only [List.set_cons_succ]); (try simp only [List.set_cons_zero])
              refine wpAnyH_ready (rs := [18]) (by kernel_rfl) (by simp) ?_
              refine AllReadyH.cons rfl (fun K hK => ?_) AllReadyH.nil
              obtain ⟨a3, c3, w5, hr3, own3, k5, hf3⟩ := appF_run T_lHeld 22 wE.heap.size own2 (css.drop k).flatten (m := (L.length - k)) (c := (cL - k)) (by rw [flat_lenN (n := 4) (fun c hc => H4.out c (List.mem_of_mem_drop hc)), List.length_drop, HCL.out]; try omega) (LR.keep kk (fun _ _ h => h)) (fun u hu => HON.out u (by rw [← flat_dropN H4.out] at hu; exact List.mem_of_mem_drop hu)) (by unfold maxLen; omega) (by omega) kk.size
              (try rw [Nat.add_zero] at hr3 own3 hf3)
              refine step_app (by kernel_rfl) _ _ rfl rfl rfl hr3 ?_
              replace kk := kk.then k5 (fun i hi hb => by have := hge2 i hb; omega)
              have hs5 := k5.size
              refine hK.out _ _ ((HSS.out _ kk.nix)) (fun hHeld => ?_)
              clear hK K
              (try simp only [Act.put]); (try simp only [List.getElem_toArray]); (try simp only [List.getElem_cons_succ]); (try simp only [List.getElem_cons_zero]); (try simp only [List.setIfInBounds_toArray]); (try simp only [List.set_cons_succ]); (try simp only [List.set_cons_zero])
              refine wpAnyH_take (i := 19) (v := ?_) rfl (by kernel_rfl) (by kernel_rfl) (by kernel_rfl) (fun _ _ _ h => h) (Or.inl ⟨by kernel_rfl, ?_⟩) hHeld ?_
              rotate_left
              · intro w' hSw
                (try dsimp only at hSw)
                (try simp only [List.getElem_toArray]); (try simp only [List.getElem_cons_succ]); (try simp only [List.getElem_cons_zero])
                go_simp
                try with_reducible rfl
              (try simp only [Act.put]); (try simp only [List.getElem_toArray]); (try simp only [List.getElem_cons_succ]); (try simp only [List.getElem_cons_zero]); (try simp only [List.setIfInBounds_toArray]); (try simp only [List.set_cons_succ]); (try simp only [List.set_cons_zero])
              refine wpAnyH_take (i := 20) (v := ?_) rfl (by kernel_rfl) (by kernel_rfl) (by kernel_rfl) (fun _ _ _ h => h) (Or.inl ⟨by kernel_rfl, ?_⟩) hHeld ?_
              rotate_left
              · intro w' hSw
                (try dsimp only at hSw)
                (try simp only [List.getElem_toArray]); (try simp only [List.getElem_cons_succ]); (try simp only [List.getElem_cons_zero])
                go_simp
                try with_reducible rfl
              (try simp only [Act.put]); (try simp only [List.getElem_toArray]); (try simp only [List.getElem_cons_succ]); (try simp only [List.getElem_cons_zero]); (try simp only [List.setIfInBounds_toArray]); (try simp only [List.set_cons_succ]); (try simp only [List.set_cons_zero])
              refine wpAnyH_ready (rs := [21]) (by kernel_rfl) (by simp) ?_
              refine AllReadyH.cons rfl (fun K hK => ?_) AllReadyH.nil
              have T5 := HTE.out.nix kk
              have z1 := T5.row.cell 0
              (try simp only [List.getElem?_cons_zero] at z1)
              have zf := T5.row.frozen 0
              have kS : Keep (· = b) w5 (w5.setCell ⟨b, 0, none⟩ (.slice a3 (k + 1 + (L.length - k)) c3)) := (Keep.refl (· = b) w5).setCell (p := ⟨b, 0, none⟩) (fun _ => rfl) _
              have rowS := T5.row.set 0 (.slice a3 (k + 1 + (L.length - k)) c3)
              (try simp only [List.set_cons_zero] at rowS)
              (try simp only [List.getElem_toArray]); (try simp only [List.getElem_cons_succ]); (try simp only [List.getElem_cons_zero])
              go_simp
              clear z1 zf
              have kT := kk.nix.trans kS
              refine hK.out _ _ ((HSS.out _ kT)) (fun hHeld => ?_)
              clear hK K
              (try simp only [Act.put]); (try simp only [List.getElem_toArray]); (try simp only [List.getElem_cons_succ]); (try simp only [List.getElem_cons_zero]); (try simp only [List.setIfInBounds_toArray]); (try simp only [List.set_cons_succ]); (try simp only [List.set_cons_zero])
              refine wpAnyH_done (by kernel_rfl) ?_ _
              clear hHeld
              have hge3 : ∀ i, OwnB (.slice a3 (k + 1 + (L.length - k)) c3) i → wE.heap.size ≤ i ∧ i < w5.heap.size := fun i hi => own3.lt i hi
              have hbE := HBE.out
              have HO := Lib.hid (owned_keep own3 kS (fun i hi e => by have := (hge3 i hi).1; omega))
              have e1 := (HTE.out.els.takeN k).keep rGHeld_lawful kT (fun i hi => hi.2.1)
              have e2 := (HTE.out.els.dropN k).keep rGHeld_lawful kT (fun i hi => hi.2.1)
              have e3 := rGHeld_lawful.keep (rGHeld_lawful.keep (rGHeld_lawful.keep rn2 k4 (fun i hi h => by have := (hge1 i h).2; have := hi.1; omega)) k5 (fun i hi h => by
                rcases hf2 i h with h | h
                · have := (hge1 i h).2; have := hi.1; omega
                · have := hi.2; omega)) kS (fun i hi e => by have := hi.1; omega)
              have HE1 := Lib.hid e1
              have HE2 := Lib.hid e2
              have HE3 := Lib.hid e3
              have HRS := Lib.hid rowS
              have HKT := Lib.hid kT
              have hsS := kS.size
              have HF3 : Hid (∀ i, NewIn w2 w3 i → ¬ OwnB (.slice a3 (k + 1 + (L.length - k)) c3) i) := fun i hi h => by
                rcases hf3 i h with h | h
                · rcases hf2 i h with h | h
                  · have := (hge1 i h).2; have := hi.1; omega
                  · have := hi.2; omega
                · have := hi.2; omega
              clear e1 e2 e3 rowS kT kS own1 own2 own3 k4 k5 kk kk3 hf2 hf3 rn2 LA LR hr3 T5
              go_wp2_with fail
              go_ret
              rw [HPT.out, HY0.out]
              have hwE := HWE.out
              have hlen : (L.take k ++ h :: L.drop k).length = k + 1 + (L.length - k) := by rw [List.length_append, List.length_cons, List.length_take, List.length_drop]; omega
              refine ⟨rfl, a3, c3, css.take k ++ [.int .u64 h.fTxn, .slice bK h.fKeys.length dK, .slice bS h.fSpans.length dS, .slice bW h.fWrites.length dW] :: css.drop k, ⟨by rw [hlen]; exact HRS.out, ?_, ?_, ?_, ?_, .inl HTE.out.qb, ?_⟩, (HKE.out.nix (S := (· = b))).trans HKT.out⟩
              · rw [hlen, List.flatten_append, List.flatten_cons, ← List.append_assoc]
                exact own_from HO.out (Nat.zero_le _)
              · rw [hlen]
                have hq : ∀ i, Q i → ¬ OwnB (.slice a3 (k + 1 + (L.length - k)) c3) i := fun i hi h => by have := (hge3 i h).1; have := HQL.out i hi; omega
                refine Els.app (HE1.out.mono rGHeld_lawful (fun i hi => ⟨.inl hi.1, hi.2.1, hq i hi.1⟩)) (Els.cons (rGHeld_lawful.mono HE3.out (fun i hi => ⟨.inr ⟨?_, ?_⟩, ?_, HF3.out i hi⟩)) (HE2.out.mono rGHeld_lawful (fun i hi => ⟨.inl hi.1, hi.2.1, hq i hi.1⟩)))
                · have := hi.1; omega
                · have := hi.2; omega
                · have := hi.1; omega
              · rw [hlen]; exact fun h => by have := (hge3 b h).1; omega
              · intro i hi
                rcases hi with h | h
                · have := HQL.out i h; omega
                · exact h.2
              · rw [hlen]
                intro i hi
                have := hge3 i hi
                exact .inr ⟨by omega, by omega⟩
          · have z1 := (HTE.out.nix kk).row.cell 0
            (try simp only [List.getElem?_cons_zero] at z1)
            (try simp only [List.getElem_toArray]); (try simp only [List.getElem_cons_succ]); (try simp only [List.getElem_cons_zero])
            go_simp
            clear z1
            refine hK.out _ _ ((HSS.out _ kk.nix)) (fun hHeld => ?_)
            clear hK K
            (try simp only [Act.put]); (try simp only [List.getElem_toArray]); (try simp only [List.getElem_cons_succ]); (try simp only [List.getElem_cons_zero]); (try simp only [List.setIfInBounds_toArray]); (try simp only [List.set_cons_succ]); (try simp only [List.set_cons_zero])
            refine wpAnyH_take (i := 17) (v := ?_) rfl (by kernel_rfl) (by kernel_rfl) (by kernel_rfl) (fun _ _ _ h => h) (Or.inl ⟨by kernel_rfl, ?_⟩) hHeld ?_
            rotate_left
            · intro w' hSw
              (try dsimp only at hSw)
              (try simp only [List.getElem_toArray]); (try simp only [List.getElem_cons_succ]); (try simp only [List.getElem_cons_zero])
              go_simp
              try with_reducible rfl
            (try simp only [Act.put]); (try simp only [List.getElem_toArray]); (try simp only [List.getElem_cons_succ]); (try simp only [List.getElem_cons_zero]); (try simp only [List.setIfInBounds_toArray]); (try simp only [List.set_cons_succ]); (try simp only [List.set_cons_zero])
            refine wpAnyH_ready (rs := [4]) (by kernel_rfl) (by simp) ?_
            refine AllReadyH.cons rfl (fun K hK => ?_) AllReadyH.nil
            have z1 := (HTE.out.nix kk).row.cell 0
            (try simp only [List.getElem?_cons_zero] at z1)
            (try simp only [List.getElem_toArray]); (try simp only [List.getElem_cons_succ]); (try simp only [List.getElem_cons_zero])
            go_simp
            clear z1
            refine hK.out _ _ ((HSS.out _ kk.nix)) (fun hHeld => ?_)
            clear hK K
            (try simp only [Act.put]); (try simp only [List.getElem_toArray]); (try simp only [List.getElem_cons_succ]); (try simp only [List.getElem_cons_zero]); (try simp only [List.setIfInBounds_toArray]); (try simp only [List.set_cons_succ]); (try simp only [List.set_cons_zero])
            refine wpAnyH_take (i := 6) (v := ?_) rfl (by kernel_rfl) (by kernel_rfl) (by kernel_rfl) (fun _ _ _ h => h) (Or.inl ⟨by kernel_rfl, ?_⟩) hHeld ?_
            rotate_left
            · intro w' hSw
              (try dsimp only at hSw)
              (try simp only [List.getElem_toArray]); (try simp only [List.getElem_cons_succ]); (try simp only [List.getElem_cons_zero])
              go_simp
              try with_reducible rfl
            (try simp only [Act.put]); (try simp only [List.getElem_toArray]); (try simp only [List.getElem_cons_succ]); (try simp only [List.getElem_cons_zero]); (try simp only [List.setIfInBounds_toArray]); (try simp only [List.set_cons_succ]); (try simp only [List.set_cons_zero])
            refine wpAnyH_ready (rs := [7]) (by kernel_rfl) (by simp) ?_
            refine AllReadyH.cons rfl (fun K hK => ?_) AllReadyH.nil
            obtain ⟨a1, c1, w2, hr1, own1, k1, -⟩ := appF_run T_lHeld 22 wE.heap.size (World.ownsRow_nil wE wE.heap.size 28 4) (css.take k).flatten (m := k) (c := cL) (by rw [flat_lenN (n := 4) (fun c hc => H4.out c (List.mem_of_mem_take hc)), List.length_take, HCL.out]; omega) LA (fun u hu => HON.out u (by rw [← flat_takeN H4.out] at hu; exact List.mem_of_mem_take hu)) (by unfold maxLen; omega) (by omega) (Nat.le_refl _)
            rw [Nat.zero_add] at hr1 own1
            rw [List.nil_append] at own1
            refine step_app (by kernel_rfl) _ _ rfl rfl rfl hr1 ?_
            replace k1 : Keep Nix wE w2 := k1.mono (fun b h => by cases h)
            replace kk := kk.trans k1
            have hge1 : ∀ i, OwnB (.slice a1 k c1) i → wE.heap.size ≤ i ∧ i < w2.heap.size := fun i hi => own1.lt i hi
            have hs2 := k1.size
            clear hr1 k1
            refine hK.out _ _ ((HSS.out _ kk.nix)) (fun hHeld => ?_)
            clear hK K
            (try simp only [Act.put]); (try simp only [List.getElem_toArray]); (try simp only [List.getElem_cons_succ]); (try simp only [List.getElem_cons_zero]); (try simp only [List.setIfInBounds_toArray]); (try simp only [List.set_cons_succ]); (try simp only [List.set_cons_zero])
            refine wpAnyH_ready (rs := [9]) (by kernel_rfl) (by simp) ?_
            refine AllReadyH.cons rfl (fun K hK => ?_) AllReadyH.nil
            (try simp only [List.getElem_toArray]); (try simp only [List.getElem_cons_succ]); (try simp only [List.getElem_cons_zero])
            go_simp
            have hCC := rcopy_c h [.int .u64 h.fTxn, .slice aK h.fKeys.length cK, .slice aS h.fSpans.length cS, .slice aW h.fWrites.length cW] w2 (rGHeld_lawful.nix HHE.out kk) HSM.out (fun i hi => by have := HPP.out i hi; have := kk.size; omega)
            go_fit hCC
            rintro e w3 ⟨cn, rfl, rn, k3⟩
            have rn2 := rn
            obtain ⟨bK, dK, bS, dS, bW, dW, rfl, -⟩ := rGHeld_open rn
            replace kk := kk.trans k3
            replace own1 := owned_keep own1 k3 (fun _ _ h => h)
            have hs3 := k3.size
            clear hCC rn k3
            go_wp2_with fail
            refine hK.out _ _ ((HSS.out _ kk.nix)) (fun hHeld => ?_)
            clear hK K
            (try simp only [Act.put]); (try simp only [List.getElem_toArray]); (try simp only [List.getElem_cons_succ]); (try simp only [List.getElem_cons_zero]); (try simp only [List.setIfInBounds_toArray]); (try simp only [List.set_cons_succ]); (try simp only [List.set_cons_zero])
            refine wpAnyH_ready (rs := [10]) (by kernel_rfl) (by simp) ?_
            refine AllReadyH.cons rfl (fun K hK => ?_) AllReadyH.nil
            (try simp only [List.getElem_toArray]); (try simp only [List.getElem_cons_succ]); (try simp only [List.getElem_cons_zero])
            go_simp
            have kk3 := kk
            replace kk := kk.trans ((Keep.refl Nix w3).alloc (.cells #[.int .u64 h.fTxn, .slice bK h.fKeys.length dK, .slice bS h.fSpans.length dS, .slice bW h.fWrites.length dW] 28))
            refine hK.out _ _ ((HSS.out _ kk.nix)) (fun hHeld => ?_)
            clear hK K
            (try simp only [Act.put]); (try simp only [List.getElem_toArray]); (try simp only [List.getElem_cons_succ]); (try simp only [List.getElem_cons_zero]); (try simp only [List.setIfInBounds_toArray]); (try simp only [List.set_cons_succ]); (try simp only [List.set_cons_zero])
            refine wpAnyH_ready (rs := [11]) (by kernel_rfl) (by simp) ?_
            refine AllReadyH.cons rfl (fun K hK => ?_) AllReadyH.nil
            refine step_append1 (w := w3) (cs := [.int .u64 h.fTxn, .slice bK h.fKeys.length dK, .slice bS h.fSpans.length dS, .slice bW h.fWrites.length dW]) T_lHeld (by rfl) (.tmp 42) (.tmp 45) (by rfl) wE.heap.size (by rfl) (by rfl) own1 (by rfl) (by rfl) (by unfold maxLen; omega) (by omega) kk3.size ?_
            intro a2 c2 w4 own2 k4 hf2
            replace kk := kk3.then k4 (fun i hi hb => by have := (hge1 i hb).1; omega)
            have hs4 := k4.size
            have hge2 : ∀ i, OwnB (.slice a2 (k + 1) c2) i → wE.heap.size ≤ i := fun i hi => (own2.lt i hi).1
            refine hK.out _ _ ((HSS.out _ kk.nix)) (fun hHeld => ?_)
            clear hK K
            (try simp only [Act.put]); (try simp only [List.getElem_toArray]); (try simp only [List.getElem_cons_succ]); (try simp only [List.getElem_cons_zero]); (try simp only [List.setIfInBounds_toArray]); (try simp only [List.set_cons_succ]); (try simp only [List.set_cons_zero])
            refine wpAnyH_ready (rs := [18]) (by kernel_rfl) (by simp) ?_
            refine AllReadyH.cons rfl (fun K hK => ?_) AllReadyH.nil
            obtain ⟨a3, c3, w5, hr3, own3, k5, hf3⟩ := appF_run T_lHeld 22 wE.heap.size own2 (css.drop k).flatten (m := (L.length - k)) (c := (cL - k)) (by rw [flat_lenN (n := 4) (fun c hc => H4.out c (List.mem_of_mem_drop hc)), List.length_drop, HCL.out]; try omega) (LR.keep kk (fun _ _ h => h)) (fun u hu => HON.out u (by rw [← flat_dropN H4.out] at hu; exact List.mem_of_mem_drop hu)) (by unfold maxLen; omega) (by omega) kk.size
            (try rw [Nat.add_zero] at hr3 own3 hf3)
            refine step_app (by kernel_rfl) _ _ rfl rfl rfl hr3 ?_
            replace kk := kk.then k5 (fun i hi hb => by have := hge2 i hb; omega)
            have hs5 := k5.size
            refine hK.out _ _ ((HSS.out _ kk.nix)) (fun hHeld => ?_)
            clear hK K
            (try simp only [Act.put]); (try simp only [List.getElem_toArray]); (try simp only [List.getElem_cons_succ]); (try simp only [List.getElem_cons_zero]); (try simp only [List.setIfInBounds_toArray]); (try simp only [List.set_cons_succ]); (try simp only [List.set_cons_zero])
            refine wpAnyH_take (i := 19) (v := ?_) rfl (by kernel_rfl) (by kernel_rfl) (by kernel_rfl) (fun _ _ _ h => h) (Or.inl ⟨by kernel_rfl, ?_⟩) hHeld ?_
            rotate_left
            · intro w' hSw
              (try dsimp only at hSw)
              (try simp only [List.getElem_toArray]); (try simp only [List.getElem_cons_succ]); (try simp only [List.getElem_cons_zero])
              go_simp
              try with_reducible rfl
            (try simp only [Act.put]); (try simp only [List.getElem_toArray]); (try simp only [List.getElem_cons_succ]); (try simp only [List.getElem_cons_zero]); (try simp only [List.setIfInBounds_toArray]); (try simp only [List.set_cons_succ]); (try simp only [List.set_cons_zero])
            refine wpAnyH_take (i := 20) (v := ?_) rfl (by kernel_rfl) (by kernel_rfl) (by kernel_rfl) (fun _ _ _ h => h) (Or.inl ⟨by kernel_rfl, ?_⟩) hHeld ?_
            rotate_left
            · intro w' hSw
              (try dsimp only at hSw)
              (try simp only [List.getElem_toArray]); (try simp only [List.getElem_cons_succ]); (try simp only [List.getElem_cons_zero])
              go_simp
              try with_reducible rfl
            (try simp only [Act.put]); (try simp only [List.getElem_toArray]); (try simp only [List.getElem_cons_succ]); (try simp only [List.getElem_cons_zero]); (try simp only [List.setIfInBounds_toArray]); (try simp only [List.set_cons_succ]); (try simp only [List.set_cons_zero])
            refine wpAnyH_ready (rs := [21]) (by kernel_rfl) (by simp) ?_
            refine AllReadyH.cons rfl (fun K hK => ?_) AllReadyH.nil
            have T5 := HTE.out.nix kk
            have z1 := T5.row.cell 0
            (try simp only [List.getElem?_cons_zero] at z1)
            have zf := T5.row.frozen 0
            have kS : Keep (· = b) w5 (w5.setCell ⟨b, 0, none⟩ (.slice a3 (k + 1 + (L.length - k)) c3)) := (Keep.refl (· = b) w5).setCell (p := ⟨b, 0, none⟩) (fun _ => rfl) _
            have rowS := T5.row.set 0 (.slice a3 (k + 1 + (L.length - k)) c3)
            (try simp only [List.set_cons_zero] at rowS)
            (try simp only [List.getElem_toArray]); (try simp only [List.getElem_cons_succ]); (try simp only [List.getElem_cons_zero])
            go_simp
            clear z1 zf
            have kT := kk.nix.trans kS
            refine hK.out _ _ ((HSS.out _ kT)) (fun hHeld => ?_)
            clear hK K
            (try simp only [Act.put]); (try simp only [List.getElem_toArray]); (try simp only [List.getElem_cons_succ]); (try simp only [List.getElem_cons_zero]); (try simp only [List.setIfInBounds_toArray]); (try simp only [List.set_cons_succ]); (try simp only [List.set_cons_zero])
            refine wpAnyH_done (by kernel_rfl) ?_ _
            clear hHeld
            have hge3 : ∀ i, OwnB (.slice a3 (k + 1 + (L.length - k)) c3) i → wE.heap.size ≤ i ∧ i < w5.heap.size := fun i hi => own3.lt i hi
            have hbE := HBE.out
            have HO := Lib.hid (owned_keep own3 kS (fun i hi e => by have := (hge3 i hi).1; omega))
            have e1 := (HTE.out.els.takeN k).keep rGHeld_lawful kT (fun i hi => hi.2.1)
            have e2 := (HTE.out.els.dropN k).keep rGHeld_lawful kT (fun i hi => hi.2.1)
            have e3 := rGHeld_lawful.keep (rGHeld_lawful.keep (rGHeld_lawful.keep rn2 k4 (fun i hi h => by have := (hge1 i h).2; have := hi.1; omega)) k5 (fun i hi h => by
              rcases hf2 i h with h | h
              · have := (hge1 i h).2; have := hi.1; omega
              · have := hi.2; omega)) kS (fun i hi e => by have := hi.1; omega)
            have HE1 := Lib.hid e1
            have HE2 := Lib.hid e2
            have HE3 := Lib.hid e3
            have HRS := Lib.hid rowS
            have HKT := Lib.hid kT
            have hsS := kS.size
            have HF3 : Hid (∀ i, NewIn w2 w3 i → ¬ OwnB (.slice a3 (k + 1 + (L.length - k)) c3) i) := fun i hi h => by
              rcases hf3 i h with h | h
              · rcases hf2 i h with h | h
                · have := (hge1 i h).2; have := hi.1; omega
                · have := hi.2; omega
              · have := hi.2; omega
            clear e1 e2 e3 rowS kT kS own1 own2 own3 k4 k5 kk kk3 hf2 hf3 rn2 LA LR hr3 T5
            go_wp2_with fail
            go_ret
            rw [HPT.out, HY0.out]
            have hwE := HWE.out
            have hlen : (L.take k ++ h :: L.drop k).length = k + 1 + (L.length - k) := by rw [List.length_append, List.length_cons, List.length_take, List.length_drop]; omega
            refine ⟨rfl, a3, c3, css.take k ++ [.int .u64 h.fTxn, .slice bK h.fKeys.length dK, .slice bS h.fSpans.length dS, .slice bW h.fWrites.length dW] :: css.drop k, ⟨by rw [hlen]; exact HRS.out, ?_, ?_, ?_, ?_, .inl HTE.out.qb, ?_⟩, (HKE.out.nix (S := (· = b))).trans HKT.out⟩
            · rw [hlen, List.flatten_append, List.flatten_cons, ← List.append_assoc]
              exact own_from HO.out (Nat.zero_le _)
            · rw [hlen]
              have hq : ∀ i, Q i → ¬ OwnB (.slice a3 (k + 1 + (L.length - k)) c3) i := fun i hi h => by have := (hge3 i h).1; have := HQL.out i hi; omega
              refine Els.app (HE1.out.mono rGHeld_lawful (fun i hi => ⟨.inl hi.1, hi.2.1, hq i hi.1⟩)) (Els.cons (rGHeld_lawful.mono HE3.out (fun i hi => ⟨.inr ⟨?_, ?_⟩, ?_, HF3.out i hi⟩)) (HE2.out.mono rGHeld_lawful (fun i hi => ⟨.inl hi.1, hi.2.1, hq i hi.1⟩)))
              · have := hi.1; omega
              · have := hi.2; omega
              · have := hi.1; omega
            · rw [hlen]; exact fun h => by have := (hge3 b h).1; omega
            · intro i hi
              rcases hi with h | h
              · have := HQL.out i h; omega
              · exact h.2
            · rw [hlen]
              intro i hi
              have := hge3 i hi
              exact .inr ⟨by omega, by omega⟩
      · have hkn : k = L.length := by omega
        have HPT : Hid (afterPut L h = L.take k ++ h :: L.drop k) := by
          show _ = _
          rw [HAP.out]
          exact putT_at HRI.out HNO.out HLO.out (fun hi => absurd hi (by omega))
        have HKN := Lib.hid hkn
        have hge : (L.length : Int) ≤ (k : Int) := by omega
        have hdl : decide (k < L.length) = false := decide_eq_false (by omega)
        have hdz2 : decide (0 < L.length - k) = false := decide_eq_false (by omega)
        have hki2 : (k : Int) ≤ (L.length : Int) := by omega
        have hkc : k ≤ cL := by omega
        clear hlt hkn p0 HLO HAP
        go_upto_region 5 with fail
        have kd : Keep Nix wr wr.drew := (Keep.refl Nix wr).drew
        refine wp_region_held_drew (S := (fun w' => w'.cell? ⟨b, 0, none⟩ = some (.slice aL L.length cL))) (by kernel_rfl) (x0) (fun hHeld => ?_)
        clear x0 HR
        have KD := Lib.hid (KW.out.trans kd)
        clear kd KW HKW
        generalize wr.drew = wd at *
        refine wpAnyH_take (i := 0) (v := ?_) rfl (by kernel_rfl) (by kernel_rfl) (by kernel_rfl) (fun _ _ _ h => h) (Or.inl ⟨by kernel_rfl, ?_⟩) hHeld ?_
        rotate_left
        · intro w' hSw
          (try dsimp only at hSw)
          (try simp only [List.getElem_toArray]); (try simp only [List.getElem_cons_succ]); (try simp only [List.getElem_cons_zero])
          go_simp
          try with_reducible rfl
        (try simp only [Act.put]); (try simp only [List.getElem_toArray]); (try simp only [List.getElem_cons_succ]); (try simp only [List.getElem_cons_zero]); (try simp only [List.setIfInBounds_toArray]); (try simp only [List.set_cons_succ]); (try simp only [List.set_cons_zero])
        refine wpAnyH_take (i := 1) (v := ?_) rfl (by kernel_rfl) (by kernel_rfl) (by kernel_rfl) (fun _ _ _ h => h) (Or.inl ⟨by kernel_rfl, ?_⟩) hHeld ?_
        rotate_left
        · intro w' hSw
          (try dsimp only at hSw)
          (try simp only [List.getElem_toArray]); (try simp only [List.getElem_cons_succ]); (try simp only [List.getElem_cons_zero])
          go_simp
          try with_reducible rfl
        (try simp only [Act.put]); (try simp only [List.getElem_toArray]); (try simp only [List.getElem_cons_succ]); (try simp only [List.getElem_cons_zero]); (try simp only [List.setIfInBounds_toArray]); (try simp only [List.set_cons_succ]); (try simp only [List.set_cons_zero])
        refine wpAnyH_take (i := 2) (v := ?_) rfl (by kernel_rfl) (by kernel_rfl) (by kernel_rfl) (fun _ _ _ h => h) (Or.inl ⟨by kernel_rfl, ?_⟩) hHeld ?_
        rotate_left
        · intro w' hSw
          (try dsimp only at hSw)
          (try simp only [List.getElem_toArray]); (try simp only [List.getElem_cons_succ]); (try simp only [List.getElem_cons_zero])
          go_simp
          try with_reducible rfl
        (try simp only [Act.put]); (try simp only [List.getElem_toArray]); (try simp only [List.getElem_cons_succ]); (try simp only [List.getElem_cons_zero]); (try simp only [List.setIfInBounds_toArray]); (try simp only [List.set_cons_succ]); (try simp only [List.set_cons_zero])
        refine wpAnyH_take (i := 3) (v := ?_) rfl (by kernel_rfl) (by kernel_rfl) (by kernel_rfl) (fun _ _ _ h => h) (Or.inl ⟨by kernel_rfl, ?_⟩) hHeld ?_
        rotate_left
        · intro w' hSw
          (try dsimp only at hSw)
          (try simp only [List.getElem_toArray]); (try simp only [List.getElem_cons_succ]); (try simp only [List.getElem_cons_zero])
          go_simp
          try with_reducible rfl
        (try simp only [Act.put]); (try simp only [List.getElem_toArray]); (try simp only [List.getElem_cons_succ]); (try simp only [List.getElem_cons_zero]); (try simp only [List.setIfInBounds_toArray]); (try simp only [List.set_cons_succ]); (try simp only [List.set_cons_zero])
        refine wpAnyH_take (i := 4) (v := ?_) rfl (by kernel_rfl) (by kernel_rfl) (by kernel_rfl) (fun _ _ _ h => h) (Or.inl ⟨by kernel_rfl, ?_⟩) hHeld ?_
        rotate_left
        · intro w' hSw
          (try dsimp only at hSw)
          (try simp only [List.getElem_toArray]); (try simp only [List.getElem_cons_succ]); (try simp only [List.getElem_cons_zero])
          go_simp
          try with_reducible rfl
        (try simp only [Act.put]); (try simp only [List.getElem_toArray]); (try simp only [List.getElem_cons_succ]); (try simp only [List.getElem_cons_zero]); (try simp only [List.setIfInBounds_toArray]); (try simp only [List.set_cons_succ]); (try simp only [List.set_cons_zero])
        refine wpAnyH_take (i := 5) (v := ?_) rfl (by kernel_rfl) (by kernel_rfl) (by kernel_rfl) (fun _ _ _ h => h) (Or.inl ⟨by kernel_rfl, ?_⟩) hHeld ?_
        rotate_left
        · intro w' hSw
          (try dsimp only at hSw)
          (try simp only [List.getElem_toArray]); (try simp only [List.getElem_cons_succ]); (try simp only [List.getElem_cons_zero])
          go_simp
          try with_reducible rfl
        (try simp only [Act.put]); (try simp only [List.getElem_toArray]); (try simp only [List.getElem_cons_succ]); (try simp only [List.getElem_cons_zero]); (try simp only [List.setIfInBounds_toArray]); (try simp only [List.set_cons_succ]); (try simp only [List.set_cons_zero])
        refine wpAnyH_take (i := 6) (v := ?_) rfl (by kernel_rfl) (by kernel_rfl) (by kernel_rfl) (fun _ _ _ h => h) (Or.inl ⟨by kernel_rfl, ?_⟩) hHeld ?_
        rotate_left
        · intro w' hSw
          (try dsimp only at hSw)
          (try simp only [List.getElem_toArray]); (try simp only [List.getElem_cons_succ]); (try simp only [List.getElem_cons_zero])
          go_simp
          try with_reducible rfl
        (try simp only [Act.put]); (try simp only [List.getElem_toArray]); (try simp only [List.getElem_cons_succ]); (try simp only [List.getElem_cons_zero]); (try simp only [List.setIfInBounds_toArray]); (try simp only [List.set_cons_succ]); (try simp only [List.set_cons_zero])
        try rw [hdl]
        refine wpAnyH_take (i := 7) (v := ?_) rfl (by kernel_rfl) (by kernel_rfl) (by kernel_rfl) (fun _ _ _ h => h) (Or.inl ⟨by kernel_rfl, ?_⟩) hHeld ?_
        rotate_left
        · intro w' hSw
          (try dsimp only at hSw)
          (try simp only [List.getElem_toArray]); (try simp only [List.getElem_cons_succ]); (try simp only [List.getElem_cons_zero])
          go_simp
          try with_reducible rfl
        (try simp only [Act.put]); (try simp only [List.getElem_toArray]); (try simp only [List.getElem_cons_succ]); (try simp only [List.getElem_cons_zero]); (try simp only [List.setIfInBounds_toArray]); (try simp only [List.set_cons_succ]); (try simp only [List.set_cons_zero])
        refine wpAnyH_take (i := 8) (v := undef) rfl (by kernel_rfl) (by kernel_rfl) (by kernel_rfl) (fun _ _ _ h => h) (Or.inr ⟨by kernel_rfl, rfl⟩) hHeld ?_
        (try simp only [Act.put]); (try simp only [List.getElem_toArray]); (try simp only [List.getElem_cons_succ]); (try simp only [List.getElem_cons_zero]); (try simp only [List.setIfInBounds_toArray]); (try simp only [List.set_cons_succ]); (try simp only [List.set_cons_zero])
        refine wpAnyH_take (i := 9) (v := undef) rfl (by kernel_rfl) (by kernel_rfl) (by kernel_rfl) (fun _ _ _ h => h) (Or.inr ⟨by kernel_rfl, rfl⟩) hHeld ?_
        (try simp only [Act.put]); (try simp only [List.getElem_toArray]); (try simp only [List.getElem_cons_succ]); (try simp only [List.getElem_cons_zero]); (try simp only [List.setIfInBounds_toArray]); (try simp only [List.set_cons_succ]); (try simp only [List.set_cons_zero])
        refine wpAnyH_take (i := 10) (v := undef) rfl (by kernel_rfl) (by kernel_rfl) (by kernel_rfl) (fun _ _ _ h => h) (Or.inr ⟨by kernel_rfl, rfl⟩) hHeld ?_
        (try simp only [Act.put]); (try simp only [List.getElem_toArray]); (try simp only [List.getElem_cons_succ]); (try simp only [List.getElem_cons_zero]); (try simp only [List.setIfInBounds_toArray]); (try simp only [List.set_cons_succ]); (try simp only [List.set_cons_zero])
        refine wpAnyH_take (i := 11) (v := undef) rfl (by kernel_rfl) (by kernel_rfl) (by kernel_rfl) (fun _ _ _ h => h) (Or.inr ⟨by kernel_rfl, rfl⟩) hHeld ?_
        (try simp only [Act.put]); (try simp only [List.getElem_toArray]); (try simp only [List.getElem_cons_succ]); (try simp only [List.getElem_cons_zero]); (try simp only [List.setIfInBounds_toArray]); (try simp only [List.set_cons_succ]); (try simp only [List.set_cons_zero])
        refine wpAnyH_take (i := 12) (v := undef) rfl (by kernel_rfl) (by kernel_rfl) (by kernel_rfl) (fun _ _ _ h => h) (Or.inr ⟨by kernel_rfl, rfl⟩) hHeld ?_
        (try simp only [Act.put]); (try simp only [List.getElem_toArray]); (try simp only [List.getElem_cons_succ]); (try simp only [List.getElem_cons_zero]); (try simp only [List.setIfInBounds_toArray]); (try simp only [List.set_cons_succ]); (try simp only [List.set_cons_zero])
        refine wpAnyH_take (i := 13) (v := undef) rfl (by kernel_rfl) (by kernel_rfl) (by kernel_rfl) (fun _ _ _ h => h) (Or.inr ⟨by kernel_rfl, rfl⟩) hHeld ?_
        (try simp only [Act.put]); (try simp only [List.getElem_toArray]); (try simp only [List.getElem_cons_succ]); (try simp only [List.getElem_cons_zero]); (try simp only [List.setIfInBounds_toArray]); (try simp only [List.set_cons_succ]); (try simp only [List.set_cons_zero])
        refine wpAnyH_take (i := 14) (v := undef) rfl (by kernel_rfl) (by kernel_rfl) (by kernel_rfl) (fun _ _ _ h => h) (Or.inr ⟨by kernel_rfl, rfl⟩) hHeld ?_
        (try simp only [Act.put]); (try simp only [List.getElem_toArray]); (try simp only [List.getElem_cons_succ]); (try simp only [List.getElem_cons_zero]); (try simp only [List.setIfInBounds_toArray]); (try simp only [List.set_cons_succ]); (try simp only [List.set_cons_zero])
        refine wpAnyH_take (i := 15) (v := undef) rfl (by kernel_rfl) (by kernel_rfl) (by kernel_rfl) (fun _ _ _ h => h) (Or.inr ⟨by kernel_rfl, rfl⟩) hHeld ?_
        (try simp only [Act.put]); (try simp only [List.getElem_toArray]); (try simp only [List.getElem_cons_succ]); (try simp only [List.getElem_cons_zero]); (try simp only [List.setIfInBounds_toArray]); (try simp only [List.set_cons_succ]); (try simp only [List.set_cons_zero])
        refine wpAnyH_take (i := 16) (v := undef) rfl (by kernel_rfl) (by kernel_rfl) (by kernel_rfl) (fun _ _ _ h => h) (Or.inr ⟨by kernel_rfl, rfl⟩) hHeld ?_
        (try simp only [Act.put]); (try simp only [List.getElem_toArray]); (try simp only [List.getElem_cons_succ]); (try simp only [List.getElem_cons_zero]); (try simp only [List.setIfInBounds_toArray]); (try simp only [List.set_cons_succ]); (try simp only [List.set_cons_zero])
        refine wpAnyH_take (i := 17) (v := undef) rfl (by kernel_rfl) (by kernel_rfl) (by kernel_rfl) (fun _ _ _ h => h) (Or.inr ⟨by kernel_rfl, rfl⟩) hHeld ?_
        (try simp only [Act.put]); (try simp only [List.getElem_toArray]); (try simp only [List.getElem_cons_succ]); (try simp only [List.getElem_cons_zero]); (try simp only [List.setIfInBounds_toArray]); (try simp only [List.set_cons_succ]); (try simp only [List.set_cons_zero])
        refine wpAnyH_take (i := 18) (v := undef) rfl (by kernel_rfl) (by kernel_rfl) (by kernel_rfl) (fun _ _ _ h => h) (Or.inr ⟨by kernel_rfl, rfl⟩) hHeld ?_
        (try simp only [Act.put]); (try simp only [List.getElem_toArray]); (try simp only [List.getElem_cons_succ]); (try simp only [List.getElem_cons_zero]); (try simp only [List.setIfInBounds_toArray]); (try simp only [List.set_cons_succ]); (try simp only [List.set_cons_zero])
        refine wpAnyH_take (i := 19) (v := ?_) rfl (by kernel_rfl) (by kernel_rfl) (by kernel_rfl) (fun _ _ _ h => h) (Or.inl ⟨by kernel_rfl, ?_⟩) hHeld ?_
        rotate_left
        · intro w' hSw
          (try dsimp only at hSw)
          (try simp only [List.getElem_toArray]); (try simp only [List.getElem_cons_succ]); (try simp only [List.getElem_cons_zero])
          go_simp
          try with_reducible rfl
        (try simp only [Act.put]); (try simp only [List.getElem_toArray]); (try simp only [List.getElem_cons_succ]); (try simp only [List.getElem_cons_zero]); (try simp only [List.setIfInBounds_toArray]); (try simp only [List.set_cons_succ]); (try simp only [List.set_cons_zero])
        refine wpAnyH_done (by kernel_rfl) ?_ _
        clear hHeld
        go_upto_region 7 with fail
        have kz : Keep Nix wd wd.drew := (Keep.refl Nix _).drew
        have HKE := Lib.hid (KA.out.trans (KD.out.trans kz))
        have HTE := Lib.hid (HT.out.nix HKE.out)
        have RB := HR0.out.keep (KD.out.trans kz) id
        have HBE : Hid (b < wd.drew.heap.size) := HTE.out.lt b HTE.out.qb
        have HSS : Hid (∀ w', Keep (· = b) wd.drew w' → (wholeSem 28 (.pointer (some ⟨w.heap.size, 0, none⟩))).run Try.prog w' = .ok (.value (.agg ([.int .u64 h.fTxn, .slice aK h.fKeys.length cK, .slice aS h.fSpans.length cS, .slice aW h.fWrites.length cW] : List Value).toArray)) w') := fun w' k' => Whole.row (P := Try.prog) S_Held rfl (RB.keep k' (by have := HBW.out; omega))
        have HWE : Hid (w.heap.size < wd.drew.heap.size) := RB.lt
        have HHE := Lib.hid (rGHeld_lawful.nix HH.out (KD.out.trans kz))
        have HLI0 : Lies wd.drew (fun i => i < wd.drew.heap.size) aL css.flatten := (Lies.of_owned HTE.out.own).mono (fun i hi => (HTE.out.own.lt i hi.2).2)
        have LA := lies_takeN (n := 4) HLI0 H4.out k
        obtain ⟨aR, haR⟩ : ∃ aR, (if cL = k then aL else Option.map (fun x => x.add (k * 4)) aL) = aR := ⟨_, rfl⟩
        have LR : Lies wd.drew (fun i => i < wd.drew.heap.size) aR (css.drop k).flatten := lies_rest HLI0 H4.out HCL.out hcap HAL.out haR
        refine wp_region_held_drew (S := (fun w' => (wholeSem 28 (.pointer (some ⟨w.heap.size, 0, none⟩))).run Try.prog w' = .ok (.value (.agg ([.int .u64 h.fTxn, .slice aK h.fKeys.length cK, .slice aS h.fSpans.length cS, .slice aW h.fWrites.length cW] : List Value).toArray)) w')) (by kernel_rfl) ((HSS.out _ (Keep.refl _ _))) (fun hHeld => ?_)
        clear kz RB HLI0 KD
        generalize wd.drew = wE at *
        have kk : Keep Nix wE wE := Keep.refl _ _
        have HPP : Hid (∀ i, p i → i < wE.heap.size) := fun i hi => by have := HPI.out i hi; have := HWE.out; omega
        refine wpAnyH_take (i := 0) (v := ?_) rfl (by kernel_rfl) (by kernel_rfl) (by kernel_rfl) (fun _ _ _ h => h) (Or.inl ⟨by kernel_rfl, ?_⟩) hHeld ?_
        rotate_left
        · intro w' hSw
          (try dsimp only at hSw)
          (try simp only [List.getElem_toArray]); (try simp only [List.getElem_cons_succ]); (try simp only [List.getElem_cons_zero])
          go_simp
          try with_reducible rfl
        (try simp only [Act.put]); (try simp only [List.getElem_toArray]); (try simp only [List.getElem_cons_succ]); (try simp only [List.getElem_cons_zero]); (try simp only [List.setIfInBounds_toArray]); (try simp only [List.set_cons_succ]); (try simp only [List.set_cons_zero])
        refine wpAnyH_take (i := 1) (v := ?_) rfl (by kernel_rfl) (by kernel_rfl) (by kernel_rfl) (fun _ _ _ h => h) (Or.inl ⟨by kernel_rfl, ?_⟩) hHeld ?_
        rotate_left
        · intro w' hSw
          (try dsimp only at hSw)
          (try simp only [List.getElem_toArray]); (try simp only [List.getElem_cons_succ]); (try simp only [List.getElem_cons_zero])
          go_simp
          try with_reducible rfl
        (try simp only [Act.put]); (try simp only [List.getElem_toArray]); (try simp only [List.getElem_cons_succ]); (try simp only [List.getElem_cons_zero]); (try simp only [List.setIfInBounds_toArray]); (try simp only [List.set_cons_succ]); (try simp only [List.set_cons_zero])
        refine wpAnyH_take (i := 2) (v := ?_) rfl (by kernel_rfl) (by kernel_rfl) (by kernel_rfl) (fun _ _ _ h => h) (Or.inl ⟨by kernel_rfl, ?_⟩) hHeld ?_
        rotate_left
        · intro w' hSw
          (try dsimp only at hSw)
          (try simp only [List.getElem_toArray]); (try simp only [List.getElem_cons_succ]); (try simp only [List.getElem_cons_zero])
          go_simp
          try with_reducible rfl
        (try simp only [Act.put]); (try simp only [List.getElem_toArray]); (try simp only [List.getElem_cons_succ]); (try simp only [List.getElem_cons_zero]); (try simp only [List.setIfInBounds_toArray]); (try simp only [List.set_cons_succ]); (try simp only [List.set_cons_zero])
        refine wpAnyH_take (i := 3) (v := ?_) rfl (by kernel_rfl) (by kernel_rfl) (by kernel_rfl) (fun _ _ _ h => h) (Or.inl ⟨by kernel_rfl, ?_⟩) hHeld ?_
        rotate_left
        · intro w' hSw
          (try dsimp only at hSw)
          (try simp only [List.getElem_toArray]); (try simp only [List.getElem_cons_succ]); (try simp only [List.getElem_cons_zero])
          go_simp
          try with_reducible rfl
        (try simp only [Act.put]); (try simp only [List.getElem_toArray]); (try simp only [List.getElem_cons_succ]); (try simp only [List.getElem_cons_zero]); (try simp only [List.setIfInBounds_toArray]); (try simp only [List.set_cons_succ]); (try simp only [List.set_cons_zero])
        refine wpAnyH_take (i := 5) (v := ?_) rfl (by kernel_rfl) (by kernel_rfl) (by kernel_rfl) (fun _ _ _ h => h) (Or.inl ⟨by kernel_rfl, ?_⟩) hHeld ?_
        rotate_left
        · intro w' hSw
          (try dsimp only at hSw)
          (try simp only [List.getElem_toArray]); (try simp only [List.getElem_cons_succ]); (try simp only [List.getElem_cons_zero])
          go_simp
          try with_reducible rfl
        (try simp only [Act.put]); (try simp only [List.getElem_toArray]); (try simp only [List.getElem_cons_succ]); (try simp only [List.getElem_cons_zero]); (try simp only [List.setIfInBounds_toArray]); (try simp only [List.set_cons_succ]); (try simp only [List.set_cons_zero])
        refine wpAnyH_take (i := 8) (v := ?_) rfl (by kernel_rfl) (by kernel_rfl) (by kernel_rfl) (fun _ _ _ h => h) (Or.inl ⟨by kernel_rfl, ?_⟩) hHeld ?_
        rotate_left
        · intro w' hSw
          (try dsimp only at hSw)
          (try simp only [List.getElem_toArray]); (try simp only [List.getElem_cons_succ]); (try simp only [List.getElem_cons_zero])
          go_simp
          try with_reducible rfl
        (try simp only [Act.put]); (try simp only [List.getElem_toArray]); (try simp only [List.getElem_cons_succ]); (try simp only [List.getElem_cons_zero]); (try simp only [List.setIfInBounds_toArray]); (try simp only [List.set_cons_succ]); (try simp only [List.set_cons_zero])
        refine wpAnyH_take (i := 12) (v := ?_) rfl (by kernel_rfl) (by kernel_rfl) (by kernel_rfl) (fun _ _ _ h => h) (Or.inl ⟨by kernel_rfl, ?_⟩) hHeld ?_
        rotate_left
        · intro w' hSw
          (try dsimp only at hSw)
          (try simp only [List.getElem_toArray]); (try simp only [List.getElem_cons_succ]); (try simp only [List.getElem_cons_zero])
          go_simp
          try with_reducible rfl
        (try simp only [Act.put]); (try simp only [List.getElem_toArray]); (try simp only [List.getElem_cons_succ]); (try simp only [List.getElem_cons_zero]); (try simp only [List.setIfInBounds_toArray]); (try simp only [List.set_cons_succ]); (try simp only [List.set_cons_zero])
        refine wpAnyH_take (i := 13) (v := ?_) rfl (by kernel_rfl) (by kernel_rfl) (by kernel_rfl) (fun _ _ _ h => h) (Or.inl ⟨by kernel_rfl, ?_⟩) hHeld ?_
        rotate_left
        · intro w' hSw
          (try dsimp only at hSw)
          (try simp only [List.getElem_toArray]); (try simp only [List.getElem_cons_succ]); (try simp only [List.getElem_cons_zero])
          go_simp
          try with_reducible rfl
        (try simp only [Act.put]); (try simp only [List.getElem_toArray]); (try simp only [List.getElem_cons_succ]); (try simp only [List.getElem_cons_zero]); (try simp only [List.setIfInBounds_toArray]); (try simp only [List.set_cons_succ]); (try simp only [List.set_cons_zero])
        refine wpAnyH_take (i := 14) (v := ?_) rfl (by kernel_rfl) (by kernel_rfl) (by kernel_rfl) (fun _ _ _ h => h) (Or.inl ⟨by kernel_rfl, ?_⟩) hHeld ?_
        rotate_left
        · intro w' hSw
          (try dsimp only at hSw)
          (try simp only [List.getElem_toArray]); (try simp only [List.getElem_cons_succ]); (try simp only [List.getElem_cons_zero])
          go_simp
          try with_reducible rfl
        (try simp only [Act.put]); (try simp only [List.getElem_toArray]); (try simp only [List.getElem_cons_succ]); (try simp only [List.getElem_cons_zero]); (try simp only [List.setIfInBounds_toArray]); (try simp only [List.set_cons_succ]); (try simp only [List.set_cons_zero])
        refine wpAnyH_take (i := 16) (v := ?_) rfl (by kernel_rfl) (by kernel_rfl) (by kernel_rfl) (fun _ _ _ h => h) (Or.inl ⟨by kernel_rfl, ?_⟩) hHeld ?_
        rotate_left
        · intro w' hSw
          (try dsimp only at hSw)
          (try simp only [List.getElem_toArray]); (try simp only [List.getElem_cons_succ]); (try simp only [List.getElem_cons_zero])
          go_simp
          try with_reducible rfl
        (try simp only [Act.put]); (try simp only [List.getElem_toArray]); (try simp only [List.getElem_cons_succ]); (try simp only [List.getElem_cons_zero]); (try simp only [List.setIfInBounds_toArray]); (try simp only [List.set_cons_succ]); (try simp only [List.set_cons_zero])
        refine wpAnyH_ready (rs := [4, 15]) (by kernel_rfl) (by simp) ?_
        refine AllReadyH.cons rfl (fun K hK => ?_) (AllReadyH.cons rfl (fun K hK => ?_) AllReadyH.nil)
        · have z1 := (HTE.out.nix kk).row.cell 0
          (try simp only [List.getElem?_cons_zero] at z1)
          (try simp only [List.getElem_toArray]); (try simp only [List.getElem_cons_succ]); (try simp only [List.getElem_cons_zero])
          go_simp
          clear z1
          refine hK.out _ _ ((HSS.out _ kk.nix)) (fun hHeld => ?_)
          clear hK K
          (try simp only [Act.put]); (try simp only [List.getElem_toArray]); (try simp only [List.getElem_cons_succ]); (try simp only [List.getElem_cons_zero]); (try simp only [List.setIfInBounds_toArray]); (try simp only [List.set_cons_succ]); (try simp only [List.set_cons_zero])
          refine wpAnyH_take (i := 6) (v := ?_) rfl (by kernel_rfl) (by kernel_rfl) (by kernel_rfl) (fun _ _ _ h => h) (Or.inl ⟨by kernel_rfl, ?_⟩) hHeld ?_
          rotate_left
          · intro w' hSw
            (try dsimp only at hSw)
            (try simp only [List.getElem_toArray]); (try simp only [List.getElem_cons_succ]); (try simp only [List.getElem_cons_zero])
            go_simp
            try with_reducible rfl
          (try simp only [Act.put]); (try simp only [List.getElem_toArray]); (try simp only [List.getElem_cons_succ]); (try simp only [List.getElem_cons_zero]); (try simp only [List.setIfInBounds_toArray]); (try simp only [List.set_cons_succ]); (try simp only [List.set_cons_zero])
          refine wpAnyH_ready (rs := [7, 15]) (by kernel_rfl) (by simp) ?_
          refine AllReadyH.cons rfl (fun K hK => ?_) (AllReadyH.cons rfl (fun K hK => ?_) AllReadyH.nil)
          · obtain ⟨a1, c1, w2, hr1, own1, k1, -⟩ := appF_run T_lHeld 22 wE.heap.size (World.ownsRow_nil wE wE.heap.size 28 4) (css.take k).flatten (m := k) (c := cL) (by rw [flat_lenN (n := 4) (fun c hc => H4.out c (List.mem_of_mem_take hc)), List.length_take, HCL.out]; omega) LA (fun u hu => HON.out u (by rw [← flat_takeN H4.out] at hu; exact List.mem_of_mem_take hu)) (by unfold maxLen; omega) (by omega) (Nat.le_refl _)
            rw [Nat.zero_add] at hr1 own1
            rw [List.nil_append] at own1
            refine step_app (by kernel_rfl) _ _ rfl rfl rfl hr1 ?_
            replace k1 : Keep Nix wE w2 := k1.mono (fun b h => by cases h)
            replace kk := kk.trans k1
            have hge1 : ∀ i, OwnB (.slice a1 k c1) i → wE.heap.size ≤ i ∧ i < w2.heap.size := fun i hi => own1.lt i hi
            have hs2 := k1.size
            clear hr1 k1
            refine hK.out _ _ ((HSS.out _ kk.nix)) (fun hHeld => ?_)
            clear hK K
            (try simp only [Act.put]); (try simp only [List.getElem_toArray]); (try simp only [List.getElem_cons_succ]); (try simp only [List.getElem_cons_zero]); (try simp only [List.setIfInBounds_toArray]); (try simp only [List.set_cons_succ]); (try simp only [List.set_cons_zero])
            refine wpAnyH_ready (rs := [9, 15]) (by kernel_rfl) (by simp) ?_
            refine AllReadyH.cons rfl (fun K hK => ?_) (AllReadyH.cons rfl (fun K hK => ?_) AllReadyH.nil)
            · (try simp only [List.getElem_toArray]); (try simp only [List.getElem_cons_succ]); (try simp only [List.getElem_cons_zero])
              go_simp
              have hCC := rcopy_c h [.int .u64 h.fTxn, .slice aK h.fKeys.length cK, .slice aS h.fSpans.length cS, .slice aW h.fWrites.length cW] w2 (rGHeld_lawful.nix HHE.out kk) HSM.out (fun i hi => by have := HPP.out i hi; have := kk.size; omega)
              go_fit hCC
              rintro e w3 ⟨cn, rfl, rn, k3⟩
              have rn2 := rn
              obtain ⟨bK, dK, bS, dS, bW, dW, rfl, -⟩ := rGHeld_open rn
              replace kk := kk.trans k3
              replace own1 := owned_keep own1 k3 (fun _ _ h => h)
              have hs3 := k3.size
              clear hCC rn k3
              go_wp2_with fail
              refine hK.out _ _ ((HSS.out _ kk.nix)) (fun hHeld => ?_)
              clear hK K
              (try simp only [Act.put]); (try simp only [List.getElem_toArray]); (try simp only [List.getElem_cons_succ]); (try simp only [List.getElem_cons_zero]); (try simp only [List.setIfInBounds_toArray]); (try simp only [List.set_cons_succ]); (try simp only [List.set_cons_zero])
              refine wpAnyH_ready (rs := [10, 15]) (by kernel_rfl) (by simp) ?_
              refine AllReadyH.cons rfl (fun K hK => ?_) (AllReadyH.cons rfl (fun K hK => ?_) AllReadyH.nil)
              · (try simp only [List.getElem_toArray]); (try simp only [List.getElem_cons_succ]); (try simp only [List.getElem_cons_zero])
                go_simp
                have kk3 := kk
                replace kk := kk.trans ((Keep.refl Nix w3).alloc (.cells #[.int .u64 h.fTxn, .slice bK h.fKeys.length dK, .slice bS h.fSpans.length dS, .slice bW h.fWrites.length dW] 28))
                refine hK.out _ _ ((HSS.out _ kk.nix)) (fun hHeld => ?_)
                clear hK K
                (try simp only [Act.put]); (try simp only [List.getElem_toArray]); (try simp only [List.getElem_cons_succ]); (try simp only [List.getElem_cons_zero]); (try simp only [List.setIfInBounds_toArray]); (try simp only [List.set_cons_succ]); (try simp only [List.set_cons_zero])
                refine wpAnyH_ready (rs := [11, 15]) (by kernel_rfl) (by simp) ?_
                refine AllReadyH.cons rfl (fun K hK => ?_) (AllReadyH.cons rfl (fun K hK => ?_) AllReadyH.nil)
                · refine step_append1 (w := w3) (cs := [.int .u64 h.fTxn, .slice bK h.fKeys.length dK, .slice bS h.fSpans.length dS, .slice bW h.fWrites.length dW]) T_lHeld (by rfl) (.tmp 42) (.tmp 45) (by rfl) wE.heap.size (by rfl) (by rfl) own1 (by rfl) (by rfl) (by unfold maxLen; omega) (by omega) kk3.size ?_
                  intro a2 c2 w4 own2 k4 hf2
                  replace kk := kk3.then k4 (fun i hi hb => by have := (hge1 i hb).1; omega)
                  have hs4 := k4.size
                  have hge2 : ∀ i, OwnB (.slice a2 (k + 1) c2) i → wE.heap.size ≤ i := fun i hi => (own2.lt i hi).1
                  refine hK.out _ _ ((HSS.out _ kk.nix)) (fun hHeld => ?_)
                  clear hK K
                  (try simp only [Act.put]); (try simp only [List.getElem_toArray]); (try simp only [List.getElem_cons_succ]); (try simp only [List.getElem_cons_zero]); (try simp only [List.setIfInBounds_toArray]); (try simp only [List.set_cons_succ]); (try simp only [List.set_cons_zero])
                  refine wpAnyH_ready (rs := [15]) (by kernel_rfl) (by simp) ?_
                  refine AllReadyH.cons rfl (fun K hK => ?_) AllReadyH.nil
                  have z1 := (HTE.out.nix kk).row.cell 0
                  (try simp only [List.getElem?_cons_zero] at z1)
                  (try simp only [List.getElem_toArray]); (try simp only [List.getElem_cons_succ]); (try simp only [List.getElem_cons_zero])
                  go_simp
                  clear z1
                  refine hK.out _ _ ((HSS.out _ kk.nix)) (fun hHeld => ?_)
                  clear hK K
                  (try simp only [Act.put]); (try simp only [List.getElem_toArray]); (try simp only [List.getElem_cons_succ]); (try simp only [List.getElem_cons_zero]); (try simp only [List.setIfInBounds_toArray]); (try simp only [List.set_cons_succ]); (try simp only [List.set_cons_zero])
                  refine wpAnyH_take (i := 17) (v := ?_) rfl (by kernel_rfl) (by kernel_rfl) (by kernel_rfl) (fun _ _ _ h => h) (Or.inl ⟨by kernel_rfl, ?_⟩) hHeld ?_
                  rotate_left
                  · intro w' hSw
                    (try dsimp only at hSw)
                    (try simp only [List.getElem_toArray]); (try simp only [List.getElem_cons_succ]); (try simp only [List.getElem_cons_zero])
                    go_simp
                    try with_reducible rfl
                  (try simp only [Act.put]); (try simp only [List.getElem_toArray]); (try simp only [List.getElem_cons_succ]); (try simp only [List.getElem_cons_zero]); (try simp only [List.setIfInBounds_toArray]); (try simp only [List.set_cons_succ]); (try simp only [List.set_cons_zero])
                  refine wpAnyH_ready (rs := [18]) (by kernel_rfl) (by simp) ?_
                  refine AllReadyH.cons rfl (fun K hK => ?_) AllReadyH.nil
                  obtain ⟨a3, c3, w5, hr3, own3, k5, hf3⟩ := appF_run T_lHeld 22 wE.heap.size own2 (css.drop k).flatten (m := (L.length - k)) (c := (cL - k)) (by rw [flat_lenN (n := 4) (fun c hc => H4.out c (List.mem_of_mem_drop hc)), List.length_drop, HCL.out]; try omega) (LR.keep kk (fun _ _ h => h)) (fun u hu => HON.out u (by rw [← flat_dropN H4.out] at hu; exact List.mem_of_mem_drop hu)) (by unfold maxLen; omega) (by omega) kk.size
                  (try rw [Nat.add_zero] at hr3 own3 hf3)
                  refine step_app (by kernel_rfl) _ _ rfl rfl rfl hr3 ?_
                  replace kk := kk.then k5 (fun i hi hb => by have := hge2 i hb; omega)
                  have hs5 := k5.size
                  refine hK.out _ _ ((HSS.out _ kk.nix)) (fun hHeld => ?_)
                  clear hK K
                  (try simp only [Act.put]); (try simp only [List.getElem_toArray]); (try simp only [List.getElem_cons_succ]); (try simp only [List.getElem_cons_zero]); (try simp only [List.setIfInBounds_toArray]); (try simp only [List.set_cons_succ]); (try simp only [List.set_cons_zero])
                  refine wpAnyH_take (i := 19) (v := ?_) rfl (by kernel_rfl) (by kernel_rfl) (by kernel_rfl) (fun _ _ _ h => h) (Or.inl ⟨by kernel_rfl, ?_⟩) hHeld ?_
                  rotate_left
                  · intro w' hSw
                    (try dsimp only at hSw)
                    (try simp only [List.getElem_toArray]); (try simp only [List.getElem_cons_succ]); (try simp only [List.getElem_cons_zero])
                    go_simp
                    try with_reducible rfl
                  (try simp only [Act.put]); (try simp only [List.getElem_toArray]); (try simp only [List.getElem_cons_succ]); (try simp only [List.getElem_cons_zero]); (try simp only [List.setIfInBounds_toArray]); (try simp only [List.set_cons_succ]); (try simp only [List.set_cons_zero])
                  refine wpAnyH_take (i := 20) (v := ?_) rfl (by kernel_rfl) (by kernel_rfl) (by kernel_rfl) (fun _ _ _ h => h) (Or.inl ⟨by kernel_rfl, ?_⟩) hHeld ?_
                  rotate_left
                  · intro w' hSw
                    (try dsimp only at hSw)
                    (try simp only [List.getElem_toArray]); (try simp only [List.getElem_cons_succ]); (try simp only [List.getElem_cons_zero])
                    go_simp
                    try with_reducible rfl
                  (try simp only [Act.put]); (try simp only [List.getElem_toArray]); (try simp only [List.getElem_cons_succ]); (try simp only [List.getElem_cons_zero]); (try simp only [List.setIfInBounds_toArray]); (try simp only [List.set_cons_succ]); (try simp only [List.set_cons_zero])
                  refine wpAnyH_ready (rs := [21]) (by kernel_rfl) (by simp) ?_
                  refine AllReadyH.cons rfl (fun K hK => ?_) AllReadyH.nil
                  have T5 := HTE.out.nix kk
                  have z1 := T5.row.cell 0
                  (try simp only [List.getElem?_cons_zero] at z1)
                  have zf := T5.row.frozen 0
                  have kS : Keep (· = b) w5 (w5.setCell ⟨b, 0, none⟩ (.slice a3 (k + 1 + (L.length - k)) c3)) := (Keep.refl (· = b) w5).setCell (p := ⟨b, 0, none⟩) (fun _ => rfl) _
                  have rowS := T5.row.set 0 (.slice a3 (k + 1 + (L.length - k)) c3)
                  (try simp only [List.set_cons_zero] at rowS)
                  (try simp only [List.getElem_toArray]); (try simp only [List.getElem_cons_succ]); (try simp only [List.getElem_cons_zero])
                  go_simp
                  clear z1 zf
                  have kT := kk.nix.trans kS
                  refine hK.out _ _ ((HSS.out _ kT)) (fun hHeld => ?_)
                  clear hK K
                  (try simp only [Act.put]); (try simp only [List.getElem_toArray]); (try simp only [List.getElem_cons_succ]); (try simp only [List.getElem_cons_zero]); (try simp only [List.setIfInBounds_toArray]); (try simp only [List.set_cons_succ]); (try simp only [List.set_cons_zero])
                  refine wpAnyH_done (by kernel_rfl) ?_ _
                  clear hHeld
                  have hge3 : ∀ i, OwnB (.slice a3 (k + 1 + (L.length - k)) c3) i → wE.heap.size ≤ i ∧ i < w5.heap.size := fun i hi => own3.lt i hi
                  have hbE := HBE.out
                  have HO := Lib.hid (owned_keep own3 kS (fun i hi e => by have := (hge3 i hi).1; omega))
                  have e1 := (HTE.out.els.takeN k).keep rGHeld_lawful kT (fun i hi => hi.2.1)
                  have e2 := (HTE.out.els.dropN k).keep rGHeld_lawful kT (fun i hi => hi.2.1)
                  have e3 := rGHeld_lawful.keep (rGHeld_lawful.keep (rGHeld_lawful.keep rn2 k4 (fun i hi h => by have := (hge1 i h).2; have := hi.1; omega)) k5 (fun i hi h => by
                    rcases hf2 i h with h | h
                    · have := (hge1 i h).2; have := hi.1; omega
                    · have := hi.2; omega)) kS (fun i hi e => by have := hi.1; omega)
                  have HE1 := Lib.hid e1
                  have HE2 := Lib.hid e2
                  have HE3 := Lib.hid e3
                  have HRS := Lib.hid rowS
                  have HKT := Lib.hid kT
                  have hsS := kS.size
                  have HF3 : Hid (∀ i, NewIn w2 w3 i → ¬ OwnB (.slice a3 (k + 1 + (L.length - k)) c3) i) := fun i hi h => by
                    rcases hf3 i h with h | h
                    · rcases hf2 i h with h | h
                      · have := (hge1 i h).2; have := hi.1; omega
                      · have := hi.2; omega
                    · have := hi.2; omega
                  clear e1 e2 e3 rowS kT kS own1 own2 own3 k4 k5 kk kk3 hf2 hf3 rn2 LA LR hr3 T5
                  go_wp2_with fail
                  go_ret
                  rw [HPT.out, HY0.out]
                  have hwE := HWE.out
                  have hlen : (L.take k ++ h :: L.drop k).length = k + 1 + (L.length - k) := by rw [List.length_append, List.length_cons, List.length_take, List.length_drop]; omega
                  refine ⟨rfl, a3, c3, css.take k ++ [.int .u64 h.fTxn, .slice bK h.fKeys.length dK, .slice bS h.fSpans.length dS, .slice bW h.fWrites.length dW] :: css.drop k, ⟨by rw [hlen]; exact HRS.out, ?_, ?_, ?_, ?_, .inl HTE.out.qb, ?_⟩, (HKE.out.nix (S := (· = b))).trans HKT.out⟩
                  · rw [hlen, List.flatten_append, List.flatten_cons, ← List.append_assoc]
                    exact own_from HO.out (Nat.zero_le _)
                  · rw [hlen]
                    have hq : ∀ i, Q i → ¬ OwnB (.slice a3 (k + 1 + (L.length - k)) c3) i := fun i hi h => by have := (hge3 i h).1; have := HQL.out i hi; omega
                    refine Els.app (HE1.out.mono rGHeld_lawful (fun i hi => ⟨.inl hi.1, hi.2.1, hq i hi.1⟩)) (Els.cons (rGHeld_lawful.mono HE3.out (fun i hi => ⟨.inr ⟨?_, ?_⟩, ?_, HF3.out i hi⟩)) (HE2.out.mono rGHeld_lawful (fun i hi => ⟨.inl hi.1, hi.2.1, hq i hi.1⟩)))
                    · have := hi.1; omega
                    · have := hi.2; omega
                    · have := hi.1; omega
                  · rw [hlen]; exact fun h => by have := (hge3 b h).1; omega
                  · intro i hi
                    rcases hi with h | h
                    · have := HQL.out i h; omega
                    · exact h.2
                  · rw [hlen]
                    intro i hi
                    have := hge3 i hi
                    exact .inr ⟨by omega, by omega⟩
                · have z1 := (HTE.out.nix kk).row.cell 0
                  (try simp only [List.getElem?_cons_zero] at z1)
                  (try simp only [List.getElem_toArray]); (try simp only [List.getElem_cons_succ]); (try simp only [List.getElem_cons_zero])
                  go_simp
                  clear z1
                  refine hK.out _ _ ((HSS.out _ kk.nix)) (fun hHeld => ?_)
                  clear hK K
                  (try simp only [Act.put]); (try simp only [List.getElem_toArray]); (try simp only [List.getElem_cons_succ]); (try simp only [List.getElem_cons_zero]); (try simp only [List.setIfInBounds_toArray]); (try simp only [List.set_cons_succ]); (try simp only [List.set_cons_zero])
                  refine wpAnyH_take (i := 17) (v := ?_) rfl (by kernel_rfl) (by kernel_rfl) (by kernel_rfl) (fun _ _ _ h => h) (Or.inl ⟨by kernel_rfl, ?_⟩) hHeld ?_
                  rotate_left
                  · intro w' hSw
                    (try dsimp only at hSw)
                    (try simp only [List.getElem_toArray]); (try simp only [List.getElem_cons_succ]); (try simp only [List.getElem_cons_zero])
                    go_simp
                    try with_reducible rfl
                  (try simp only [Act.put]); (try simp only [List.getElem_toArray]); (try simp only [List.getElem_cons_succ]); (try simp only [List.getElem_cons_zero]); (try simp only [List.setIfInBounds_toArray]); (try simp only [List.set_cons_succ]); (try simp only [List.set_cons_zero])
                  refine wpAnyH_ready (rs := [11]) (by kernel_rfl) (by simp) ?_
                  refine AllReadyH.cons rfl (fun K hK => ?_) AllReadyH.nil
                  refine step_append1 (w := w3) (cs := [.int .u64 h.fTxn, .slice bK h.fKeys.length dK, .slice bS h.fSpans.length dS, .slice bW h.fWrites.length dW]) T_lHeld (by rfl) (.tmp 42) (.tmp 45) (by rfl) wE.heap.size (by rfl) (by rfl) own1 (by rfl) (by rfl) (by unfold maxLen; omega) (by omega) kk3.size ?_
                  intro a2 c2 w4 own2 k4 hf2
                  replace kk := kk3.then k4 (fun i hi hb => by have := (hge1 i hb).1; omega)
                  have hs4 := k4.size
                  have hge2 : ∀ i, OwnB (.slice a2 (k + 1) c2) i → wE.heap.size ≤ i := fun i hi => (own2.lt i hi).1
                  refine hK.out _ _ ((HSS.out _ kk.nix)) (fun hHeld => ?_)
                  clear hK K
                  (try simp only [Act.put]); (try simp only [List.getElem_toArray]); (try simp only [List.getElem_cons_succ]); (try simp only [List.getElem_cons_zero]); (try simp only [List.setIfInBounds_toArray]); (try simp only [List.set_cons_succ]); (try simp only [List.set_cons_zero])
                  refine wpAnyH_ready (rs := [18]) (by kernel_rfl) (by simp) ?_
                  refine AllReadyH.cons rfl (fun K hK => ?_) AllReadyH.nil
                  obtain ⟨a3, c3, w5, hr3, own3, k5, hf3⟩ := appF_run T_lHeld 22 wE.heap.size own2 (css.drop k).flatten (m := (L.length - k)) (c := (cL - k)) (by rw [flat_lenN (n := 4) (fun c hc => H4.out c (List.mem_of_mem_drop hc)), List.length_drop, HCL.out]; try omega) (LR.keep kk (fun _ _ h => h)) (fun u hu => HON.out u (by rw [← flat_dropN H4.out] at hu; exact List.mem_of_mem_drop hu)) (by unfold maxLen; omega) (by omega) kk.size
                  (try rw [Nat.add_zero] at hr3 own3 hf3)
                  refine step_app (by kernel_rfl) _ _ rfl rfl rfl hr3 ?_
                  replace kk := kk.then k5 (fun i hi hb => by have := hge2 i hb; omega)
                  have hs5 := k5.size
                  refine hK.out _ _ ((HSS.out _ kk.nix)) (fun hHeld => ?_)
                  clear hK K
                  (try simp only [Act.put]); (try simp only [List.getElem_toArray]); (try simp only [List.getElem_cons_succ]); (try simp only [List.getElem_cons_zero]); (try simp only [List.setIfInBounds_toArray]); (try simp only [List.set_cons_succ]); (try simp only [List.set_cons_zero])
                  refine wpAnyH_take (i := 19) (v := ?_) rfl (by kernel_rfl) (by kernel_rfl) (by kernel_rfl) (fun _ _ _ h => h) (Or.inl ⟨by kernel_rfl, ?_⟩) hHeld ?_
                  rotate_left
                  · intro w' hSw
                    (try dsimp only at hSw)
                    (try simp only [List.getElem_toArray]); (try simp only [List.getElem_cons_succ]); (try simp only [List.getElem_cons_zero])
                    go_simp
                    try with_reducible rfl
                  (try simp only [Act.put]); (try simp only [List.getElem_toArray]); (try simp only [List.getElem_cons_succ]); (try simp only [List.getElem_cons_zero]); (try simp only [List.setIfInBounds_toArray]); (try simp only [List.set_cons_succ]); (try simp only [List.set_cons_zero])
                  refine wpAnyH_take (i := 20) (v := ?_) rfl (by kernel_rfl) (by kernel_rfl) (by kernel_rfl) (fun _ _ _ h => h) (Or.inl ⟨by kernel_rfl, ?_⟩) hHeld ?_
                  rotate_left
                  · intro w' hSw
                    (try dsimp only at hSw)
                    (try simp only [List.getElem_toArray]); (try simp only [List.getElem_cons_succ]); (try simp only [List.getElem_cons_zero])
                    go_simp
                    try with_reducible rfl
                  (try simp only [Act.put]); (try simp only [List.getElem_toArray]); (try simp only [List.getElem_cons_succ]); (try simp only [List.getElem_cons_zero]); (try simp only [List.setIfInBounds_toArray]); (try simp only [List.set_cons_succ]); (try simp only [List.set_cons_zero])
                  refine wpAnyH_ready (rs := [21]) (by kernel_rfl) (by simp) ?_
                  refine AllReadyH.cons rfl (fun K hK => ?_) AllReadyH.nil
                  have T5 := HTE.out.nix kk
                  have z1 := T5.row.cell 0
                  (try simp only [List.getElem?_cons_zero] at z1)
                  have zf := T5.row.frozen 0
                  have kS : Keep (· = b) w5 (w5.setCell ⟨b, 0, none⟩ (.slice a3 (k + 1 + (L.length - k)) c3)) := (Keep.refl (· = b) w5).setCell (p := ⟨b, 0, none⟩) (fun _ => rfl) _
                  have rowS := T5.row.set 0 (.slice a3 (k + 1 + (L.length - k)) c3)
                  (try simp only [List.set_cons_zero] at rowS)
                  (try simp only [List.getElem_toArray]); (try simp only [List.getElem_cons_succ]); (try simp only [List.getElem_cons_zero])
                  go_simp
                  clear z1 zf
                  have kT := kk.nix.trans kS
                  refine hK.out _ _ ((HSS.out _ kT)) (fun hHeld => ?_)
                  clear hK K
                  (try simp only [Act.put]); (try simp only [List.getElem_toArray]); (try simp only [List.getElem_cons_succ]); (try simp only [List.getElem_cons_zero]); (try simp only [List.setIfInBounds_toArray]); (try simp only [List.set_cons_succ]); (try simp only [List.set_cons_zero])
                  refine wpAnyH_done (by kernel_rfl) ?_ _
                  clear hHeld
                  have hge3 : ∀ i, OwnB (.slice a3 (k + 1 + (L.length - k)) c3) i → wE.heap.size ≤ i ∧ i < w5.heap.size := fun i hi => own3.lt i hi
                  have hbE := HBE.out
                  have HO := Lib.hid (owned_keep own3 kS (fun i hi e => by have := (hge3 i hi).1; omega))
                  have e1 := (HTE.out.els.takeN k).keep rGHeld_lawful kT (fun i hi => hi.2.1)
                  have e2 := (HTE.out.els.dropN k).keep rGHeld_lawful kT (fun i hi => hi.2.1)
                  have e3 := rGHeld_lawful.keep (rGHeld_lawful.keep (rGHeld_lawful.keep rn2 k4 (fun i hi h => by have := (hge1 i h).2; have := hi.1; omega)) k5 (fun i hi h => by
                    rcases hf2 i h with h | h
                    · have := (hge1 i h).2; have := hi.1; omega
                    · have := hi.2; omega)) kS (fun i hi e => by have := hi.1; omega)
                  have HE1 := Lib.hid e1
                  have HE2 := Lib.hid e2
                  have HE3 := Lib.hid e3
                  have HRS := Lib.hid rowS
                  have HKT := Lib.hid kT
                  have hsS := kS.size
                  have HF3 : Hid (∀ i, NewIn w2 w3 i → ¬ OwnB (.slice a3 (k + 1 + (L.length - k)) c3) i) := fun i hi h => by
                    rcases hf3 i h with h | h
                    · rcases hf2 i h with h | h
                      · have := (hge1 i h).2; have := hi.1; omega
                      · have := hi.2; omega
                    · have := hi.2; omega
                  clear e1 e2 e3 rowS kT kS own1 own2 own3 k4 k5 kk kk3 hf2 hf3 rn2 LA LR hr3 T5
                  go_wp2_with fail
                  go_ret
                  rw [HPT.out, HY0.out]
                  have hwE := HWE.out
                  have hlen : (L.take k ++ h :: L.drop k).length = k + 1 + (L.length - k) := by rw [List.length_append, List.length_cons, List.length_take, List.length_drop]; omega
                  refine ⟨rfl, a3, c3, css.take k ++ [.int .u64 h.fTxn, .slice bK h.fKeys.length dK, .slice bS h.fSpans.length dS, .slice bW h.fWrites.length dW] :: css.drop k, ⟨by rw [hlen]; exact HRS.out, ?_, ?_, ?_, ?_, .inl HTE.out.qb, ?_⟩, (HKE.out.nix (S := (· = b))).trans HKT.out⟩
                  · rw [hlen, List.flatten_append, List.flatten_cons, ← List.append_assoc]
                    exact own_from HO.out (Nat.zero_le _)
                  · rw [hlen]
                    have hq : ∀ i, Q i → ¬ OwnB (.slice a3 (k + 1 + (L.length - k)) c3) i := fun i hi h => by have := (hge3 i h).1; have := HQL.out i hi; omega
                    refine Els.app (HE1.out.mono rGHeld_lawful (fun i hi => ⟨.inl hi.1, hi.2.1, hq i hi.1⟩)) (Els.cons (rGHeld_lawful.mono HE3.out (fun i hi => ⟨.inr ⟨?_, ?_⟩, ?_, HF3.out i hi⟩)) (HE2.out.mono rGHeld_lawful (fun i hi => ⟨.inl hi.1, hi.2.1, hq i hi.1⟩)))
                    · have := hi.1; omega
                    · have := hi.2; omega
                    · have := hi.1; omega
                  · rw [hlen]; exact fun h => by have := (hge3 b h).1; omega
                  · intro i hi
                    rcases hi with h | h
                    · have := HQL.out i h; omega
                    · exact h.2
                  · rw [hlen]
                    intro i hi
                    have := hge3 i hi
                    exact .inr ⟨by omega, by omega⟩
              · have z1 := (HTE.out.nix kk).row.cell 0
                (try simp only [List.getElem?_cons_zero] at z1)
                (try simp only [List.getElem_toArray]); (try simp only [List.getElem_cons_succ]); (try simp only [List.getElem_cons_zero])
                go_simp
                clear z1
                refine hK.out _ _ ((HSS.out _ kk.nix)) (fun hHeld => ?_)
                clear hK K
                (try simp only [Act.put]); (try simp only [List.getElem_toArray]); (try simp only [List.getElem_cons_succ]); (try simp only [List.getElem_cons_zero]); (try simp only [List.setIfInBounds_toArray]); (try simp only [List.set_cons_succ]); (try simp only [List.set_cons_zero])
                refine wpAnyH_take (i := 17) (v := ?_) rfl (by kernel_rfl) (by kernel_rfl) (by kernel_rfl) (fun _ _ _ h => h) (Or.inl ⟨by kernel_rfl, ?_⟩) hHeld ?_
                rotate_left
                · intro w' hSw
                  (try dsimp only at hSw)
                  (try simp only [List.getElem_toArray]); (try simp only [List.getElem_cons_succ]); (try simp only [List.getElem_cons_zero])
                  go_simp
                  try with_reducible rfl
                (try simp only [Act.put]); (try simp only [List.getElem_toArray]); (try simp only [List.getElem_cons_succ]); (try simp only [List.getElem_cons_zero]); (try simp only [List.setIfInBounds_toArray]); (try simp only [List.set_cons_succ]); (try simp only [List.set_cons_zero])
                refine wpAnyH_ready (rs := [10]) (by kernel_rfl) (by simp) ?_
                refine AllReadyH.cons rfl (fun K hK => ?_) AllReadyH.nil
                (try simp only [List.getElem_toArray]); (try simp only [List.getElem_cons_succ]); (try simp only [List.getElem_cons_zero])
                go_simp
                have kk3 := kk
                replace kk := kk.trans ((Keep.refl Nix w3).alloc (.cells #[.int .u64 h.fTxn, .slice bK h.fKeys.length dK, .slice bS h.fSpans.length dS, .slice bW h.fWrites.length dW] 28))
                refine hK.out _ _ ((HSS.out _ kk.nix)) (fun hHeld => ?_)
                clear hK K
                (try simp only [Act.put]); (try simp only [List.getElem_toArray]); (try simp only [List.getElem_cons_succ]); (try simp only [List.getElem_cons_zero]); (try simp only [List.setIfInBounds_toArray]); (try simp only [List.set_cons_succ]); (try simp only [List.set_cons_zero])
                refine wpAnyH_ready (rs := [11]) (by kernel_rfl) (by simp) ?_
                refine AllReadyH.cons rfl (fun K hK => ?_) AllReadyH.nil
                refine step_append1 (w := w3) (cs := [.int .u64 h.fTxn, .slice bK h.fKeys.length dK, .slice bS h.fSpans.length dS, .slice bW h.fWrites.length dW]) T_lHeld (by rfl) (.tmp 42) (.tmp 45) (by rfl) wE.heap.size (by rfl) (by rfl) own1 (by rfl) (by rfl) (by unfold maxLen; omega) (by omega) kk3.size ?_
                intro a2 c2 w4 own2 k4 hf2
                replace kk := kk3.then k4 (fun i hi hb => by have := (hge1 i hb).1; omega)
                have hs4 := k4.size
                have hge2 : ∀ i, OwnB (.slice a2 (k + 1) c2) i → wE.heap.size ≤ i := fun i hi => (own2.lt i hi).1
                refine hK.out _ _ ((HSS.out _ kk.nix)) (fun hHeld => ?_)
                clear hK K
                (try simp only [Act.put]); (try simp only [List.getElem_toArray]); (try simp only [List.getElem_cons_succ]); (try simp only [List.getElem_cons_zero]); (try simp only [List.setIfInBounds_toArray]); (try simp only [List.set_cons_succ]); (try simp only [List.set_cons_zero])
                refine wpAnyH_ready (rs := [18]) (by kernel_rfl) (by simp) ?_
                refine AllReadyH.cons rfl (fun K hK => ?_) AllReadyH.nil
                obtain ⟨a3, c3, w5, hr3, own3, k5, hf3⟩ := appF_run T_lHeld 22 wE.heap.size own2 (css.drop k).flatten (m := (L.length - k)) (c := (cL - k)) (by rw [flat_lenN (n := 4) (fun c hc => H4.out c (List.mem_of_mem_drop hc)), List.length_drop, HCL.out]; try omega) (LR.keep kk (fun _ _ h => h)) (fun u hu => HON.out u (by rw [← flat_dropN H4.out] at hu; exact List.mem_of_mem_drop hu)) (by unfold maxLen; omega) (by omega) kk.size
                (try rw [Nat.add_zero] at hr3 own3 hf3)
                refine step_app (by kernel_rfl) _ _ rfl rfl rfl hr3 ?_
                replace kk := kk.then k5 (fun i hi hb => by have := hge2 i hb; omega)
                have hs5 := k5.size
                refine hK.out _ _ ((HSS.out _ kk.nix)) (fun hHeld => ?_)
                clear hK K
                (try simp only [Act.put]); (try simp only [List.getElem_toArray]); (try simp only [List.getElem_cons_succ]); (try simp only [List.getElem_cons_zero]); (try simp only [List.setIfInBounds_toArray]); (try simp only [List.set_cons_succ]); (try simp only [List.set_cons_zero])
                refine wpAnyH_take (i := 19) (v := ?_) rfl (by kernel_rfl) (by kernel_rfl) (by kernel_rfl) (fun _ _ _ h => h) (Or.inl ⟨by kernel_rfl, ?_⟩) hHeld ?_
                rotate_left
                · intro w' hSw
                  (try dsimp only at hSw)
                  (try simp only [List.getElem_toArray]); (try simp only [List.getElem_cons_succ]); (try simp only [List.getElem_cons_zero])
                  go_simp
                  try with_reducible rfl
                (try simp only [Act.put]); (try simp only [List.getElem_toArray]); (try simp only [List.getElem_cons_succ]); (try simp only [List.getElem_cons_zero]); (try simp only [List.setIfInBounds_toArray]); (try simp only [List.set_cons_succ]); (try simp only [List.set_cons_zero])
                refine wpAnyH_take (i := 20) (v := ?_) rfl (by kernel_rfl) (by kernel_rfl) (by kernel_rfl) (fun _ _ _ h => h) (Or.inl ⟨by kernel_rfl, ?_⟩) hHeld ?_
                rotate_left
                · intro w' hSw
                  (try dsimp only at hSw)
                  (try simp only [List.getElem_toArray]); (try simp only [List.getElem_cons_succ]); (try simp only [List.getElem_cons_zero])
                  go_simp
                  try with_reducible rfl
                (try simp only [Act.put]); (try simp only [List.getElem_toArray]); (try simp only [List.getElem_cons_succ]); (try simp only [List.getElem_cons_zero]); (try simp only [List.setIfInBounds_toArray]); (try simp only [List.set_cons_succ]); (try simp only [List.set_cons_zero])
                refine wpAnyH_ready (rs := [21]) (by kernel_rfl) (by simp) ?_
                refine AllReadyH.cons rfl (fun K hK => ?_) AllReadyH.nil
                have T5 := HTE.out.nix kk
                have z1 := T5.row.cell 0
                (try simp only [List.getElem?_cons_zero] at z1)
                have zf := T5.row.frozen 0
                have kS : Keep (· = b) w5 (w5.setCell ⟨b, 0, none⟩ (.slice a3 (k + 1 + (L.length - k)) c3)) := (Keep.refl (· = b) w5).setCell (p := ⟨b, 0, none⟩) (fun _ => rfl) _
                have rowS := T5.row.set 0 (.slice a3 (k + 1 + (L.length - k)) c3)
                (try simp only [List.set_cons_zero] at rowS)
                (try simp only [List.getElem_toArray]); (try simp only [List.getElem_cons_succ]); (try simp only [List.getElem_cons_zero])
                go_simp
                clear z1 zf
                have kT := kk.nix.trans kS
                refine hK.out _ _ ((HSS.out _ kT)) (fun hHeld => ?_)
                clear hK K
                (try simp only [Act.put]); (try simp only [List.getElem_toArray]); (try simp only [List.getElem_cons_succ]); (try simp only [List.getElem_cons_zero]); (try simp only [List.setIfInBounds_toArray]); (try simp only [List.set_cons_succ]); (try simp only [List.set_cons_zero])
                refine wpAnyH_done (by kernel_rfl) ?_ _
                clear hHeld
                have hge3 : ∀ i, OwnB (.slice a3 (k + 1 + (L.length - k)) c3) i → wE.heap.size ≤ i ∧ i < w5.heap.size := fun i hi => own3.lt i hi
                have hbE := HBE.out
                have HO := Lib.hid (owned_keep own3 kS (fun i hi e => by have := (hge3 i hi).1; omega))
                have e1 := (HTE.out.els.takeN k).keep rGHeld_lawful kT (fun i hi => hi.2.1)
                have e2 := (HTE.out.els.dropN k).keep rGHeld_lawful kT (fun i hi => hi.2.1)
                have e3 := rGHeld_lawful.keep (rGHeld_lawful.keep (rGHeld_lawful.keep rn2 k4 (fun i hi h => by have := (hge1 i h).2; have := hi.1; omega)) k5 (fun i hi h => by
                  rcases hf2 i h with h | h
                  · have := (hge1 i h).2; have := hi.1; omega
                  · have := hi.2; omega)) kS (fun i hi e => by have := hi.1; omega)
                have HE1 := Lib.hid e1
                have HE2 := Lib.hid e2
                have HE3 := Lib.hid e3
                have HRS := Lib.hid rowS
                have HKT := Lib.hid kT
                have hsS := kS.size
                have HF3 : Hid (∀ i, NewIn w2 w3 i → ¬ OwnB (.slice a3 (k + 1 + (L.length - k)) c3) i) := fun i hi h => by
                  rcases hf3 i h with h | h
                  · rcases hf2 i h with h | h
                    · have := (hge1 i h).2; have := hi.1; omega
                    · have := hi.2; omega
                  · have := hi.2; omega
                clear e1 e2 e3 rowS kT kS own1 own2 own3 k4 k5 kk kk3 hf2 hf3 rn2 LA LR hr3 T5
                go_wp2_with fail
                go_ret
                rw [HPT.out, HY0.out]
                have hwE := HWE.out
                have hlen : (L.take k ++ h :: L.drop k).length = k + 1 + (L.length - k) := by rw [List.length_append, List.length_cons, List.length_take, List.length_drop]; omega
                refine ⟨rfl, a3, c3, css.take k ++ [.int .u64 h.fTxn, .slice bK h.fKeys.length dK, .slice bS h.fSpans.length dS, .slice bW h.fWrites.length dW] :: css.drop k, ⟨by rw [hlen]; exact HRS.out, ?_, ?_, ?_, ?_, .inl HTE.out.qb, ?_⟩, (HKE.out.nix (S := (· = b))).trans HKT.out⟩
                · rw [hlen, List.flatten_append, List.flatten_cons, ← List.append_assoc]
                  exact own_from HO.out (Nat.zero_le _)
                · rw [hlen]
                  have hq : ∀ i, Q i → ¬ OwnB (.slice a3 (k + 1 + (L.length - k)) c3) i := fun i hi h => by have := (hge3 i h).1; have := HQL.out i hi; omega
                  refine Els.app (HE1.out.mono rGHeld_lawful (fun i hi => ⟨.inl hi.1, hi.2.1, hq i hi.1⟩)) (Els.cons (rGHeld_lawful.mono HE3.out (fun i hi => ⟨.inr ⟨?_, ?_⟩, ?_, HF3.out i hi⟩)) (HE2.out.mono rGHeld_lawful (fun i hi => ⟨.inl hi.1, hi.2.1, hq i hi.1⟩)))
                  · have := hi.1; omega
                  · have := hi.2; omega
                  · have := hi.1; omega
                · rw [hlen]; exact fun h => by have := (hge3 b h).1; omega
                · intro i hi
                  rcases hi with h | h
                  · have := HQL.out i h; omega
                  · exact h.2
                · rw [hlen]
                  intro i hi
                  have := hge3 i hi
                  exact .inr ⟨by omega, by omega⟩
            · have z1 := (HTE.out.nix kk).row.cell 0
              (try simp only [List.getElem?_cons_zero] at z1)
              (try simp only [List.getElem_toArray]); (try simp only [List.getElem_cons_succ]); (try simp only [List.getElem_cons_zero])
              go_simp
              clear z1
              refine hK.out _ _ ((HSS.out _ kk.nix)) (fun hHeld => ?_)
              clear hK K
              (try simp only [Act.put]); (try simp only [List.getElem_toArray]); (try simp only [List.getElem_cons_succ]); (try simp only [List.getElem_cons_zero]); (try simp only [List.setIfInBounds_toArray]); (try simp only [List.set_cons_succ]); (try simp only [List.set_cons_zero])
              refine wpAnyH_take (i := 17) (v := ?_) rfl (by kernel_rfl) (by kernel_rfl) (by kernel_rfl) (fun _ _ _ h => h) (Or.inl ⟨by kernel_rfl, ?_⟩) hHeld ?_
              rotate_left
              · intro w' hSw
                (try dsimp only at hSw)
                (try simp only [List.getElem_toArray]); (try simp only [List.getElem_cons_succ]); (try simp only [List.getElem_cons_zero])
                go_simp
                try with_reducible rfl
              (try simp only [Act.put]); (try simp only [List.getElem_toArray]); (try simp only [List.getElem_cons_succ]); (try simp only [List.getElem_cons_zero]); (try simp only [List.setIfInBounds_toArray]); (try simp only [List.set_cons_succ]); (try simp only [List.set_cons_zero])
              refine wpAnyH_ready (rs := [9]) (by kernel_rfl) (by simp) ?_
              refine AllReadyH.cons rfl (fun K hK => ?_) AllReadyH.nil
              (try simp only [List.getElem_toArray]); (try simp only [List.getElem_cons_succ]); (try simp only [List.getElem_cons_zero])
              go_simp
              have hCC := rcopy_c h [.int .u64 h.fTxn, .slice aK h.fKeys.length cK, .slice aS h.fSpans.length cS, .slice aW h.fWrites.length cW] w2 (rGHeld_lawful.nix HHE.out kk) HSM.out (fun i hi => by have := HPP.out i hi; have := kk.size; omega)
              go_fit hCC
              rintro e w3 ⟨cn, rfl, rn, k3⟩
              have rn2 := rn
              obtain ⟨bK, dK, bS, dS, bW, dW, rfl, -⟩ := rGHeld_open rn
              replace kk := kk.trans k3
              replace own1 := owned_keep own1 k3 (fun _ _ h => h)
              have hs3 := k3.size
              clear hCC rn k3
              go_wp2_with fail
              refine hK.out _ _ ((HSS.out _ kk.nix)) (fun hHeld => ?_)
              clear hK K
              (try simp only [Act.put]); (try simp only [List.getElem_toArray]); (try simp only [List.getElem_cons_succ]); (try simp only [List.getElem_cons_zero]); (try simp only [List.setIfInBounds_toArray]); (try simp only [List.set_cons_succ]); (try simp only [List.set_cons_zero])
              refine wpAnyH_ready (rs := [10]) (by kernel_rfl) (by simp) ?_
              refine AllReadyH.cons rfl (fun K hK => ?_) AllReadyH.nil
              (try simp only [List.getElem_toArray]); (try simp only [List.getElem_cons_succ]); (try simp only [List.getElem_cons_zero])
              go_simp
              have kk3 := kk
              replace kk := kk.trans ((Keep.refl Nix w3).alloc (.cells #[.int .u64 h.fTxn, .slice bK h.fKeys.length dK, .slice bS h.fSpans.length dS, .slice bW h.fWrites.length dW] 28))
              refine hK.out _ _ ((HSS.out _ kk.nix)) (fun hHeld => ?_)
              clear hK K
              (try simp only [Act.put]); (try simp only [List.getElem_toArray]); (try simp only [List.getElem_cons_succ]); (try simp only [List.getElem_cons_zero]); (try simp only [List.setIfInBounds_toArray]); (try simp only [List.set_cons_succ]); (try simp only [List.set_cons_zero])
              refine wpAnyH_ready (rs := [11]) (by kernel_rfl) (by simp) ?_
              refine AllReadyH.cons rfl (fun K hK => ?_) AllReadyH.nil
              refine step_append1 (w := w3) (cs := [.int .u64 h.fTxn, .slice bK h.fKeys.length dK, .slice bS h.fSpans.length dS, .slice bW h.fWrites.length dW]) T_lHeld (by rfl) (.tmp 42) (.tmp 45) (by rfl) wE.heap.size (by rfl) (by rfl) own1 (by rfl) (by rfl) (by unfold maxLen; omega) (by omega) kk3.size ?_
              intro a2 c2 w4 own2 k4 hf2
              replace kk := kk3.then k4 (fun i hi hb => by have := (hge1 i hb).1; omega)
              have hs4 := k4.size
              have hge2 : ∀ i, OwnB (.slice a2 (k + 1) c2) i → wE.heap.size ≤ i := fun i hi => (own2.lt i hi).1
              refine hK.out _ _ ((HSS.out _ kk.nix)) (fun hHeld => ?_)
              clear hK K
              (try simp only [Act.put]); (try simp only [List.getElem_toArray]); (try simp only [List.getElem_cons_succ]); (try simp only [List.getElem_cons_zero]); (try simp only [List.setIfInBounds_toArray]); (try simp only [List.set_cons_succ]); (try simp only [List.set_cons_zero])
              refine wpAnyH_ready (rs := [18]) (by kernel_rfl) (by simp) ?_
              refine AllReadyH.cons rfl (fun K hK => ?_) AllReadyH.nil
              obtain ⟨a3, c3, w5, hr3, own3, k5, hf3⟩ := appF_run T_lHeld 22 wE.heap.size own2 (css.drop k).flatten (m := (L.length - k)) (c := (cL - k)) (by rw [flat_lenN (n := 4) (fun c hc => H4.out c (List.mem_of_mem_drop hc)), List.length_drop, HCL.out]; try omega) (LR.keep kk (fun _ _ h => h)) (fun u hu => HON.out u (by rw [← flat_dropN H4.out] at hu; exact List.mem_of_mem_drop hu)) (by unfold maxLen; omega) (by omega) kk.size
              (try rw [Nat.add_zero] at hr3 own3 hf3)
              refine step_app (by kernel_rfl) _ _ rfl rfl rfl hr3 ?_
              replace kk := kk.then k5 (fun i hi hb => by have := hge2 i hb; omega)
              have hs5 := k5.size
              refine hK.out _ _ ((HSS.out _ kk.nix)) (fun hHeld => ?_)
              clear hK K
              (try simp only [Act.put]); (try simp only [List.getElem_toArray]); (try simp only [List.getElem_cons_succ]); (try simp only [List.getElem_cons_zero]); (try simp only [List.setIfInBounds_toArray]); (try simp only [List.set_cons_succ]); (try simp only [List.set_cons_zero])
              refine wpAnyH_take (i := 19) (v := ?_) rfl (by kernel_rfl) (by kernel_rfl) (by kernel_rfl) (fun _ _ _ h => h) (Or.inl ⟨by kernel_rfl, ?_⟩) hHeld ?_
              rotate_left
              · intro w' hSw
                (try dsimp only at hSw)
                (try simp only [List.getElem_toArray]); (try simp only [List.getElem_cons_succ]); (try simp only [List.getElem_cons_zero])
                go_simp
                try with_reducible rfl
              (try simp only [Act.put]); (try simp only [List.getElem_toArray]); (try simp only [List.getElem_cons_succ]); (try simp only [List.getElem_cons_zero]); (try simp only [List.setIfInBounds_toArray]); (try simp only [List.set_cons_succ]); (try simp only [List.set_cons_zero])
              refine wpAnyH_take (i := 20) (v := ?_) rfl (by kernel_rfl) (by kernel_rfl) (by kernel_rfl) (fun _ _ _ h => h) (Or.inl ⟨by kernel_rfl, ?_⟩) hHeld ?_
              rotate_left
              · intro w' hSw
                (try dsimp only at hSw)
                (try simp only [List.getElem_toArray]); (try simp only [List.getElem_cons_succ]); (try simp only [List.getElem_cons_zero])
                go_simp
                try with_reducible rfl
              (try simp only [Act.put]); (try simp only [List.getElem_toArray]); (try simp only [List.getElem_cons_succ]); (try simp only [List.getElem_cons_zero]); (try simp only [List.setIfInBounds_toArray]); (try simp only [List.set_cons_succ]); (try simp only [List.set_cons_zero])
              refine wpAnyH_ready (rs := [21]) (by kernel_rfl) (by simp) ?_
              refine AllReadyH.cons rfl (fun K hK => ?_) AllReadyH.nil
              have T5 := HTE.out.nix kk
              have z1 := T5.row.cell 0
              (try simp only [List.getElem?_cons_zero] at z1)
              have zf := T5.row.frozen 0
              have kS : Keep (· = b) w5 (w5.setCell ⟨b, 0, none⟩ (.slice a3 (k + 1 + (L.length - k)) c3)) := (Keep.refl (· = b) w5).setCell (p := ⟨b, 0, none⟩) (fun _ => rfl) _
              have rowS := T5.row.set 0 (.slice a3 (k + 1 + (L.length - k)) c3)
              (try simp only [List.set_cons_zero] at rowS)
              (try simp only [List.getElem_toArray]); (try simp only [List.getElem_cons_succ]); (try simp only [List.getElem_cons_zero])
              go_simp
              clear z1 zf
              have kT := kk.nix.trans kS
              refine hK.out _ _ ((HSS.out _ kT)) (fun hHeld => ?_)
              clear hK K
              (try simp only [Act.put]); (try simp only [List.getElem_toArray]); (try simp only [List.getElem_cons_succ]); (try simp only [List.getElem_cons_zero]); (try simp only [List.setIfInBounds_toArray]); (try simp only [List.set_cons_succ]); (try simp only [List.set_cons_zero])
              refine wpAnyH_done (by kernel_rfl) ?_ _
              clear hHeld
              have hge3 : ∀ i, OwnB (.slice a3 (k + 1 + (L.length - k)) c3) i → wE.heap.size ≤ i ∧ i < w5.heap.size := fun i hi => own3.lt i hi
              have hbE := HBE.out
              have HO := Lib.hid (owned_keep own3 kS (fun i hi e => by have := (hge3 i hi).1; omega))
              have e1 := (HTE.out.els.takeN k).keep rGHeld_lawful kT (fun i hi => hi.2.1)
              have e2 := (HTE.out.els.dropN k).keep rGHeld_lawful kT (fun i hi => hi.2.1)
              have e3 := rGHeld_lawful.keep (rGHeld_lawful.keep (rGHeld_lawful.keep rn2 k4 (fun i hi h => by have := (hge1 i h).2; have := hi.1; omega)) k5 (fun i hi h => by
                rcases hf2 i h with h | h
                · have := (hge1 i h).2; have := hi.1; omega
                · have := hi.2; omega)) kS (fun i hi e => by have := hi.1; omega)
              have HE1 := Lib.hid e1
              have HE2 := Lib.hid e2
              have HE3 := Lib.hid e3
              have HRS := Lib.hid rowS
              have HKT := Lib.hid kT
              have hsS := kS.size
              have HF3 : Hid (∀ i, NewIn w2 w3 i → ¬ OwnB (.slice a3 (k + 1 + (L.length - k)) c3) i) := fun i hi h => by
                rcases hf3 i h with h | h
                · rcases hf2 i h with h | h
                  · have := (hge1 i h).2; have := hi.1; omega
                  · have := hi.2; omega
                · have := hi.2; omega
              clear e1 e2 e3 rowS kT kS own1 own2 own3 k4 k5 kk kk3 hf2 hf3 rn2 LA LR hr3 T5
              go_wp2_with fail
              go_ret
              rw [HPT.out, HY0.out]
              have hwE := HWE.out
              have hlen : (L.take k ++ h :: L.drop k).length = k + 1 + (L.length - k) := by rw [List.length_append, List.length_cons, List.length_take, List.length_drop]; omega
              refine ⟨rfl, a3, c3, css.take k ++ [.int .u64 h.fTxn, .slice bK h.fKeys.length dK, .slice bS h.fSpans.length dS, .slice bW h.fWrites.length dW] :: css.drop k, ⟨by rw [hlen]; exact HRS.out, ?_, ?_, ?_, ?_, .inl HTE.out.qb, ?_⟩, (HKE.out.nix (S := (· = b))).trans HKT.out⟩
              · rw [hlen, List.flatten_append, List.flatten_cons, ← List.append_assoc]
                exact own_from HO.out (Nat.zero_le _)
              · rw [hlen]
                have hq : ∀ i, Q i → ¬ OwnB (.slice a3 (k + 1 + (L.length - k)) c3) i := fun i hi h => by have := (hge3 i h).1; have := HQL.out i hi; omega
                refine Els.app (HE1.out.mono rGHeld_lawful (fun i hi => ⟨.inl hi.1, hi.2.1, hq i hi.1⟩)) (Els.cons (rGHeld_lawful.mono HE3.out (fun i hi => ⟨.inr ⟨?_, ?_⟩, ?_, HF3.out i hi⟩)) (HE2.out.mono rGHeld_lawful (fun i hi => ⟨.inl hi.1, hi.2.1, hq i hi.1⟩)))
                · have := hi.1; omega
                · have := hi.2; omega
                · have := hi.1; omega
              · rw [hlen]; exact fun h => by have := (hge3 b h).1; omega
              · intro i hi
                rcases hi with h | h
                · have := HQL.out i h; omega
                · exact h.2
              · rw [hlen]
                intro i hi
                have := hge3 i hi
                exact .inr ⟨by omega, by omega⟩
          · have z1 := (HTE.out.nix kk).row.cell 0
            (try simp only [List.getElem?_cons_zero] at z1)
            (try simp only [List.getElem_toArray]); (try simp only [List.getElem_cons_succ]); (try simp only [List.getElem_cons_zero])
            go_simp
            clear z1
            refine hK.out _ _ ((HSS.out _ kk.nix)) (fun hHeld => ?_)
            clear hK K
            (try simp only [Act.put]); (try simp only [List.getElem_toArray]); (try simp only [List.getElem_cons_succ]); (try simp only [List.getElem_cons_zero]); (try simp only [List.setIfInBounds_toArray]); (try simp only [List.set_cons_succ]); (try simp only [List.set_cons_zero])
            refine wpAnyH_take (i := 17) (v := ?_) rfl (by kernel_rfl) (by kernel_rfl) (by kernel_rfl) (fun _ _ _ h => h) (Or.inl ⟨by kernel_rfl, ?_⟩) hHeld ?_
            rotate_left
            · intro w' hSw
              (try dsimp only at hSw)
              (try simp only [List.getElem_toArray]); (try simp only [List.getElem_cons_succ]); (try simp only [List.getElem_cons_zero])
              go_simp
              try with_reducible rfl
            (try simp only [Act.put]); (try simp only [List.getElem_toArray]); (try simp only [List.getElem_cons_succ]); (try simp only [List.getElem_cons_zero]); (try simp only [List.setIfInBounds_toArray]); (try simp only [List.set_cons_succ]); (try simp only [List.set_cons_zero])
            refine wpAnyH_ready (rs := [7]) (by kernel_rfl) (by simp) ?_
            refine AllReadyH.cons rfl (fun K hK => ?_) AllReadyH.nil
            obtain ⟨a1, c1, w2, hr1, own1, k1, -⟩ := appF_run T_lHeld 22 wE.heap.size (World.ownsRow_nil wE wE.heap.size 28 4) (css.take k).flatten (m := k) (c := cL) (by rw [flat_lenN (n := 4) (fun c hc => H4.out c (List.mem_of_mem_take hc)), List.length_take, HCL.out]; omega) LA (fun u hu => HON.out u (by rw [← flat_takeN H4.out] at hu; exact List.mem_of_mem_take hu)) (by unfold maxLen; omega) (by omega) (Nat.le_refl _)
            rw [Nat.zero_add] at hr1 own1
            rw [List.nil_append] at own1
            refine step_app (by kernel_rfl) _ _ rfl rfl rfl hr1 ?_
            replace k1 : Keep Nix wE w2 := k1.mono (fun b h => by cases h)
            replace kk := kk.trans k1
            have hge1 : ∀ i, OwnB (.slice a1 k c1) i → wE.heap.size ≤ i ∧ i < w2.heap.size := fun i hi => own1.lt i hi
            have hs2 := k1.size
            clear hr1 k1
            refine hK.out _ _ ((HSS.out _ kk.nix)) (fun hHeld => ?_)
            clear hK K
            (try simp only [Act.put]); (try simp only [List.getElem_toArray]); (try simp only [List.getElem_cons_succ]); (try simp only [List.getElem_cons_zero]); (try simp only [List.setIfInBounds_toArray]); (try simp only [List.set_cons_succ]); (try simp only [List.set_cons_zero])
            refine wpAnyH_ready (rs := [9]) (by kernel_rfl) (by simp) ?_
            refine AllReadyH.cons rfl (fun K hK => ?_) AllReadyH.nil
            (try simp only [List.getElem_toArray]); (try simp only [List.getElem_cons_succ]); (try simp only [List.getElem_cons_zero])
            go_simp
            have hCC := rcopy_c h [.int .u64 h.fTxn, .slice aK h.fKeys.length cK, .slice aS h.fSpans.length cS, .slice aW h.fWrites.length cW] w2 (rGHeld_lawful.nix HHE.out kk) HSM.out (fun i hi => by have := HPP.out i hi; have := kk.size; omega)
            go_fit hCC
            rintro e w3 ⟨cn, rfl, rn, k3⟩
            have rn2 := rn
            obtain ⟨bK, dK, bS, dS, bW, dW, rfl, -⟩ := rGHeld_open rn
            replace kk := kk.trans k3
            replace own1 := owned_keep own1 k3 (fun _ _ h => h)
            have hs3 := k3.size
            clear hCC rn k3
            go_wp2_with fail
            refine hK.out _ _ ((HSS.out _ kk.nix)) (fun hHeld => ?_)
            clear hK K
            (try simp only [Act.put]); (try simp only [List.getElem_toArray]); (try simp only [List.getElem_cons_succ]); (try simp only [List.getElem_cons_zero]); (try simp only [List.setIfInBounds_toArray]); (try simp only [List.set_cons_succ]); (try simp only [List.set_cons_zero])
            refine wpAnyH_ready (rs := [10]) (by kernel_rfl) (by simp) ?_
            refine AllReadyH.cons rfl (fun K hK => ?_) AllReadyH.nil
            (try simp only [List.getElem_toArray]); (try simp only [List.getElem_cons_succ]); (try simp only [List.getElem_cons_zero])
            go_simp
            have kk3 := kk
            replace kk := kk.trans ((Keep.refl Nix w3).alloc (.cells #[.int .u64 h.fTxn, .slice bK h.fKeys.length dK, .slice bS h.fSpans.length dS, .slice bW h.fWrites.length dW] 28))
            refine hK.out _ _ ((HSS.out _ kk.nix)) (fun hHeld => ?_)
            clear hK K
            (try simp only [Act.put]); (try simp only [List.getElem_toArray]); (try simp only [List.getElem_cons_succ]); (try simp only [List.getElem_cons_zero]); (try simp only [List.setIfInBounds_toArray]); (try simp only [List.set_cons_succ]); (try simp only [List.set_cons_zero])
            refine wpAnyH_ready (rs := [11]) (by kernel_rfl) (by simp) ?_
            refine AllReadyH.cons rfl (fun K hK => ?_) AllReadyH.nil
            refine step_append1 (w := w3) (cs := [.int .u64 h.fTxn, .slice bK h.fKeys.length dK, .slice bS h.fSpans.length dS, .slice bW h.fWrites.length dW]) T_lHeld (by rfl) (.tmp 42) (.tmp 45) (by rfl) wE.heap.size (by rfl) (by rfl) own1 (by rfl) (by rfl) (by unfold maxLen; omega) (by omega) kk3.size ?_
            intro a2 c2 w4 own2 k4 hf2
            replace kk := kk3.then k4 (fun i hi hb => by have := (hge1 i hb).1; omega)
            have hs4 := k4.size
            have hge2 : ∀ i, OwnB (.slice a2 (k + 1) c2) i → wE.heap.size ≤ i := fun i hi => (own2.lt i hi).1
            refine hK.out _ _ ((HSS.out _ kk.nix)) (fun hHeld => ?_)
            clear hK K
            (try simp only [Act.put]); (try simp only [List.getElem_toArray]); (try simp only [List.getElem_cons_succ]); (try simp only [List.getElem_cons_zero]); (try simp only [List.setIfInBounds_toArray]); (try simp only [List.set_cons_succ]); (try simp only [List.set_cons_zero])
            refine wpAnyH_ready (rs := [18]) (by kernel_rfl) (by simp) ?_
            refine AllReadyH.cons rfl (fun K hK => ?_) AllReadyH.nil
            obtain ⟨a3, c3, w5, hr3, own3, k5, hf3⟩ := appF_run T_lHeld 22 wE.heap.size own2 (css.drop k).flatten (m := (L.length - k)) (c := (cL - k)) (by rw [flat_lenN (n := 4) (fun c hc => H4.out c (List.mem_of_mem_drop hc)), List.length_drop, HCL.out]; try omega) (LR.keep kk (fun _ _ h => h)) (fun u hu => HON.out u (by rw [← flat_dropN H4.out] at hu; exact List.mem_of_mem_drop hu)) (by unfold maxLen; omega) (by omega) kk.size
            (try rw [Nat.add_zero] at hr3 own3 hf3)
            refine step_app (by kernel_rfl) _ _ rfl rfl rfl hr3 ?_
            replace kk := kk.then k5 (fun i hi hb => by have := hge2 i hb; omega)
            have hs5 := k5.size
            refine hK.out _ _ ((HSS.out _ kk.nix)) (fun hHeld => ?_)
            clear hK K
            (try simp only [Act.put]); (try simp only [List.getElem_toArray]); (try simp only [List.getElem_cons_succ]); (try simp only [List.getElem_cons_zero]); (try simp only [List.setIfInBounds_toArray]); (try simp only [List.set_cons_succ]); (try simp only [List.set_cons_zero])
            refine wpAnyH_take (i := 19) (v := ?_) rfl (by kernel_rfl) (by kernel_rfl) (by kernel_rfl) (fun _ _ _ h => h) (Or.inl ⟨by kernel_rfl, ?_⟩) hHeld ?_
            rotate_left
            · intro w' hSw
              (try dsimp only at hSw)
              (try simp only [List.getElem_toArray]); (try simp only [List.getElem_cons_succ]); (try simp only [List.getElem_cons_zero])
              go_simp
              try with_reducible rfl
            (try simp only [Act.put]); (try simp only [List.getElem_toArray]); (try simp only [List.getElem_cons_succ]); (try simp only [List.getElem_cons_zero]); (try simp only [List.setIfInBounds_toArray]); (try simp only [List.set_cons_succ]); (try simp only [List.set_cons_zero])
            refine wpAnyH_take (i := 20) (v := ?_) rfl (by kernel_rfl) (by kernel_rfl) (by kernel_rfl) (fun _ _ _ h => h) (Or.inl ⟨by kernel_rfl, ?_⟩) hHeld ?_
            rotate_left
            · intro w' hSw
              (try dsimp only at hSw)
              (try simp only [List.getElem_toArray]); (try simp only [List.getElem_cons_succ]); (try simp only [List.getElem_cons_zero])
              go_simp
              try with_reducible rfl
            (try simp only [Act.put]); (try simp only [List.getElem_toArray]); (try simp only [List.getElem_cons_succ]); (try simp only [List.getElem_cons_zero]); (try simp only [List.setIfInBounds_toArray]); (try simp only [List.set_cons_succ]); (try simp only [List.set_cons_zero])
            refine wpAnyH_ready (rs := [21]) (by kernel_rfl) (by simp) ?_
            refine AllReadyH.cons rfl (fun K hK => ?_) AllReadyH.nil
            have T5 := HTE.out.nix kk
            have z1 := T5.row.cell 0
            (try simp only [List.getElem?_cons_zero] at z1)
            have zf := T5.row.frozen 0
            have kS : Keep (· = b) w5 (w5.setCell ⟨b, 0, none⟩ (.slice a3 (k + 1 + (L.length - k)) c3)) := (Keep.refl (· = b) w5).setCell (p := ⟨b, 0, none⟩) (fun _ => rfl) _
            have rowS := T5.row.set 0 (.slice a3 (k + 1 + (L.length - k)) c3)
            (try simp only [List.set_cons_zero] at rowS)
            (try simp only [List.getElem_toArray]); (try simp only [List.getElem_cons_succ]); (try simp only [List.getElem_cons_zero])
            go_simp
            clear z1 zf
            have kT := kk.nix.trans kS
            refine hK.out _ _ ((HSS.out _ kT)) (fun hHeld => ?_)
            clear hK K
            (try simp only [Act.put]); (try simp only [List.getElem_toArray]); (try simp only [List.getElem_cons_succ]); (try simp only [List.getElem_cons_zero]); (try simp only [List.setIfInBounds_toArray]); (try simp only [List.set_cons_succ]); (try simp only [List.set_cons_zero])
            refine wpAnyH_done (by kernel_rfl) ?_ _
            clear hHeld
            have hge3 : ∀ i, OwnB (.slice a3 (k + 1 + (L.length - k)) c3) i → wE.heap.size ≤ i ∧ i < w5.heap.size := fun i hi => own3.lt i hi
            have hbE := HBE.out
            have HO := Lib.hid (owned_keep own3 kS (fun i hi e => by have := (hge3 i hi).1; omega))
            have e1 := (HTE.out.els.takeN k).keep rGHeld_lawful kT (fun i hi => hi.2.1)
            have e2 := (HTE.out.els.dropN k).keep rGHeld_lawful kT (fun i hi => hi.2.1)
            have e3 := rGHeld_lawful.keep (rGHeld_lawful.keep (rGHeld_lawful.keep rn2 k4 (fun i hi h => by have := (hge1 i h).2; have := hi.1; omega)) k5 (fun i hi h => by
              rcases hf2 i h with h | h
              · have := (hge1 i h).2; have := hi.1; omega
              · have := hi.2; omega)) kS (fun i hi e => by have := hi.1; omega)
            have HE1 := Lib.hid e1
            have HE2 := Lib.hid e2
            have HE3 := Lib.hid e3
            have HRS := Lib.hid rowS
            have HKT := Lib.hid kT
            have hsS := kS.size
            have HF3 : Hid (∀ i, NewIn w2 w3 i → ¬ OwnB (.slice a3 (k + 1 + (L.length - k)) c3) i) := fun i hi h => by
              rcases hf3 i h with h | h
              · rcases hf2 i h with h | h
                · have := (hge1 i h).2; have := hi.1; omega
                · have := hi.2; omega
              · have := hi.2; omega
            clear e1 e2 e3 rowS kT kS own1 own2 own3 k4 k5 kk kk3 hf2 hf3 rn2 LA LR hr3 T5
            go_wp2_with fail
            go_ret
            rw [HPT.out, HY0.out]
            have hwE := HWE.out
            have hlen : (L.take k ++ h :: L.drop k).length = k + 1 + (L.length - k) := by rw [List.length_append, List.length_cons, List.length_take, List.length_drop]; omega
            refine ⟨rfl, a3, c3, css.take k ++ [.int .u64 h.fTxn, .slice bK h.fKeys.length dK, .slice bS h.fSpans.length dS, .slice bW h.fWrites.length dW] :: css.drop k, ⟨by rw [hlen]; exact HRS.out, ?_, ?_, ?_, ?_, .inl HTE.out.qb, ?_⟩, (HKE.out.nix (S := (· = b))).trans HKT.out⟩
            · rw [hlen, List.flatten_append, List.flatten_cons, ← List.append_assoc]
              exact own_from HO.out (Nat.zero_le _)
            · rw [hlen]
              have hq : ∀ i, Q i → ¬ OwnB (.slice a3 (k + 1 + (L.length - k)) c3) i := fun i hi h => by have := (hge3 i h).1; have := HQL.out i hi; omega
              refine Els.app (HE1.out.mono rGHeld_lawful (fun i hi => ⟨.inl hi.1, hi.2.1, hq i hi.1⟩)) (Els.cons (rGHeld_lawful.mono HE3.out (fun i hi => ⟨.inr ⟨?_, ?_⟩, ?_, HF3.out i hi⟩)) (HE2.out.mono rGHeld_lawful (fun i hi => ⟨.inl hi.1, hi.2.1, hq i hi.1⟩)))
              · have := hi.1; omega
              · have := hi.2; omega
              · have := hi.1; omega
            · rw [hlen]; exact fun h => by have := (hge3 b h).1; omega
            · intro i hi
              rcases hi with h | h
              · have := HQL.out i h; omega
              · exact h.2
            · rw [hlen]
              intro i hi
              have := hge3 i hi
              exact .inr ⟨by omega, by omega⟩
        · have z1 := (HTE.out.nix kk).row.cell 0
          (try simp only [List.getElem?_cons_zero] at z1)
          (try simp only [List.getElem_toArray]); (try simp only [List.getElem_cons_succ]); (try simp only [List.getElem_cons_zero])
          go_simp
          clear z1
          refine hK.out _ _ ((HSS.out _ kk.nix)) (fun hHeld => ?_)
          clear hK K
          (try simp only [Act.put]); (try simp only [List.getElem_toArray]); (try simp only [List.getElem_cons_succ]); (try simp only [List.getElem_cons_zero]); (try simp only [List.setIfInBounds_toArray]); (try simp only [List.set_cons_succ]); (try simp only [List.set_cons_zero])
          refine wpAnyH_take (i := 17) (v := ?_) rfl (by kernel_rfl) (by kernel_rfl) (by kernel_rfl) (fun _ _ _ h => h) (Or.inl ⟨by kernel_rfl, ?_⟩) hHeld ?_
          rotate_left
          · intro w' hSw
            (try dsimp only at hSw)
            (try simp only [List.getElem_toArray]); (try simp only [List.getElem_cons_succ]); (try simp only [List.getElem_cons_zero])
            go_simp
            try with_reducible rfl
          (try simp only [Act.put]); (try simp only [List.getElem_toArray]); (try simp only [List.getElem_cons_succ]); (try simp only [List.getElem_cons_zero]); (try simp only [List.setIfInBounds_toArray]); (try simp only [List.set_cons_succ]); (try simp only [List.set_cons_zero])
          refine wpAnyH_ready (rs := [4]) (by kernel_rfl) (by simp) ?_
          refine AllReadyH.cons rfl (fun K hK => ?_) AllReadyH.nil
          have z1 := (HTE.out.nix kk).row.cell 0
          (try simp only [List.getElem?_cons_zero] at z1)
          (try simp only [List.getElem_toArray]); (try simp only [List.getElem_cons_succ]); (try simp only [List.getElem_cons_zero])
          go_simp
          clear z1
          refine hK.out _ _ ((HSS.out _ kk.nix)) (fun hHeld => ?_)
          clear hK K
          (try simp only [Act.put]); (try simp only [List.getElem_toArray]); (try simp only [List.getElem_cons_succ]); (try simp only [List.getElem_cons_zero]); (try simp only [List.setIfInBounds_toArray]); (try simp only [List.set_cons_succ]); (try simp only [List.set_cons_zero])
          refine wpAnyH_take (i := 6) (v := ?_) rfl (by kernel_rfl) (by kernel_rfl) (by kernel_rfl) (fun _ _ _ h => h) (Or.inl ⟨by kernel_rfl, ?_⟩) hHeld ?_
          rotate_left
          · intro w' hSw
            (try dsimp only at hSw)
            (try simp only [List.getElem_toArray]); (try simp only [List.getElem_cons_succ]); (try simp only [List.getElem_cons_zero])
            go_simp
            try with_reducible rfl
          (try simp only [Act.put]); (try simp only [List.getElem_toArray]); (try simp only [List.getElem_cons_succ]); (try simp only [List.getElem_cons_zero]); (try simp only [List.setIfInBounds_toArray]); (try simp only [List.set_cons_succ]); (try simp only [List.set_cons_zero])
          refine wpAnyH_ready (rs := [7]) (by kernel_rfl) (by simp) ?_
          refine AllReadyH.cons rfl (fun K hK => ?_) AllReadyH.nil
          obtain ⟨a1, c1, w2, hr1, own1, k1, -⟩ := appF_run T_lHeld 22 wE.heap.size (World.ownsRow_nil wE wE.heap.size 28 4) (css.take k).flatten (m := k) (c := cL) (by rw [flat_lenN (n := 4) (fun c hc => H4.out c (List.mem_of_mem_take hc)), List.length_take, HCL.out]; omega) LA (fun u hu => HON.out u (by rw [← flat_takeN H4.out] at hu; exact List.mem_of_mem_take hu)) (by unfold maxLen; omega) (by omega) (Nat.le_refl _)
          rw [Nat.zero_add] at hr1 own1
          rw [List.nil_append] at own1
          refine step_app (by kernel_rfl) _ _ rfl rfl rfl hr1 ?_
          replace k1 : Keep Nix wE w2 := k1.mono (fun b h => by cases h)
          replace kk := kk.trans k1
          have hge1 : ∀ i, OwnB (.slice a1 k c1) i → wE.heap.size ≤ i ∧ i < w2.heap.size := fun i hi => own1.lt i hi
          have hs2 := k1.size
          clear hr1 k1
          refine hK.out _ _ ((HSS.out _ kk.nix)) (fun hHeld => ?_)
          clear hK K
          (try simp only [Act.put]); (try simp only [List.getElem_toArray]); (try simp only [List.getElem_cons_succ]); (try simp only [List.getElem_cons_zero]); (try simp only [List.setIfInBounds_toArray]); (try simp only [List.set_cons_succ]); (try simp only [List.set_cons_zero])
          refine wpAnyH_ready (rs := [9]) (by kernel_rfl) (by simp) ?_
          refine AllReadyH.cons rfl (fun K hK => ?_) AllReadyH.nil
          (try simp only [List.getElem_toArray]); (try simp only [List.getElem_cons_succ]); (try simp only [List.getElem_cons_zero])
          go_simp
          have hCC := rcopy_c h [.int .u64 h.fTxn, .slice aK h.fKeys.length cK, .slice aS h.fSpans.length cS, .slice aW h.fWrites.length cW] w2 (rGHeld_lawful.nix HHE.out kk) HSM.out (fun i hi => by have := HPP.out i hi; have := kk.size; omega)
          go_fit hCC
          rintro e w3 ⟨cn, rfl, rn, k3⟩
          have rn2 := rn
          obtain ⟨bK, dK, bS, dS, bW, dW, rfl, -⟩ := rGHeld_open rn
          replace kk := kk.trans k3
          replace own1 := owned_keep own1 k3 (fun _ _ h => h)
          have hs3 := k3.size
          clear hCC rn k3
          go_wp2_with fail
          refine hK.out _ _ ((HSS.out _ kk.nix)) (fun hHeld => ?_)
          clear hK K
          (try simp only [Act.put]); (try simp only [List.getElem_toArray]); (try simp only [List.getElem_cons_succ]); (try simp only [List.getElem_cons_zero]); (try simp only [List.setIfInBounds_toArray]); (try simp only [List.set_cons_succ]); (try simp only [List.set_cons_zero])
          refine wpAnyH_ready (rs := [10]) (by kernel_rfl) (by simp) ?_
          refine AllReadyH.cons rfl (fun K hK => ?_) AllReadyH.nil
          (try simp only [List.getElem_toArray]); (try simp only [List.getElem_cons_succ]); (try simp only [List.getElem_cons_zero])
          go_simp
          have kk3 := kk
          replace kk := kk.trans ((Keep.refl Nix w3).alloc (.cells #[.int .u64 h.fTxn, .slice bK h.fKeys.length dK, .slice bS h.fSpans.length dS, .slice bW h.fWrites.length dW] 28))
          refine hK.out _ _ ((HSS.out _ kk.nix)) (fun hHeld => ?_)
          clear hK K
          (try simp only [Act.put]); (try simp only [List.getElem_toArray]); (try simp only [List.getElem_cons_succ]); (try simp only [List.getElem_cons_zero]); (try simp only [List.setIfInBounds_toArray]); (try simp only [List.set_cons_succ]); (try simp only [List.set_cons_zero])
          refine wpAnyH_ready (rs := [11]) (by kernel_rfl) (by simp) ?_
          refine AllReadyH.cons rfl (fun K hK => ?_) AllReadyH.nil
          refine step_append1 (w := w3) (cs := [.int .u64 h.fTxn, .slice bK h.fKeys.length dK, .slice bS h.fSpans.length dS, .slice bW h.fWrites.length dW]) T_lHeld (by rfl) (.tmp 42) (.tmp 45) (by rfl) wE.heap.size (by rfl) (by rfl) own1 (by rfl) (by rfl) (by unfold maxLen; omega) (by omega) kk3.size ?_
          intro a2 c2 w4 own2 k4 hf2
          replace kk := kk3.then k4 (fun i hi hb => by have := (hge1 i hb).1; omega)
          have hs4 := k4.size
          have hge2 : ∀ i, OwnB (.slice a2 (k + 1) c2) i → wE.heap.size ≤ i := fun i hi => (own2.lt i hi).1
          refine hK.out _ _ ((HSS.out _ kk.nix)) (fun hHeld => ?_)
          clear hK K
          (try simp only [Act.put]); (try simp only [List.getElem_toArray]); (try simp only [List.getElem_cons_succ]); (try simp only [List.getElem_cons_zero]); (try simp only [List.setIfInBounds_toArray]); (try simp only [List.set_cons_succ]); (try simp only [List.set_cons_zero])
          refine wpAnyH_ready (rs := [18]) (by kernel_rfl) (by simp) ?_
          refine AllReadyH.cons rfl (fun K hK => ?_) AllReadyH.nil
          obtain ⟨a3, c3, w5, hr3, own3, k5, hf3⟩ := appF_run T_lHeld 22 wE.heap.size own2 (css.drop k).flatten (m := (L.length - k)) (c := (cL - k)) (by rw [flat_lenN (n := 4) (fun c hc => H4.out c (List.mem_of_mem_drop hc)), List.length_drop, HCL.out]; try omega) (LR.keep kk (fun _ _ h => h)) (fun u hu => HON.out u (by rw [← flat_dropN H4.out] at hu; exact List.mem_of_mem_drop hu)) (by unfold maxLen; omega) (by omega) kk.size
          (try rw [Nat.add_zero] at hr3 own3 hf3)
          refine step_app (by kernel_rfl) _ _ rfl rfl rfl hr3 ?_
          replace kk := kk.then k5 (fun i hi hb => by have := hge2 i hb; omega)
          have hs5 := k5.size
          refine hK.out _ _ ((HSS.out _ kk.nix)) (fun hHeld => ?_)
          clear hK K
          (try simp only [Act.put]); (try simp only [List.getElem_toArray]); (try simp only [List.getElem_cons_succ]); (try simp only [List.getElem_cons_zero]); (try simp only [List.setIfInBounds_toArray]); (try simp only [List.set_cons_succ]); (try simp only [List.set_cons_zero])
          refine wpAnyH_take (i := 19) (v := ?_) rfl (by kernel_rfl) (by kernel_rfl) (by kernel_rfl) (fun _ _ _ h => h) (Or.inl ⟨by kernel_rfl, ?_⟩) hHeld ?_
          rotate_left
          · intro w' hSw
            (try dsimp only at hSw)
            (try simp only [List.getElem_toArray]); (try simp only [List.getElem_cons_succ]); (try simp only [List.getElem_cons_zero])
            go_simp
            try with_reducible rfl
          (try simp only [Act.put]); (try simp only [List.getElem_toArray]); (try simp only [List.getElem_cons_succ]); (try simp only [List.getElem_cons_zero]); (try simp only [List.setIfInBounds_toArray]); (try simp only [List.set_cons_succ]); (try simp only [List.set_cons_zero])
          refine wpAnyH_take (i := 20) (v := ?_) rfl (by kernel_rfl) (by kernel_rfl) (by kernel_rfl) (fun _ _ _ h => h) (Or.inl ⟨by kernel_rfl, ?_⟩) hHeld ?_
          rotate_left
          · intro w' hSw
            (try dsimp only at hSw)
            (try simp only [List.getElem_toArray]); (try simp only [List.getElem_cons_succ]); (try simp only [List.getElem_cons_zero])
            go_simp
            try with_reducible rfl
          (try simp only [Act.put]); (try simp only [List.getElem_toArray]); (try simp only [List.getElem_cons_succ]); (try simp only [List.getElem_cons_zero]); (try simp only [List.setIfInBounds_toArray]); (try simp only [List.set_cons_succ]); (try simp only [List.set_cons_zero])
          refine wpAnyH_ready (rs := [21]) (by kernel_rfl) (by simp) ?_
          refine AllReadyH.cons rfl (fun K hK => ?_) AllReadyH.nil
          have T5 := HTE.out.nix kk
          have z1 := T5.row.cell 0
          (try simp only [List.getElem?_cons_zero] at z1)
          have zf := T5.row.frozen 0
          have kS : Keep (· = b) w5 (w5.setCell ⟨b, 0, none⟩ (.slice a3 (k + 1 + (L.length - k)) c3)) := (Keep.refl (· = b) w5).setCell (p := ⟨b, 0, none⟩) (fun _ => rfl) _
          have rowS := T5.row.set 0 (.slice a3 (k + 1 + (L.length - k)) c3)
          (try simp only [List.set_cons_zero] at rowS)
          (try simp only [List.getElem_toArray]); (try simp only [List.getElem_cons_succ]); (try simp only [List.getElem_cons_zero])
          go_simp
          clear z1 zf
          have kT := kk.nix.trans kS
          refine hK.out _ _ ((HSS.out _ kT)) (fun hHeld => ?_)
          clear hK K
          (try simp only [Act.put]); (try simp only [List.getElem_toArray]); (try simp only [List.getElem_cons_succ]); (try simp only [List.getElem_cons_zero]); (try simp only [List.setIfInBounds_toArray]); (try simp only [List.set_cons_succ]); (try simp only [List.set_cons_zero])
          refine wpAnyH_done (by kernel_rfl) ?_ _
          clear hHeld
          have hge3 : ∀ i, OwnB (.slice a3 (k + 1 + (L.length - k)) c3) i → wE.heap.size ≤ i ∧ i < w5.heap.size := fun i hi => own3.lt i hi
          have hbE := HBE.out
          have HO := Lib.hid (owned_keep own3 kS (fun i hi e => by have := (hge3 i hi).1; omega))
          have e1 := (HTE.out.els.takeN k).keep rGHeld_lawful kT (fun i hi => hi.2.1)
          have e2 := (HTE.out.els.dropN k).keep rGHeld_lawful kT (fun i hi => hi.2.1)
          have e3 := rGHeld_lawful.keep (rGHeld_lawful.keep (rGHeld_lawful.keep rn2 k4 (fun i hi h => by have := (hge1 i h).2; have := hi.1; omega)) k5 (fun i hi h => by
            rcases hf2 i h with h | h
            · have := (hge1 i h).2; have := hi.1; omega
            · have := hi.2; omega)) kS (fun i hi e => by have := hi.1; omega)
          have HE1 := Lib.hid e1
          have HE2 := Lib.hid e2
          have HE3 := Lib.hid e3
          have HRS := Lib.hid rowS
          have HKT := Lib.hid kT
          have hsS := kS.size
          have HF3 : Hid (∀ i, NewIn w2 w3 i → ¬ OwnB (.slice a3 (k + 1 + (L.length - k)) c3) i) := fun i hi h => by
            rcases hf3 i h with h | h
            · rcases hf2 i h with h | h
              · have := (hge1 i h).2; have := hi.1; omega
              · have := hi.2; omega
            · have := hi.2; omega
          clear e1 e2 e3 rowS kT kS own1 own2 own3 k4 k5 kk kk3 hf2 hf3 rn2 LA LR hr3 T5
          go_wp2_with fail
          go_ret
          rw [HPT.out, HY0.out]
          have hwE := HWE.out
          have hlen : (L.take k ++ h :: L.drop k).length = k + 1 + (L.length - k) := by rw [List.length_append, List.length_cons, List.length_take, List.length_drop]; omega
          refine ⟨rfl, a3, c3, css.take k ++ [.int .u64 h.fTxn, .slice bK h.fKeys.length dK, .slice bS h.fSpans.length dS, .slice bW h.fWrites.length dW] :: css.drop k, ⟨by rw [hlen]; exact HRS.out, ?_, ?_, ?_, ?_, .inl HTE.out.qb, ?_⟩, (HKE.out.nix (S := (· = b))).trans HKT.out⟩
          · rw [hlen, List.flatten_append, List.flatten_cons, ← List.append_assoc]
            exact own_from HO.out (Nat.zero_le _)
          · rw [hlen]
            have hq : ∀ i, Q i → ¬ OwnB (.slice a3 (k + 1 + (L.length - k)) c3) i := fun i hi h => by have := (hge3 i h).1; have := HQL.out i hi; omega
            refine Els.app (HE1.out.mono rGHeld_lawful (fun i hi => ⟨.inl hi.1, hi.2.1, hq i hi.1⟩)) (Els.cons (rGHeld_lawful.mono HE3.out (fun i hi => ⟨.inr ⟨?_, ?_⟩, ?_, HF3.out i hi⟩)) (HE2.out.mono rGHeld_lawful (fun i hi => ⟨.inl hi.1, hi.2.1, hq i hi.1⟩)))
            · have := hi.1; omega
            · have := hi.2; omega
            · have := hi.1; omega
          · rw [hlen]; exact fun h => by have := (hge3 b h).1; omega
          · intro i hi
            rcases hi with h | h
            · have := HQL.out i h; omega
            · exact h.2
          · rw [hlen]
            intro i hi
            have := hge3 i hi
            exact .inr ⟨by omega, by omega⟩
  · have hq : (y != 0) = true := by simp [h0]
    have HAP : Hid (afterPut L h = L) := by show _ = _; unfold afterPut; rw [HY.out, if_neg h0]
    clear h0
    go_enter Try.func22, Try.ntmps22
    go_wp2_with fail
    go_fit HM.out
    rintro e w1 ⟨rfl, k1⟩
    clear HM hld
    go_wp2_with fail
    go_ret
    rw [HAP.out]
    exact ⟨rfl, aL, cL, css, (HT.out.nix (KA.out.trans k1)).more, (KA.out.trans k1).nix⟩
end
end Go.Proofs.Ytfagejfcibgigaa
