/- LOCK: Put, Drop. Printed by mac.py. -/
import Derived.Test.YtfagejfcibgigaaQLkD
import Derived.Deep.DeepCutAuto
import Derived.Deep.CutBlock
namespace Go.Proofs.Ytfagejfcibgigaa
open Go.RowKit

def putT (L : List GHeld) (h : GHeld) : List GHeld := L.filter (fun x => decide (x.fTxn < h.fTxn)) ++ h :: L.filter (fun x => decide (h.fTxn < x.fTxn))
def dropT (L : List GHeld) (k : Int) : List GHeld := L.filter (fun x => decide (x.fTxn ≠ k))
theorem find_filter {L : List GHeld} {p q : GHeld → Bool} (h : ∀ x, q x = true → p x = true) : (L.filter p).find? q = L.find? q := by
  induction L with
  | nil => rfl
  | cons a l ih =>
    by_cases hp : p a = true
    · rw [List.filter_cons_of_pos hp, List.find?_cons, List.find?_cons, ih]
    · rw [List.filter_cons_of_neg hp, ih, List.find?_cons]
      have : q a = false := by
        cases e : q a with
        | false => rfl
        | true => exact absurd (h a e) hp
      rw [this]
theorem find_none {L : List GHeld} {p q : GHeld → Bool} (h : ∀ x, p x = true → q x = false) : (L.filter p).find? q = none :=
  List.find?_eq_none.2 (fun x hx => by rw [h x (List.mem_filter.1 hx).2]; exact Bool.false_ne_true)
theorem findT_put (L : List GHeld) (h : GHeld) : (fun i => if i = h.fTxn then some h else findT L i) = findT (putT L h) := by
  funext i
  unfold findT putT
  rw [List.find?_append, List.find?_cons]
  by_cases e : i = h.fTxn
  · subst e
    rw [if_pos rfl, find_none (fun x hx => by have := of_decide_eq_true hx; exact decide_eq_false (by omega))]
    simp
  · rw [if_neg e]
    have e2 : decide (h.fTxn = i) = false := decide_eq_false (fun h => e h.symm)
    rw [e2]
    rcases Int.lt_or_gt_of_ne e with q | q
    · rw [find_filter (fun x hx => by have := of_decide_eq_true hx; exact decide_eq_true (by omega)), find_none (fun x hx => by have := of_decide_eq_true hx; exact decide_eq_false (by omega))]
      simp
    · rw [find_none (fun x hx => by have := of_decide_eq_true hx; exact decide_eq_false (by omega)), find_filter (fun x hx => by have := of_decide_eq_true hx; exact decide_eq_true (by omega))]
      rfl
theorem findT_drop (L : List GHeld) (k : Int) : (fun i => if i = k then none else findT L i) = findT (dropT L k) := by
  funext i
  unfold findT dropT
  by_cases e : i = k
  · subst e
    rw [if_pos rfl, find_none (fun x hx => by have := of_decide_eq_true hx; exact decide_eq_false this)]
  · rw [if_neg e, find_filter (fun x hx => by have := of_decide_eq_true hx; exact decide_eq_true (by omega))]
theorem TabOk.put {L : List GHeld} (ok : TabOk L) {h : GHeld} (hu : isU64 h.fTxn) (hs : smallF h) : TabOk (putT L h) := by
  refine ⟨fun x hx => ?_, ?_, fun x hx => ?_⟩
  · rcases List.mem_append.1 hx with q | q
    · exact ok.u64 x (List.mem_filter.1 q).1
    · rcases List.mem_cons.1 q with q | q
      · rw [q]; exact hu
      · exact ok.u64 x (List.mem_filter.1 q).1
  · refine List.pairwise_append.2 ⟨ok.rising.sublist List.filter_sublist, List.pairwise_cons.2 ⟨fun x hx => of_decide_eq_true (List.mem_filter.1 hx).2, ok.rising.sublist List.filter_sublist⟩, fun a ha b hb => ?_⟩
    have h1 := of_decide_eq_true (List.mem_filter.1 ha).2
    rcases List.mem_cons.1 hb with q | q
    · rw [q]; exact h1
    · have h2 := of_decide_eq_true (List.mem_filter.1 q).2
      omega
  · rcases List.mem_append.1 hx with q | q
    · exact ok.small x (List.mem_filter.1 q).1
    · rcases List.mem_cons.1 q with q | q
      · rw [q]; exact hs
      · exact ok.small x (List.mem_filter.1 q).1
theorem TabOk.drop {L : List GHeld} (ok : TabOk L) (k : Int) : TabOk (dropT L k) :=
  ⟨fun x hx => ok.u64 x (List.mem_filter.1 hx).1, ok.rising.sublist List.filter_sublist, fun x hx => ok.small x (List.mem_filter.1 hx).1⟩
def afterPut (L : List GHeld) (h : GHeld) : List GHeld := if mayF L h = 0 then putT L h else L
def PutPost (w : World) (O : Nat → Prop) (g n : Nat) (L : List GHeld) (h : GHeld) (e : Ending) (w' : World) : Prop :=
  e = .returned (.int .i64 (mayF L h)) ∧ ∃ O', IsTab w' O' g (n + 1) (afterPut L h) ∧ (∀ b, O' b → O b ∨ w.heap.size ≤ b) ∧ (∀ b, O b → O' b) ∧ Keep O w w'
set_option maxRecDepth 100000 in
set_option maxHeartbeats 2000000 in
theorem put_c {p : Nat → Prop} (O : Nat → Prop) (g n : Nat) (L : List GHeld) (h : GHeld) (csh : List Value) (w : World) (T : IsTab w O g n L) (hn : n < 1000000) (hh : rGHeld w p csh h) (hs : smallF h) (hp : ∀ b, p b → b < w.heap.size) :
    Calls Try.prog 11 #[.pointer (some ⟨g, 0, none⟩), .agg csh.toArray] w (PutPost w O g n L h) := by
  have hh2 := hh
  obtain ⟨aK, cK, aS, cS, aW, cW, rfl, ht, -⟩ := rGHeld_open hh
  have T0 := Lib.hid T.lt
  have kA : Keep Nix w (w.alloc (.cells #[.int .u64 h.fTxn, .slice aK h.fKeys.length cK, .slice aS h.fSpans.length cS, .slice aW h.fWrites.length cW] 28)) := (Keep.refl Nix w).alloc _
  have TA := T.nix kA
  have hhA := rGHeld_lawful.nix hh2 kA
  have row0 : RowIs (w.alloc (.cells #[.int .u64 h.fTxn, .slice aK h.fKeys.length cK, .slice aS h.fSpans.length cS, .slice aW h.fWrites.length cW] 28)) w.heap.size 28 [.int .u64 h.fTxn, .slice aK h.fKeys.length cK, .slice aS h.fSpans.length cS, .slice aW h.fWrites.length cW] := RowIs.alloc w _ _
  have hMay := Lib.hid (may_c O g n L h [.int .u64 h.fTxn, .slice aK h.fKeys.length cK, .slice aS h.fSpans.length cS, .slice aW h.fWrites.length cW] (w.alloc (.cells #[.int .u64 h.fTxn, .slice aK h.fKeys.length cK, .slice aS h.fSpans.length cS, .slice aW h.fWrites.length cW] 28)) TA hhA (fun b hb => Nat.lt_of_lt_of_le (hp b hb) kA.size))
  have hwA : Hid (w.heap.size < ((w.alloc (.cells #[.int .u64 h.fTxn, .slice aK h.fKeys.length cK, .slice aS h.fSpans.length cS, .slice aW h.fWrites.length cW] 28))).heap.size) := row0.lt
  have HTA := Lib.hid TA
  have HHA := Lib.hid hhA
  have HR0 := Lib.hid row0
  obtain ⟨y, HY⟩ : ∃ y, Hid (mayF L h = y) := ⟨_, rfl⟩
  obtain ⟨L2, HL2⟩ : ∃ z, Hid (afterPut L h = z) := ⟨_, rfl⟩
  unfold PutPost
  rw [HL2.out]
  rw [HY.out] at hMay ⊢
  have y0 := row0.cell 0
  (try simp only [List.getElem?_cons_zero] at y0)
  have y1 := row0.cell 1
  (try simp only [List.getElem?_cons_succ] at y1); (try simp only [List.getElem?_cons_zero] at y1)
  have y2 := row0.cell 2
  (try simp only [List.getElem?_cons_succ] at y2); (try simp only [List.getElem?_cons_zero] at y2)
  have y3 := row0.cell 3
  (try simp only [List.getElem?_cons_succ] at y3); (try simp only [List.getElem?_cons_zero] at y3)
  clear hh hh2 T TA hhA row0
  by_cases h0 : y = 0
  · have hq : (y == 0) = true := by simp [h0]
    have H2 : Hid (putT L h = L2) := by show _ = _; rw [← HL2.out]; unfold afterPut; rw [HY.out, if_pos h0]
    clear h0
    go_enter Try.func11, Try.ntmps11
    go_wp2_with fail
    go_fit hMay.out
    rintro e w1 ⟨rfl, k1⟩
    have kk1 := kA.trans k1
    obtain ⟨lt, og, ok, bM, D, oM, ne, row, m⟩ := HTA.out.nix k1
    have hh1 := rGHeld_lawful.nix HHA.out k1
    have row1 := HR0.out.keep k1 id
    clear y0 y1 y2 y3 hMay
    go_upto_region 3 with fail
    have kd : Keep Nix w1 w1.drew := (Keep.refl Nix w1).drew
    have hbX : Hid (w.heap.size ≠ bM ∧ g ≠ bM) := ⟨by have := T0.out bM oM; omega, fun e => ne e.symm⟩
    have HSS : Hid (∀ w', Keep (· = bM) w1 w' → w'.cell? ⟨g, 0, none⟩ = some (.map (some bM)) ∧ w'.cell? ⟨w.heap.size, 0, none⟩ = some (.int .u64 h.fTxn) ∧ w'.cell? ⟨w.heap.size, 1, none⟩ = some (.slice aK h.fKeys.length cK) ∧ w'.cell? ⟨w.heap.size, 2, none⟩ = some (.slice aS h.fSpans.length cS) ∧ w'.cell? ⟨w.heap.size, 3, none⟩ = some (.slice aW h.fWrites.length cW)) := fun w' k => by
      have r1 := row.keep k hbX.out.2
      have r2 := row1.keep k hbX.out.1
      exact ⟨by simpa using r1.cell 0, by simpa using r2.cell 0, by simpa using r2.cell 1, by simpa using r2.cell 2, by simpa using r2.cell 3⟩
    refine wp_region_held_drew (S := (fun w' => w'.cell? ⟨g, 0, none⟩ = some (.map (some bM)) ∧ w'.cell? ⟨w.heap.size, 0, none⟩ = some (.int .u64 h.fTxn) ∧ w'.cell? ⟨w.heap.size, 1, none⟩ = some (.slice aK h.fKeys.length cK) ∧ w'.cell? ⟨w.heap.size, 2, none⟩ = some (.slice aS h.fSpans.length cS) ∧ w'.cell? ⟨w.heap.size, 3, none⟩ = some (.slice aW h.fWrites.length cW))) (by kernel_rfl) (HSS.out _ kd.nix) (fun hHeld => ?_)
    have hown := Lib.hid (own_c h [.int .u64 h.fTxn, .slice aK h.fKeys.length cK, .slice aS h.fSpans.length cS, .slice aW h.fWrites.length cW] w1.drew (rGHeld_lawful.nix hh1 kd) hs (fun b hb => by have := hp b hb; have := hwA.out; have := k1.size; show b < w1.heap.size; omega))
    generalize w1.drew = w2 at *
    refine wpAnyH_take (i := 0) (v := ?_) rfl (by kernel_rfl) (by kernel_rfl) (by kernel_rfl) (fun _ _ _ h => h) (Or.inl ⟨by kernel_rfl, ?_⟩) hHeld ?_
    rotate_left
    · intro w' hSw
      (try dsimp only at hSw)
      (try simp only [List.getElem_toArray]); (try simp only [List.getElem_cons_succ]); (try simp only [List.getElem_cons_zero])
      go_simp
      try with_reducible rfl
    (try simp only [Act.put]); (try simp only [List.getElem_toArray]); (try simp only [List.getElem_cons_succ]); (try simp only [List.getElem_cons_zero]); (try simp only [List.setIfInBounds_toArray]); (try simp only [List.set_cons_succ]); (try simp only [List.set_cons_zero])
    refine wpAnyH_take (i := 1) (v := ?_) rfl (by kernel_rfl) (by kernel_rfl) (by kernel_rfl) (fun _ _ _ h => h) (Or.inl ⟨by kernel_rfl, ?_⟩) hHeld ?_
    rotate_left
    · intro w' hSw
      (try dsimp only at hSw)
      (try simp only [List.getElem_toArray]); (try simp only [List.getElem_cons_succ]); (try simp only [List.getElem_cons_zero])
      go_simp
      try with_reducible rfl
    (try simp only [Act.put]); (try simp only [List.getElem_toArray]); (try simp only [List.getElem_cons_succ]); (try simp only [List.getElem_cons_zero]); (try simp only [List.setIfInBounds_toArray]); (try simp only [List.set_cons_succ]); (try simp only [List.set_cons_zero])
    refine wpAnyH_take (i := 2) (v := ?_) rfl (by kernel_rfl) (by kernel_rfl) (by kernel_rfl) (fun _ _ _ h => h) (Or.inl ⟨by kernel_rfl, ?_⟩) hHeld ?_
    rotate_left
    · intro w' hSw
      (try dsimp only at hSw)
      (try simp only [List.getElem_toArray]); (try simp only [List.getElem_cons_succ]); (try simp only [List.getElem_cons_zero])
      go_simp
      try with_reducible rfl
    (try simp only [Act.put]); (try simp only [List.getElem_toArray]); (try simp only [List.getElem_cons_succ]); (try simp only [List.getElem_cons_zero]); (try simp only [List.setIfInBounds_toArray]); (try simp only [List.set_cons_succ]); (try simp only [List.set_cons_zero])
    refine wpAnyH_take (i := 3) (v := ?_) rfl (by kernel_rfl) (by kernel_rfl) (by kernel_rfl) (fun _ _ _ h => h) (Or.inl ⟨by kernel_rfl, ?_⟩) hHeld ?_
    rotate_left
    · intro w' hSw
      (try dsimp only at hSw)
      (try simp only [List.getElem_toArray]); (try simp only [List.getElem_cons_succ]); (try simp only [List.getElem_cons_zero])
      go_simp
      try with_reducible rfl
    (try simp only [Act.put]); (try simp only [List.getElem_toArray]); (try simp only [List.getElem_cons_succ]); (try simp only [List.getElem_cons_zero]); (try simp only [List.setIfInBounds_toArray]); (try simp only [List.set_cons_succ]); (try simp only [List.set_cons_zero])
    refine wpAnyH_take (i := 4) (v := ?_) rfl (by kernel_rfl) (by kernel_rfl) (by kernel_rfl) (fun _ _ _ h => h) (Or.inl ⟨by kernel_rfl, ?_⟩) hHeld ?_
    rotate_left
    · intro w' hSw
      (try dsimp only at hSw)
      (try simp only [List.getElem_toArray]); (try simp only [List.getElem_cons_succ]); (try simp only [List.getElem_cons_zero])
      go_simp
      try with_reducible rfl
    (try simp only [Act.put]); (try simp only [List.getElem_toArray]); (try simp only [List.getElem_cons_succ]); (try simp only [List.getElem_cons_zero]); (try simp only [List.setIfInBounds_toArray]); (try simp only [List.set_cons_succ]); (try simp only [List.set_cons_zero])
    refine wpAnyH_take (i := 5) (v := ?_) rfl (by kernel_rfl) (by kernel_rfl) (by kernel_rfl) (fun _ _ _ h => h) (Or.inl ⟨by kernel_rfl, ?_⟩) hHeld ?_
    rotate_left
    · intro w' hSw
      (try dsimp only at hSw)
      (try simp only [List.getElem_toArray]); (try simp only [List.getElem_cons_succ]); (try simp only [List.getElem_cons_zero])
      go_simp
      try with_reducible rfl
    (try simp only [Act.put]); (try simp only [List.getElem_toArray]); (try simp only [List.getElem_cons_succ]); (try simp only [List.getElem_cons_zero]); (try simp only [List.setIfInBounds_toArray]); (try simp only [List.set_cons_succ]); (try simp only [List.set_cons_zero])
    refine wpAnyH_take (i := 6) (v := ?_) rfl (by kernel_rfl) (by kernel_rfl) (by kernel_rfl) (fun _ _ _ h => h) (Or.inl ⟨by kernel_rfl, ?_⟩) hHeld ?_
    rotate_left
    · intro w' hSw
      (try dsimp only at hSw)
      (try simp only [List.getElem_toArray]); (try simp only [List.getElem_cons_succ]); (try simp only [List.getElem_cons_zero])
      go_simp
      try with_reducible rfl
    (try simp only [Act.put]); (try simp only [List.getElem_toArray]); (try simp only [List.getElem_cons_succ]); (try simp only [List.getElem_cons_zero]); (try simp only [List.setIfInBounds_toArray]); (try simp only [List.set_cons_succ]); (try simp only [List.set_cons_zero])
    refine wpAnyH_ready (rs := [7]) (by kernel_rfl) (by simp) ?_
    refine AllReadyH.cons rfl (fun K hK => ?_) AllReadyH.nil
    (try simp only [List.getElem_toArray]); (try simp only [List.getElem_cons_succ]); (try simp only [List.getElem_cons_zero])
    go_simp
    go_fit hown.out
    rintro e w3 ⟨cn, rfl, rn, k3⟩
    go_wp2_with fail
    have kk3 := kd.trans k3
    have m3 := m.keep kk3 id (fun _ _ => id)
    refine hK.out _ _ ((HSS.out _ kk3.nix)) (fun hHeld => ?_)
    clear hK K
    (try simp only [Act.put]); (try simp only [List.getElem_toArray]); (try simp only [List.getElem_cons_succ]); (try simp only [List.getElem_cons_zero]); (try simp only [List.setIfInBounds_toArray]); (try simp only [List.set_cons_succ]); (try simp only [List.set_cons_zero])
    obtain ⟨O', hO'⟩ : ∃ O' : Nat → Prop, O' = fun b => O b ∨ (w.heap.size ≤ b ∧ b < w3.heap.size) := ⟨_, rfl⟩
    have hw12 : w.heap.size ≤ w2.heap.size := Nat.le_trans kk1.size kd.size
    have hsz3 := k3.size
    have m4 := m3.mono (q := fun b => O' b ∧ b ≠ g ∧ b ≠ bM) (fun b hb => ⟨by rw [hO']; exact .inl hb.1, hb.2⟩)
    have hrd : RdH w3 (fun b => O' b ∧ b ≠ g ∧ b ≠ bM) (.agg cn.toArray) (some h) := ⟨cn, rfl, rGHeld_lawful.mono rn (fun b hb => ⟨by rw [hO']; exact .inr ⟨by have := hb.1; omega, hb.2⟩, by have := T0.out g og; have := hb.1; omega, by have := T0.out bM oM; have := hb.1; omega⟩)⟩
    obtain ⟨w4, hU, m5, k5⟩ := put_run m4 hn ht (fun h => h.2.2 rfl) hrd
    refine wpAnyH_ready (rs := [8]) (by kernel_rfl) (by simp) ?_
    refine AllReadyH.cons rfl (fun K hK => ?_) AllReadyH.nil
    (try simp only [List.getElem_toArray]); (try simp only [List.getElem_cons_succ]); (try simp only [List.getElem_cons_zero])
    go_simp
    refine hK.out _ _ ((HSS.out _ (kk3.nix.trans k5))) (fun hHeld => ?_)
    clear hK K
    (try simp only [Act.put]); (try simp only [List.getElem_toArray]); (try simp only [List.getElem_cons_succ]); (try simp only [List.getElem_cons_zero]); (try simp only [List.setIfInBounds_toArray]); (try simp only [List.set_cons_succ]); (try simp only [List.set_cons_zero])
    refine wpAnyH_done (by kernel_rfl) ?_ _
    clear hHeld hU
    have row4 := (row.keep kk3 id).keep k5 hbX.out.2
    have hlt4 : ∀ b, O' b → b < w4.heap.size := fun b hb => by
      rw [hO'] at hb
      have := k5.size
      rcases hb with hb | hb
      · have := T0.out b hb; have := kk1.size; have := kd.size; omega
      · omega
    have kF := (kk1.trans kk3).nix (S := O) |>.then k5 (fun i hi e => by rw [e]; exact oM)
    have hfin : Hid (IsTab w4 O' g (n + 1) (putT L h)) := ⟨hlt4, by rw [hO']; exact .inl og, ok.put ht hs, bM, _, by rw [hO']; exact .inl oM, ne, row4, by rw [← findT_put]; exact m5⟩
    have hO1 : Hid (∀ b, O' b → O b ∨ w.heap.size ≤ b) := fun b hb => by rw [hO'] at hb; exact hb.imp id (·.1)
    have hO2 : Hid (∀ b, O b → O' b) := fun b hb => by rw [hO']; exact .inl hb
    clear m3 m4 m5 hrd row4 hlt4 hO' rn k5
    go_wp2_with fail
    go_ret
    exact ⟨rfl, O', by rw [← H2.out]; exact hfin.out, hO1.out, hO2.out, kF⟩
  · have hq : (y == 0) = false := by simp [h0]
    have H2 : Hid (L = L2) := by show _ = _; rw [← HL2.out]; unfold afterPut; rw [HY.out, if_neg h0]
    clear h0
    go_enter Try.func11, Try.ntmps11
    go_wp2_with fail
    go_fit hMay.out
    rintro e w1 ⟨rfl, k1⟩
    clear y0 y1 y2 y3 hMay
    go_wp2_with fail
    go_ret
    refine ⟨rfl, O, ?_, fun b hb => .inl hb, fun b hb => hb, (kA.trans k1).nix⟩
    rw [← H2.out]
    exact (HTA.out.nix k1).more (Nat.le_succ n)
def DropPost (w : World) (O : Nat → Prop) (g n : Nat) (L : List GHeld) (k : Int) (e : Ending) (w' : World) : Prop :=
  ∃ (cs : List Value) (R : Nat → Prop), e = .returned (.tuple #[.agg cs.toArray, .bool (findT L k).isSome]) ∧ rGHeld w' R cs (valO (findT L k)) ∧ (∀ b, R b → w.heap.size ≤ b ∧ b < w'.heap.size) ∧ IsTab w' O g n (dropT L k) ∧ Keep O w w'
theorem dropT_none {L : List GHeld} {k : Int} (h : findT L k = none) : dropT L k = L := by
  unfold dropT
  refine List.filter_eq_self.2 (fun x hx => ?_)
  have := List.find?_eq_none.1 h x hx
  simpa using this
set_option maxRecDepth 100000 in
set_option maxHeartbeats 2000000 in
theorem drop_c (O : Nat → Prop) (g n : Nat) (L : List GHeld) (k : Int) (w : World) (T : IsTab w O g n L) (hk : isU64 k) :
    Calls Try.prog 16 #[.pointer (some ⟨g, 0, none⟩), .int .u64 k] w (DropPost w O g n L k) := by
  have hinfo : (Try.prog.info? 28).map (·.size) = some 4 := by kernel_rfl
  have kA : Keep Nix w (w.alloc (.cells #[.int .u64 0, .slice none 0 0, .slice none 0 0, .slice none 0 0] 28)) := (Keep.refl Nix w).alloc _
  have hG := Lib.hid (get_c O g n L k (w.alloc (.cells #[.int .u64 0, .slice none 0 0, .slice none 0 0, .slice none 0 0] 28)) (T.nix kA) hk)
  have HT := Lib.hid T
  have rowZ : RowIs (w.alloc (.cells #[.int .u64 0, .slice none 0 0, .slice none 0 0, .slice none 0 0] 28)) w.heap.size 28 [.int .u64 0, .slice none 0 0, .slice none 0 0, .slice none 0 0] := RowIs.alloc w _ _
  have hwZ : Hid (((w.alloc (.cells #[.int .u64 0, .slice none 0 0, .slice none 0 0, .slice none 0 0] 28))).heap.size = w.heap.size + 1) := by show _ = _; simp
  obtain ⟨fo, HFO⟩ : ∃ y, Hid (findT L k = y) := ⟨_, rfl⟩
  unfold DropPost
  rw [HFO.out] at hG ⊢
  obtain ⟨is, HIS⟩ : ∃ y, Hid (fo.isSome = y) := ⟨_, rfl⟩
  unfold GetPost at hG
  rw [HIS.out] at hG ⊢
  obtain ⟨h, HV⟩ : ∃ y, Hid (valO fo = y) := ⟨_, rfl⟩
  rw [HV.out] at hG ⊢
  obtain ⟨L2, HL2⟩ : ∃ y, Hid (dropT L k = y) := ⟨_, rfl⟩
  rw [HL2.out]
  have HZ := Lib.hid rowZ
  clear T rowZ
  go_enter Try.func16, Try.ntmps16
  go_wp2_with fail
  go_fit hG.out
  rintro e w1 ⟨cs, rfl, rn, k1⟩
  have rn2 := rn
  obtain ⟨bK, dK, bS, dS, bW, dW, rfl, -⟩ := rGHeld_open rn
  have k2 : Keep Nix w1 (w1.alloc (.cells #[.int .u64 h.fTxn, .slice bK h.fKeys.length dK, .slice bS h.fSpans.length dS, .slice bW h.fWrites.length dW] 28)) := (Keep.refl Nix w1).alloc _
  have rowX : RowIs (w1.alloc (.cells #[.int .u64 h.fTxn, .slice bK h.fKeys.length dK, .slice bS h.fSpans.length dS, .slice bW h.fWrites.length dW] 28)) w1.heap.size 28 [.int .u64 h.fTxn, .slice bK h.fKeys.length dK, .slice bS h.fSpans.length dS, .slice bW h.fWrites.length dW] := RowIs.alloc w1 _ _
  have rowZ := (HZ.out.keep k1 id).keep k2 id
  have kk2 := (kA.trans k1).trans k2
  have rn3 := rGHeld_lawful.nix rn2 k2
  have T2 := HT.out.nix kk2
  have hw1 := k1.size
  have hw2 := k2.size
  clear rn rn2 hG HZ
  have HRN := Lib.hid rn3
  cases is with
  | false =>
    have hN : L = L2 := by
      rw [← HL2.out, dropT_none]
      rw [HFO.out]
      have := HIS.out
      cases fo with
      | none => rfl
      | some _ => cases this
    have HT2 := Lib.hid T2
    clear T2 rn3
    go_upto_region 4 with fail
    generalize (w1.alloc (.cells #[.int .u64 h.fTxn, .slice bK h.fKeys.length dK, .slice bS h.fSpans.length dS, .slice bW h.fWrites.length dW] 28)) = w2 at *
    have z0 := rowZ.cell 0
    have q0 := rowX.cell 0
    (try simp only [List.getElem?_cons_zero] at z0 q0)
    have z1 := rowZ.cell 1
    (try simp only [List.getElem?_cons_succ] at z1); (try simp only [List.getElem?_cons_zero] at z1)
    have z2 := rowZ.cell 2
    (try simp only [List.getElem?_cons_succ] at z2); (try simp only [List.getElem?_cons_zero] at z2)
    have z3 := rowZ.cell 3
    (try simp only [List.getElem?_cons_succ] at z3); (try simp only [List.getElem?_cons_zero] at z3)
    have q1 := rowX.cell 1
    (try simp only [List.getElem?_cons_succ] at q1); (try simp only [List.getElem?_cons_zero] at q1)
    have q2 := rowX.cell 2
    (try simp only [List.getElem?_cons_succ] at q2); (try simp only [List.getElem?_cons_zero] at q2)
    have q3 := rowX.cell 3
    (try simp only [List.getElem?_cons_succ] at q3); (try simp only [List.getElem?_cons_zero] at q3)
    have zf0 := rowZ.frozen 0
    have zf1 := rowZ.frozen 1
    have zf2 := rowZ.frozen 2
    have zf3 := rowZ.frozen 3
    have kS : Keep (· = w.heap.size) w2 ((((w2.setCell ⟨w.heap.size, 0, none⟩ (.int .u64 h.fTxn)).setCell ⟨w.heap.size, 1, none⟩ (.slice bK h.fKeys.length dK)).setCell ⟨w.heap.size, 2, none⟩ (.slice bS h.fSpans.length dS)).setCell ⟨w.heap.size, 3, none⟩ (.slice bW h.fWrites.length dW)) := ((((Keep.refl (· = w.heap.size) w2).setCell (p := ⟨w.heap.size, 0, none⟩) (fun _ => rfl) _).setCell (p := ⟨w.heap.size, 1, none⟩) (fun _ => rfl) _).setCell (p := ⟨w.heap.size, 2, none⟩) (fun _ => rfl) _).setCell (p := ⟨w.heap.size, 3, none⟩) (fun _ => rfl) _
    have rowR : RowIs ((((w2.setCell ⟨w.heap.size, 0, none⟩ (.int .u64 h.fTxn)).setCell ⟨w.heap.size, 1, none⟩ (.slice bK h.fKeys.length dK)).setCell ⟨w.heap.size, 2, none⟩ (.slice bS h.fSpans.length dS)).setCell ⟨w.heap.size, 3, none⟩ (.slice bW h.fWrites.length dW)) w.heap.size 28 [.int .u64 h.fTxn, .slice bK h.fKeys.length dK, .slice bS h.fSpans.length dS, .slice bW h.fWrites.length dW] := (((rowZ.set 0 (.int .u64 h.fTxn)).set 1 (.slice bK h.fKeys.length dK)).set 2 (.slice bS h.fSpans.length dS)).set 3 (.slice bW h.fWrites.length dW)
    have HZR := Lib.hid rowR
    clear rowR rowZ rowX
    go_wp2_with fail
    refine bodyPost_ret (results_cell_row2 (by rfl) _ _ _ _ _ _ _ (by rfl) HZR.out Try.underlying28 (by rfl) hinfo) rfl ?_
    have hsS := kS.size
    have hz := hwZ.out
    have hTl := HT.out.lt
    refine ⟨[.int .u64 h.fTxn, .slice bK h.fKeys.length dK, .slice bS h.fSpans.length dS, .slice bW h.fWrites.length dW], NewIn (w.alloc (.cells #[.int .u64 0, .slice none 0 0, .slice none 0 0, .slice none 0 0] 28)) w1, rfl, rGHeld_lawful.keep HRN.out kS (fun b hb e => by have := hb.1; omega), fun b hb => ⟨by have := hb.1; omega, by have := hb.2; omega⟩, ?_, (kk2.then kS (fun i hi e => by omega)).nix⟩
    rw [← hN]
    exact HT2.out.keep kS (fun b hb e => by have := hTl b hb; omega)
  | true =>
    obtain ⟨lt, og, ok, bM, D, oM, ne, row, m⟩ := T2
    have g0 := row.cell 0
    (try simp only [List.getElem?_cons_zero] at g0)
    obtain ⟨w2, hD, m3, k3⟩ := del_run m hk (fun h => h.2.2 rfl) 0
    have hTl := HT.out.lt
    have hlb : Hid (w.heap.size ≠ bM ∧ w1.heap.size ≠ bM ∧ w.heap.size + 1 ≤ w1.heap.size) := by
      have := hTl bM oM; have := hwZ.out; have := k1.size
      show _ ∧ _ ∧ _
      omega
    have rn4 := rGHeld_lawful.keep HRN.out k3 (fun b hb e => by have := hTl bM oM; have := hb.1; have := hwZ.out; omega)
    replace rowZ := rowZ.keep k3 hlb.out.1
    replace rowX := rowX.keep k3 hlb.out.2.1
    have row3 := row.keep k3 (fun e => ne e.symm)
    have hT2 : Hid (IsTab w2 O g n L2) := ⟨fun b hb => by have := lt b hb; have := k3.size; omega, og, by rw [← HL2.out]; exact ok.drop k, bM, _, oM, ne, row3, by rw [← HL2.out, ← findT_drop]; exact m3⟩
    have kk3 : Keep O w w2 := (kk2.nix).then k3 (fun i hi e => by rw [e]; exact oM)
    have HRN4 := Lib.hid rn4
    have hs23 := k3.size
    clear m m3 row row3 rn3 rn4 lt k3
    go_upto_region 4 with fail
    clear g0 hD
    have z0 := rowZ.cell 0
    have q0 := rowX.cell 0
    (try simp only [List.getElem?_cons_zero] at z0 q0)
    have z1 := rowZ.cell 1
    (try simp only [List.getElem?_cons_succ] at z1); (try simp only [List.getElem?_cons_zero] at z1)
    have z2 := rowZ.cell 2
    (try simp only [List.getElem?_cons_succ] at z2); (try simp only [List.getElem?_cons_zero] at z2)
    have z3 := rowZ.cell 3
    (try simp only [List.getElem?_cons_succ] at z3); (try simp only [List.getElem?_cons_zero] at z3)
    have q1 := rowX.cell 1
    (try simp only [List.getElem?_cons_succ] at q1); (try simp only [List.getElem?_cons_zero] at q1)
    have q2 := rowX.cell 2
    (try simp only [List.getElem?_cons_succ] at q2); (try simp only [List.getElem?_cons_zero] at q2)
    have q3 := rowX.cell 3
    (try simp only [List.getElem?_cons_succ] at q3); (try simp only [List.getElem?_cons_zero] at q3)
    have zf0 := rowZ.frozen 0
    have zf1 := rowZ.frozen 1
    have zf2 := rowZ.frozen 2
    have zf3 := rowZ.frozen 3
    have kS : Keep (· = w.heap.size) w2 ((((w2.setCell ⟨w.heap.size, 0, none⟩ (.int .u64 h.fTxn)).setCell ⟨w.heap.size, 1, none⟩ (.slice bK h.fKeys.length dK)).setCell ⟨w.heap.size, 2, none⟩ (.slice bS h.fSpans.length dS)).setCell ⟨w.heap.size, 3, none⟩ (.slice bW h.fWrites.length dW)) := ((((Keep.refl (· = w.heap.size) w2).setCell (p := ⟨w.heap.size, 0, none⟩) (fun _ => rfl) _).setCell (p := ⟨w.heap.size, 1, none⟩) (fun _ => rfl) _).setCell (p := ⟨w.heap.size, 2, none⟩) (fun _ => rfl) _).setCell (p := ⟨w.heap.size, 3, none⟩) (fun _ => rfl) _
    have rowR : RowIs ((((w2.setCell ⟨w.heap.size, 0, none⟩ (.int .u64 h.fTxn)).setCell ⟨w.heap.size, 1, none⟩ (.slice bK h.fKeys.length dK)).setCell ⟨w.heap.size, 2, none⟩ (.slice bS h.fSpans.length dS)).setCell ⟨w.heap.size, 3, none⟩ (.slice bW h.fWrites.length dW)) w.heap.size 28 [.int .u64 h.fTxn, .slice bK h.fKeys.length dK, .slice bS h.fSpans.length dS, .slice bW h.fWrites.length dW] := (((rowZ.set 0 (.int .u64 h.fTxn)).set 1 (.slice bK h.fKeys.length dK)).set 2 (.slice bS h.fSpans.length dS)).set 3 (.slice bW h.fWrites.length dW)
    have HZR := Lib.hid rowR
    clear rowR rowZ rowX
    go_wp2_with fail
    refine bodyPost_ret (results_cell_row2 (by rfl) _ _ _ _ _ _ _ (by rfl) HZR.out Try.underlying28 (by rfl) hinfo) rfl ?_
    have hsS := kS.size
    have hz := hwZ.out
    exact ⟨[.int .u64 h.fTxn, .slice bK h.fKeys.length dK, .slice bS h.fSpans.length dS, .slice bW h.fWrites.length dW], NewIn (w.alloc (.cells #[.int .u64 0, .slice none 0 0, .slice none 0 0, .slice none 0 0] 28)) w1, rfl, rGHeld_lawful.keep HRN4.out kS (fun b hb e => by have := hb.1; omega), fun b hb => ⟨by have := hb.1; omega, by have := hb.2; omega⟩, hT2.out.keep kS (fun b hb e => by have := hTl b hb; omega), kk3.then kS (fun i hi e => by omega)⟩
end Go.Proofs.Ytfagejfcibgigaa
