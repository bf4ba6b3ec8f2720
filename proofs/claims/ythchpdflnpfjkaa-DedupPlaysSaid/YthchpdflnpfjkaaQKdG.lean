/- DEDUP: the tape's Do where the tape is the first cell of a greater block. Printed by genKdG.py and mac.py. -/
import Derived.Test.YthchpdflnpfjkaaQDed1
namespace Go.Proofs.Ythchpdflnpfjkaa
open Go.RowKit

/-- A tape at block bT whose list owns block g. -/
structure IsTapeG (w : World) (bT : Nat) (T : TypeId) (R : List Value) (g : Option Nat) (l : List (List UInt8)) : Prop where
  row : ∃ (a : Option Addr) (cap : Nat), RowIs w bT T (.slice a l.length cap :: R) ∧ w.ownsRow 0 9 1 (.slice a l.length cap) l.length (l.map sv) ∧ (Value.slice a l.length cap).ownBlock = g
  ne : g ≠ some bT
  glt : ∀ b, g = some b → b < w.heap.size
theorem IsTapeG.keep {w w' : World} {bT : Nat} {T : TypeId} {R : List Value} {g : Option Nat} {l : List (List UInt8)} (h : IsTapeG w bT T R g l) {S : Nat → Prop} (k : Keep S w w') (h1 : ¬ S bT) (h2 : ∀ b, g = some b → ¬ S b) : IsTapeG w' bT T R g l := by
  obtain ⟨a, cap, r, o, e⟩ := h.row
  exact ⟨⟨a, cap, r.keep k h1, owned_keep o k (fun b hb => h2 b (e ▸ hb)), e⟩, h.ne, fun b hb => Nat.lt_of_lt_of_le (h.glt b hb) k.size⟩
set_option maxRecDepth 100000 in
set_option maxHeartbeats 4000000 in
theorem tDoG_c {p0 : Nat → Prop} (bT : Nat) (T : TypeId) (R : List Value) (g : Option Nat) (tp : List (List UInt8)) (a : Option Addr) (n ca : Nat) (l : List UInt8) (w : World) (hn : l.length = n) (ha : Lies w p0 a (l.map bv)) (hp : ∀ b, p0 b → b ≠ bT ∧ g ≠ some b)
    (ht : IsTapeG w bT T R g tp) (hL : tp.length ≤ 100000) (hr : n ≤ 140737488351232) :
    Calls Try.prog 39 #[.pointer (some ⟨bT, 0, none⟩), .slice a n ca] w fun e w' => ∃ a' cap' g' m, e = .returned (.slice a' (n + 2) cap') ∧ w.heap.size ≤ m ∧
      w'.ownsRow m 5 1 (.slice a' (n + 2) cap') (n + 2) ((answer (tp.length + 1) l).map bv) ∧ IsTapeG w' bT T R g' (tp ++ [l]) ∧ (∀ b, g' = some b → b < m) ∧
      Keep (fun b => b = bT ∨ g = some b) w w' ∧ (∀ b, g' = some b → g = some b ∨ w.heap.size ≤ b) := by
  subst hn
  obtain ⟨p, hq, ha, HQ⟩ := ha.lt
  replace hp := fun b hb => hp b (hq b hb)
  obtain ⟨aT, cT, row, own, hg⟩ := ht.row
  have hne := ht.ne
  have hgl := ht.glt
  have hbT := row.lt
  have own := owned_same own (w' := w.drew)
  have row := row.same (w' := w.drew)
  have ha := ha.same (w' := w.drew)
  have kk : Keep (fun b => b = bT ∨ g = some b) w w.drew := (Keep.refl _ w).drew
  have hcv : ∀ w', Lies w' p a (l.map bv) → (convert 31 9 (.slice a l.length ca)).run Try.prog w' = .ok (.string (strB l)) w' := fun w' h => conv_bytes Try.underlying31 Try.underlying5 Try.underlying9 rfl h
  have hcv0 := hcv _ ha
  have HL := Lib.hid hL
  have HP := Lib.hid hp
  have HN := Lib.hid hne
  have HG := Lib.hid hg
  have HGL := Lib.hid hgl
  have HB := Lib.hid hbT
  clear ht hp hne hg hgl
  go_enter Try.func39, Try.ntmps39
  go_wp2_with fail
  refine wp_region_held_drew (S := (fun w' => (convert 31 9 (.slice a l.length ca)).run Try.prog w' = .ok (.string (strB l)) w')) (by kernel_rfl) (hcv0) (fun hHeld => ?_)
  refine wpAnyH_take (i := 0) (v := ?_) rfl (by kernel_rfl) (by kernel_rfl) (by kernel_rfl) (fun _ _ _ h => h) (Or.inl ⟨by kernel_rfl, ?_⟩) hHeld ?_
  rotate_left
  · intro w' hSw
    (try dsimp only at hSw)
    (try simp only [List.getElem_toArray]); (try simp only [List.getElem_cons_succ]); (try simp only [List.getElem_cons_zero])
    go_simp
    try with_reducible rfl
  (try simp only [Act.put]); (try simp only [List.getElem_toArray]); (try simp only [List.getElem_cons_succ]); (try simp only [List.getElem_cons_zero]); (try simp only [List.setIfInBounds_toArray]); (try simp only [List.set_cons_succ]); (try simp only [List.set_cons_zero])
  refine wpAnyH_take (i := 1) (v := ?_) rfl (by kernel_rfl) (by kernel_rfl) (by kernel_rfl) (fun _ _ _ h => h) (Or.inl ⟨by kernel_rfl, ?_⟩) hHeld ?_
  rotate_left
  · intro w' hSw
    (try dsimp only at hSw)
    (try simp only [List.getElem_toArray]); (try simp only [List.getElem_cons_succ]); (try simp only [List.getElem_cons_zero])
    go_simp
    try with_reducible rfl
  (try simp only [Act.put]); (try simp only [List.getElem_toArray]); (try simp only [List.getElem_cons_succ]); (try simp only [List.getElem_cons_zero]); (try simp only [List.setIfInBounds_toArray]); (try simp only [List.set_cons_succ]); (try simp only [List.set_cons_zero])
  refine wpAnyH_take (i := 2) (v := ?_) rfl (by kernel_rfl) (by kernel_rfl) (by kernel_rfl) (fun _ _ _ h => h) (Or.inl ⟨by kernel_rfl, ?_⟩) hHeld ?_
  rotate_left
  · intro w' hSw
    (try dsimp only at hSw)
    (try simp only [List.getElem_toArray]); (try simp only [List.getElem_cons_succ]); (try simp only [List.getElem_cons_zero])
    go_simp
    try with_reducible rfl
  (try simp only [Act.put]); (try simp only [List.getElem_toArray]); (try simp only [List.getElem_cons_succ]); (try simp only [List.getElem_cons_zero]); (try simp only [List.setIfInBounds_toArray]); (try simp only [List.set_cons_succ]); (try simp only [List.set_cons_zero])
  refine wpAnyH_take (i := 3) (v := ?_) rfl (by kernel_rfl) (by kernel_rfl) (by kernel_rfl) (fun _ _ _ h => h) (Or.inl ⟨by kernel_rfl, ?_⟩) hHeld ?_
  rotate_left
  · intro w' hSw
    (try dsimp only at hSw)
    (try simp only [List.getElem_toArray]); (try simp only [List.getElem_cons_succ]); (try simp only [List.getElem_cons_zero])
    go_simp
    try with_reducible rfl
  (try simp only [Act.put]); (try simp only [List.getElem_toArray]); (try simp only [List.getElem_cons_succ]); (try simp only [List.getElem_cons_zero]); (try simp only [List.setIfInBounds_toArray]); (try simp only [List.set_cons_succ]); (try simp only [List.set_cons_zero])
  refine wpAnyH_take (i := 5) (v := ?_) rfl (by kernel_rfl) (by kernel_rfl) (by kernel_rfl) (fun _ _ _ h => h) (Or.inl ⟨by kernel_rfl, ?_⟩) hHeld ?_
  rotate_left
  · intro w' hSw
    (try dsimp only at hSw)
    (try simp only [List.getElem_toArray]); (try simp only [List.getElem_cons_succ]); (try simp only [List.getElem_cons_zero])
    go_simp
    try with_reducible rfl
  (try simp only [Act.put]); (try simp only [List.getElem_toArray]); (try simp only [List.getElem_cons_succ]); (try simp only [List.getElem_cons_zero]); (try simp only [List.setIfInBounds_toArray]); (try simp only [List.set_cons_succ]); (try simp only [List.set_cons_zero])
  refine wpAnyH_take (i := 6) (v := ?_) rfl (by kernel_rfl) (by kernel_rfl) (by kernel_rfl) (fun _ _ _ h => h) (Or.inl ⟨by kernel_rfl, ?_⟩) hHeld ?_
  rotate_left
  · intro w' hSw
    (try dsimp only at hSw)
    (try simp only [List.getElem_toArray]); (try simp only [List.getElem_cons_succ]); (try simp only [List.getElem_cons_zero])
    go_simp
    try with_reducible rfl
  (try simp only [Act.put]); (try simp only [List.getElem_toArray]); (try simp only [List.getElem_cons_succ]); (try simp only [List.getElem_cons_zero]); (try simp only [List.setIfInBounds_toArray]); (try simp only [List.set_cons_succ]); (try simp only [List.set_cons_zero])
  generalize w.drew = wd at *
  refine wpAnyH_ready (rs := [4, 7]) (by kernel_rfl) (by simp) ?_
  refine AllReadyH.cons rfl (fun K hK => ?_) (AllReadyH.cons rfl (fun K hK => ?_) AllReadyH.nil)
  · have x4 := row.cell 0
    (try simp only [List.getElem?_cons_succ] at x4); (try simp only [List.getElem?_cons_zero] at x4)
    (try simp only [List.getElem_toArray]); (try simp only [List.getElem_cons_succ]); (try simp only [List.getElem_cons_zero])
    go_simp
    clear x4
    refine hK.out _ _ (hcv _ ha) (fun hHeld => ?_)
    clear hK K
    (try simp only [Act.put]); (try simp only [List.getElem_toArray]); (try simp only [List.getElem_cons_succ]); (try simp only [List.getElem_cons_zero]); (try simp only [List.setIfInBounds_toArray]); (try simp only [List.set_cons_succ]); (try simp only [List.set_cons_zero])
    refine wpAnyH_ready (rs := [7]) (by kernel_rfl) (by simp) ?_
    refine AllReadyH.cons rfl (fun K hK => ?_) AllReadyH.nil
    (try simp only [List.getElem_toArray]); (try simp only [List.getElem_cons_succ]); (try simp only [List.getElem_cons_zero])
    go_simp
    have ha7 := ha.keep ((Keep.refl Nix wd).alloc (.cells #[.string (strB l)] 9)) (fun _ _ h => h)
    refine hK.out _ _ (hcv _ ha7) (fun hHeld => ?_)
    clear hK K
    (try simp only [Act.put]); (try simp only [List.getElem_toArray]); (try simp only [List.getElem_cons_succ]); (try simp only [List.getElem_cons_zero]); (try simp only [List.setIfInBounds_toArray]); (try simp only [List.set_cons_succ]); (try simp only [List.set_cons_zero])
    refine wpAnyH_ready (rs := [8]) (by kernel_rfl) (by simp) ?_
    refine AllReadyH.cons rfl (fun K hK => ?_) AllReadyH.nil
    refine step_append1 T_strs (by rfl) (.tmp 13) (.tmp 16) (by rfl) 0 (by rfl) own (by rfl) rfl (by simp [Value.oneCell']) (by unfold maxLen; omega) (by omega) (Nat.zero_le _) ?_
    intro aN cN w8 own8 k8 hfresh
    have own8 : w8.ownsRow 0 9 1 (.slice aN (tp.length + 1) cN) (tp.length + 1) ((tp ++ [l]).map sv) := by simpa [sv] using own8
    have hg8 : ∀ b, OwnB (.slice aT tp.length cT) b → g = some b := fun b hb => HG.out ▸ hb
    have row8 := row.keep k8 (fun h => HN.out (hg8 _ h))
    have ha8 := ha.keep k8 (fun b hb h => (HP.out b hb).2 (hg8 _ h))
    have kk8 : Keep (fun b => b = bT ∨ g = some b) w w8 := kk.then k8 (fun i _ h => .inr (hg8 _ h))
    have hfr : ∀ b, OwnB (.slice aN (tp.length + 1) cN) b → g = some b ∨ w.heap.size ≤ b := fun b hb => (hfresh b hb).imp (hg8 b) (fun h => Nat.le_trans kk.size h)
    clear k8 hfresh own
    refine hK.out _ _ (hcv _ ha8) (fun hHeld => ?_)
    clear hK K
    (try simp only [Act.put]); (try simp only [List.getElem_toArray]); (try simp only [List.getElem_cons_succ]); (try simp only [List.getElem_cons_zero]); (try simp only [List.setIfInBounds_toArray]); (try simp only [List.set_cons_succ]); (try simp only [List.set_cons_zero])
    refine wpAnyH_take (i := 9) (v := ?_) rfl (by kernel_rfl) (by kernel_rfl) (by kernel_rfl) (fun _ _ _ h => h) (Or.inl ⟨by kernel_rfl, ?_⟩) hHeld ?_
    rotate_left
    · intro w' hSw
      (try dsimp only at hSw)
      (try simp only [List.getElem_toArray]); (try simp only [List.getElem_cons_succ]); (try simp only [List.getElem_cons_zero])
      go_simp
      try with_reducible rfl
    (try simp only [Act.put]); (try simp only [List.getElem_toArray]); (try simp only [List.getElem_cons_succ]); (try simp only [List.getElem_cons_zero]); (try simp only [List.setIfInBounds_toArray]); (try simp only [List.set_cons_succ]); (try simp only [List.set_cons_zero])
    refine wpAnyH_take (i := 10) (v := ?_) rfl (by kernel_rfl) (by kernel_rfl) (by kernel_rfl) (fun _ _ _ h => h) (Or.inl ⟨by kernel_rfl, ?_⟩) hHeld ?_
    rotate_left
    · intro w' hSw
      (try dsimp only at hSw)
      (try simp only [List.getElem_toArray]); (try simp only [List.getElem_cons_succ]); (try simp only [List.getElem_cons_zero])
      go_simp
      try with_reducible rfl
    (try simp only [Act.put]); (try simp only [List.getElem_toArray]); (try simp only [List.getElem_cons_succ]); (try simp only [List.getElem_cons_zero]); (try simp only [List.setIfInBounds_toArray]); (try simp only [List.set_cons_succ]); (try simp only [List.set_cons_zero])
    refine wpAnyH_ready (rs := [11]) (by kernel_rfl) (by simp) ?_
    refine AllReadyH.cons rfl (fun K hK => ?_) AllReadyH.nil
    have row11 := row8.set 0 (.slice aN (tp.length + 1) cN)
    simp only [List.set_cons_zero] at row11
    have k11 := (Keep.refl (fun b => b = bT) w8).setCell (p := ⟨bT, 0, none⟩) (fun _ => rfl) (.slice aN (tp.length + 1) cN)
    have ha11 := ha8.keep k11 (fun b hb => (HP.out b hb).1)
    have x8 := row8.cell 0
    (try simp only [List.getElem?_cons_succ] at x8); (try simp only [List.getElem?_cons_zero] at x8)
    have f8 := row8.frozen 0
    (try simp only [List.getElem_toArray]); (try simp only [List.getElem_cons_succ]); (try simp only [List.getElem_cons_zero])
    go_simp
    clear x8 f8
    refine hK.out _ _ (hcv _ ha11) (fun hHeld => ?_)
    clear hK K
    (try simp only [Act.put]); (try simp only [List.getElem_toArray]); (try simp only [List.getElem_cons_succ]); (try simp only [List.getElem_cons_zero]); (try simp only [List.setIfInBounds_toArray]); (try simp only [List.set_cons_succ]); (try simp only [List.set_cons_zero])
    refine wpAnyH_done (by kernel_rfl) ?_ _
    have own11 := owned_keep own8 k11 (fun b hb e => by subst e; exact (hfr _ hb).elim HN.out (fun h => by have := HB.out; omega))
    have kk11 := kk8.then k11 (fun i _ e => .inl e)
    have hbn : (Value.slice aN (tp.length + 1) cN).ownBlock ≠ some bT := fun e => (hfr _ e).elim HN.out (fun h => by have := HB.out; omega)
    have hlt11 : ∀ b, (Value.slice aN (tp.length + 1) cN).ownBlock = some b → b < (w8.setCell ⟨bT, 0, none⟩ (.slice aN (tp.length + 1) cN)).heap.size := fun b hb => (own11.lt b hb).2
    clear hHeld own8 kk8 k11 ha8 row8 row ha kk
    generalize w8.setCell ⟨bT, 0, none⟩ (.slice aN (tp.length + 1) cN) = w9 at *
    obtain ⟨gN, hgN⟩ : ∃ gN, Hid (gN = (Value.slice aN (tp.length + 1) cN).ownBlock) := ⟨_, rfl⟩
    have HFR := Lib.hid hfr
    have HBN := Lib.hid hbn
    have HLT := Lib.hid hlt11
    clear hfr hbn hlt11
    go_wp2_with fail
    have x9 := row11.cell 0
    (try simp only [List.getElem?_cons_succ] at x9); (try simp only [List.getElem?_cons_zero] at x9)
    refine wp_region_held_drew (S := (fun w' => w'.cell? ⟨bT, 0, none⟩ = some (.slice aN (tp.length + 1) cN))) (by kernel_rfl) (x9) (fun hHeld => ?_)
    refine wpAnyH_take (i := 0) (v := ?_) rfl (by kernel_rfl) (by kernel_rfl) (by kernel_rfl) (fun _ _ _ h => h) (Or.inl ⟨by kernel_rfl, ?_⟩) hHeld ?_
    rotate_left
    · intro w' hSw
      (try dsimp only at hSw)
      (try simp only [List.getElem_toArray]); (try simp only [List.getElem_cons_succ]); (try simp only [List.getElem_cons_zero])
      go_simp
      try with_reducible rfl
    (try simp only [Act.put]); (try simp only [List.getElem_toArray]); (try simp only [List.getElem_cons_succ]); (try simp only [List.getElem_cons_zero]); (try simp only [List.setIfInBounds_toArray]); (try simp only [List.set_cons_succ]); (try simp only [List.set_cons_zero])
    refine wpAnyH_take (i := 1) (v := ?_) rfl (by kernel_rfl) (by kernel_rfl) (by kernel_rfl) (fun _ _ _ h => h) (Or.inl ⟨by kernel_rfl, ?_⟩) hHeld ?_
    rotate_left
    · intro w' hSw
      (try dsimp only at hSw)
      (try simp only [List.getElem_toArray]); (try simp only [List.getElem_cons_succ]); (try simp only [List.getElem_cons_zero])
      go_simp
      try with_reducible rfl
    (try simp only [Act.put]); (try simp only [List.getElem_toArray]); (try simp only [List.getElem_cons_succ]); (try simp only [List.getElem_cons_zero]); (try simp only [List.setIfInBounds_toArray]); (try simp only [List.set_cons_succ]); (try simp only [List.set_cons_zero])
    refine wpAnyH_take (i := 2) (v := ?_) rfl (by kernel_rfl) (by kernel_rfl) (by kernel_rfl) (fun _ _ _ h => h) (Or.inl ⟨by kernel_rfl, ?_⟩) hHeld ?_
    rotate_left
    · intro w' hSw
      (try dsimp only at hSw)
      (try simp only [List.getElem_toArray]); (try simp only [List.getElem_cons_succ]); (try simp only [List.getElem_cons_zero])
      go_simp
      try with_reducible rfl
    (try simp only [Act.put]); (try simp only [List.getElem_toArray]); (try simp only [List.getElem_cons_succ]); (try simp only [List.getElem_cons_zero]); (try simp only [List.setIfInBounds_toArray]); (try simp only [List.set_cons_succ]); (try simp only [List.set_cons_zero])
    refine wpAnyH_take (i := 3) (v := ?_) rfl (by kernel_rfl) (by kernel_rfl) (by kernel_rfl) (fun _ _ _ h => h) (Or.inl ⟨by kernel_rfl, ?_⟩) hHeld ?_
    rotate_left
    · intro w' hSw
      (try dsimp only at hSw)
      (try simp only [List.getElem_toArray]); (try simp only [List.getElem_cons_succ]); (try simp only [List.getElem_cons_zero])
      go_simp
      try with_reducible rfl
    (try simp only [Act.put]); (try simp only [List.getElem_toArray]); (try simp only [List.getElem_cons_succ]); (try simp only [List.getElem_cons_zero]); (try simp only [List.setIfInBounds_toArray]); (try simp only [List.set_cons_succ]); (try simp only [List.set_cons_zero])
    refine wpAnyH_take (i := 4) (v := ?_) rfl (by kernel_rfl) (by kernel_rfl) (by kernel_rfl) (fun _ _ _ h => h) (Or.inl ⟨by kernel_rfl, ?_⟩) hHeld ?_
    rotate_left
    · intro w' hSw
      (try dsimp only at hSw)
      (try simp only [List.getElem_toArray]); (try simp only [List.getElem_cons_succ]); (try simp only [List.getElem_cons_zero])
      go_simp
      try with_reducible rfl
    (try simp only [Act.put]); (try simp only [List.getElem_toArray]); (try simp only [List.getElem_cons_succ]); (try simp only [List.getElem_cons_zero]); (try simp only [List.setIfInBounds_toArray]); (try simp only [List.set_cons_succ]); (try simp only [List.set_cons_zero])
    refine wpAnyH_take (i := 5) (v := ?_) rfl (by kernel_rfl) (by kernel_rfl) (by kernel_rfl) (fun _ _ _ h => h) (Or.inl ⟨by kernel_rfl, ?_⟩) hHeld ?_
    rotate_left
    · intro w' hSw
      (try dsimp only at hSw)
      (try simp only [List.getElem_toArray]); (try simp only [List.getElem_cons_succ]); (try simp only [List.getElem_cons_zero])
      go_simp
      try with_reducible rfl
    (try simp only [Act.put]); (try simp only [List.getElem_toArray]); (try simp only [List.getElem_cons_succ]); (try simp only [List.getElem_cons_zero]); (try simp only [List.setIfInBounds_toArray]); (try simp only [List.set_cons_succ]); (try simp only [List.set_cons_zero])
    refine wpAnyH_take (i := 6) (v := ?_) rfl (by kernel_rfl) (by kernel_rfl) (by kernel_rfl) (fun _ _ _ h => h) (Or.inl ⟨by kernel_rfl, ?_⟩) hHeld ?_
    rotate_left
    · intro w' hSw
      (try dsimp only at hSw)
      (try simp only [List.getElem_toArray]); (try simp only [List.getElem_cons_succ]); (try simp only [List.getElem_cons_zero])
      go_simp
      try with_reducible rfl
    (try simp only [Act.put]); (try simp only [List.getElem_toArray]); (try simp only [List.getElem_cons_succ]); (try simp only [List.getElem_cons_zero]); (try simp only [List.setIfInBounds_toArray]); (try simp only [List.set_cons_succ]); (try simp only [List.set_cons_zero])
    refine wpAnyH_take (i := 7) (v := ?_) rfl (by kernel_rfl) (by kernel_rfl) (by kernel_rfl) (fun _ _ _ h => h) (Or.inl ⟨by kernel_rfl, ?_⟩) hHeld ?_
    rotate_left
    · intro w' hSw
      (try dsimp only at hSw)
      (try simp only [List.getElem_toArray]); (try simp only [List.getElem_cons_succ]); (try simp only [List.getElem_cons_zero])
      go_simp
      try with_reducible rfl
    (try simp only [Act.put]); (try simp only [List.getElem_toArray]); (try simp only [List.getElem_cons_succ]); (try simp only [List.getElem_cons_zero]); (try simp only [List.setIfInBounds_toArray]); (try simp only [List.set_cons_succ]); (try simp only [List.set_cons_zero])
    refine wpAnyH_take (i := 8) (v := ?_) rfl (by kernel_rfl) (by kernel_rfl) (by kernel_rfl) (fun _ _ _ h => h) (Or.inl ⟨by kernel_rfl, ?_⟩) hHeld ?_
    rotate_left
    · intro w' hSw
      (try dsimp only at hSw)
      (try simp only [List.getElem_toArray]); (try simp only [List.getElem_cons_succ]); (try simp only [List.getElem_cons_zero])
      go_simp
      try with_reducible rfl
    (try simp only [Act.put]); (try simp only [List.getElem_toArray]); (try simp only [List.getElem_cons_succ]); (try simp only [List.getElem_cons_zero]); (try simp only [List.setIfInBounds_toArray]); (try simp only [List.set_cons_succ]); (try simp only [List.set_cons_zero])
    refine wpAnyH_take (i := 9) (v := ?_) rfl (by kernel_rfl) (by kernel_rfl) (by kernel_rfl) (fun _ _ _ h => h) (Or.inl ⟨by kernel_rfl, ?_⟩) hHeld ?_
    rotate_left
    · intro w' hSw
      (try dsimp only at hSw)
      (try simp only [List.getElem_toArray]); (try simp only [List.getElem_cons_succ]); (try simp only [List.getElem_cons_zero])
      go_simp
      try with_reducible rfl
    (try simp only [Act.put]); (try simp only [List.getElem_toArray]); (try simp only [List.getElem_cons_succ]); (try simp only [List.getElem_cons_zero]); (try simp only [List.setIfInBounds_toArray]); (try simp only [List.set_cons_succ]); (try simp only [List.set_cons_zero])
    refine wpAnyH_take (i := 10) (v := ?_) rfl (by kernel_rfl) (by kernel_rfl) (by kernel_rfl) (fun _ _ _ h => h) (Or.inl ⟨by kernel_rfl, ?_⟩) hHeld ?_
    rotate_left
    · intro w' hSw
      (try dsimp only at hSw)
      (try simp only [List.getElem_toArray]); (try simp only [List.getElem_cons_succ]); (try simp only [List.getElem_cons_zero])
      go_simp
      try with_reducible rfl
    (try simp only [Act.put]); (try simp only [List.getElem_toArray]); (try simp only [List.getElem_cons_succ]); (try simp only [List.getElem_cons_zero]); (try simp only [List.setIfInBounds_toArray]); (try simp only [List.set_cons_succ]); (try simp only [List.set_cons_zero])
    refine wpAnyH_take (i := 11) (v := ?_) rfl (by kernel_rfl) (by kernel_rfl) (by kernel_rfl) (fun _ _ _ h => h) (Or.inl ⟨by kernel_rfl, ?_⟩) hHeld ?_
    rotate_left
    · intro w' hSw
      (try dsimp only at hSw)
      (try simp only [List.getElem_toArray]); (try simp only [List.getElem_cons_succ]); (try simp only [List.getElem_cons_zero])
      go_simp
      try with_reducible rfl
    (try simp only [Act.put]); (try simp only [List.getElem_toArray]); (try simp only [List.getElem_cons_succ]); (try simp only [List.getElem_cons_zero]); (try simp only [List.setIfInBounds_toArray]); (try simp only [List.set_cons_succ]); (try simp only [List.set_cons_zero])
    refine wpAnyH_take (i := 12) (v := ?_) rfl (by kernel_rfl) (by kernel_rfl) (by kernel_rfl) (fun _ _ _ h => h) (Or.inl ⟨by kernel_rfl, ?_⟩) hHeld ?_
    rotate_left
    · intro w' hSw
      (try dsimp only at hSw)
      (try simp only [List.getElem_toArray]); (try simp only [List.getElem_cons_succ]); (try simp only [List.getElem_cons_zero])
      go_simp
      try with_reducible rfl
    (try simp only [Act.put]); (try simp only [List.getElem_toArray]); (try simp only [List.getElem_cons_succ]); (try simp only [List.getElem_cons_zero]); (try simp only [List.setIfInBounds_toArray]); (try simp only [List.set_cons_succ]); (try simp only [List.set_cons_zero])
    refine wpAnyH_ready (rs := [13]) (by kernel_rfl) (by simp) ?_
    refine AllReadyH.cons rfl (fun K hK => ?_) AllReadyH.nil
    (try simp only [List.getElem_toArray]); (try simp only [List.getElem_cons_succ]); (try simp only [List.getElem_cons_zero])
    go_simp
    have e1 : IntKind.u8.wrap ((tp.length : Int) + 1) = ((UInt8.ofNat (tp.length + 1)).toNat : Int) := by rw [← wrap_u8]; rfl
    have e2 : IntKind.u8.wrap (((tp.length : Int) + 1) / 256) = ((UInt8.ofNat ((tp.length + 1) / 256)).toNat : Int) := by rw [← wrap_u8]; rfl
    rw [e1, e2]
    clear e1 e2
    have el : (tp ++ [l]).length = tp.length + 1 := by simp
    have it9 : IsTapeG w9 bT T R gN (tp ++ [l]) := ⟨⟨aN, cN, by rw [el]; exact row11, by rw [el]; exact own11, by rw [el]; exact hgN.out.symm⟩, by rw [hgN.out]; exact HBN.out, fun b hb => HLT.out b (hgN.out.symm.trans hb)⟩
    have hsz9 : w.heap.size ≤ w9.heap.size := kk11.size
    have HBM : Hid (bT < w9.heap.size) := row11.lt
    have hgl9 : Hid (∀ b, gN = some b → b < w9.heap.size) := it9.glt
    have hfr9 : Hid (∀ b, gN = some b → g = some b ∨ w.heap.size ≤ b) := fun b hb => HFR.out b (hgN.out.symm.trans hb)
    have hmA : w9.heap.size ≤ (w9.alloc (.cells #[.int .u8 ((UInt8.ofNat (tp.length + 1)).toNat : Int), .int .u8 ((UInt8.ofNat ((tp.length + 1) / 256)).toNat : Int)] 5)).drew.heap.size := by simp [World.drew]
    have kA := (Keep.refl Nix w9).alloc (.cells #[.int .u8 ((UInt8.ofNat (tp.length + 1)).toNat : Int), .int .u8 ((UInt8.ofNat ((tp.length + 1) / 256)).toNat : Int)] 5)
    have ownA : (w9.alloc (.cells #[.int .u8 ((UInt8.ofNat (tp.length + 1)).toNat : Int), .int .u8 ((UInt8.ofNat ((tp.length + 1) / 256)).toNat : Int)] 5)).ownsRow w9.heap.size 5 1 (.slice (some ⟨w9.heap.size, 0, none⟩) 2 2) 2 ([UInt8.ofNat (tp.length + 1), UInt8.ofNat ((tp.length + 1) / 256)].map bv) :=
      ⟨by simp, .inr ⟨w9.heap.size, 2, _, rfl, Nat.le_refl _, heap_alloc_new _ _, Nat.le_refl _, by decide, by simp, by simp [bv]⟩⟩
    have rowA := row11.keep kA id
    have xA := rowA.cell 0
    (try simp only [List.getElem?_cons_succ] at xA); (try simp only [List.getElem?_cons_zero] at xA)
    refine hK.out _ _ (xA) (fun hHeld => ?_)
    clear hK K
    (try simp only [Act.put]); (try simp only [List.getElem_toArray]); (try simp only [List.getElem_cons_succ]); (try simp only [List.getElem_cons_zero]); (try simp only [List.setIfInBounds_toArray]); (try simp only [List.set_cons_succ]); (try simp only [List.set_cons_zero])
    refine wpAnyH_take (i := 14) (v := ?_) rfl (by kernel_rfl) (by kernel_rfl) (by kernel_rfl) (fun _ _ _ h => h) (Or.inl ⟨by kernel_rfl, ?_⟩) hHeld ?_
    rotate_left
    · intro w' hSw
      (try dsimp only at hSw)
      (try simp only [List.getElem_toArray]); (try simp only [List.getElem_cons_succ]); (try simp only [List.getElem_cons_zero])
      go_simp
      try with_reducible rfl
    (try simp only [Act.put]); (try simp only [List.getElem_toArray]); (try simp only [List.getElem_cons_succ]); (try simp only [List.getElem_cons_zero]); (try simp only [List.setIfInBounds_toArray]); (try simp only [List.set_cons_succ]); (try simp only [List.set_cons_zero])
    refine wpAnyH_done (by kernel_rfl) ?_ _
    have itA := (it9.keep kA id (fun _ _ => id)).keep (Keep.drew (Keep.refl Nix _)) id (fun _ _ => id)
    have haA := (ha11.keep kA (fun _ _ h => h)).same (w' := (w9.alloc (.cells #[.int .u8 ((UInt8.ofNat (tp.length + 1)).toNat : Int), .int .u8 ((UInt8.ofNat ((tp.length + 1) / 256)).toNat : Int)] 5)).drew)
    have ownA := owned_same ownA (w' := (w9.alloc (.cells #[.int .u8 ((UInt8.ofNat (tp.length + 1)).toNat : Int), .int .u8 ((UInt8.ofNat ((tp.length + 1) / 256)).toNat : Int)] 5)).drew)
    have kkA := (kk11.trans (kA.nix)).same (c := (w9.alloc (.cells #[.int .u8 ((UInt8.ofNat (tp.length + 1)).toNat : Int), .int .u8 ((UInt8.ofNat ((tp.length + 1) / 256)).toNat : Int)] 5)).drew)
    clear kA rowA xA hHeld x9 row11 own11 kk11 ha11 it9 HFR HBN HLT hgN ha7
    generalize (w9.alloc (.cells #[.int .u8 ((UInt8.ofNat (tp.length + 1)).toNat : Int), .int .u8 ((UInt8.ofNat ((tp.length + 1) / 256)).toNat : Int)] 5)).drew = wA at *
    generalize w9.heap.size = mA at *
    obtain ⟨hd, hhd⟩ : ∃ hd : List UInt8, Hid (hd = [UInt8.ofNat (tp.length + 1), UInt8.ofNat ((tp.length + 1) / 256)]) := ⟨_, rfl⟩
    have hdl : hd.length = 2 := by rw [hhd.out]; rfl
    rw [← hhd.out] at ownA
    generalize ((UInt8.ofNat (tp.length + 1)).toNat : Int) = z1
    generalize ((UInt8.ofNat ((tp.length + 1) / 256)).toNat : Int) = z2
    go_wp2_with fail
    go_loopw [5, 6] (fun v i wr => ∃ (k : Nat) (j : Int) (ao : Option Addr) (co : Nat), k ≤ l.length ∧ j = (k : Int) - 1 ∧ v = .slice ao (2 + (l.length - k)) co ∧ i = .int .i64 j ∧
      wr.ownsRow mA 5 1 (.slice ao (2 + (l.length - k)) co) (2 + (l.length - k)) ((hd ++ (l.drop k).reverse).map bv) ∧ mA ≤ wr.heap.size ∧ IsTapeG wr bT T R gN (tp ++ [l]) ∧ Lies wr p a (l.map bv) ∧ Keep (fun b => b = bT ∨ g = some b) w wr) (fun _ i _ => (intOf i + 1).toNat)
    case atStart => exact ⟨l.length, (l.length : Int) - 1, _, _, Nat.le_refl _, rfl, by rw [Nat.sub_self], by go_num, by rw [Nat.sub_self]; simpa using ownA, hmA, itA, haA, kkA⟩
    case round =>
      clear itA haA ownA kkA hmA
      obtain ⟨k, j, ao, co, hk, hj, rfl, rfl, own, hm, it, lies, kk⟩ := hrel
      by_cases hk0 : k = 0
      · subst hk0
        obtain rfl : j = -1 := by omega
        clear hj hk
        go_wp2_with fail
        go_ret
        have e3 : 2 + (l.length - 0) = l.length + 2 := by omega
        rw [e3] at own ⊢
        exact ⟨ao, co, gN, mA, rfl, hsz9, by rw [hhd.out] at own; simpa [answer] using own, it, hgl9.out, kk, hfr9.out⟩
      · obtain ⟨k, rfl⟩ : ∃ k', k = k' + 1 := ⟨k - 1, by omega⟩
        obtain rfl : j = (k : Int) := by omega
        have hi0 : (0 : Int) ≤ (k : Int) := by omega
        have hi1 : (k : Int) < (l.length : Int) := by omega
        obtain ⟨b, off, rfl, -, hbs, hc⟩ := lies (by intro h; simp at h; subst h; simp at hi1; omega)
        have x0 := hc k _ (bv_at l k (by omega))
        have hdrop : Hid (l.drop k = l[k]'(by omega) :: l.drop (k + 1)) := List.drop_eq_getElem_cons (by omega)
        have e3 : Hid (2 + (l.length - (k + 1)) + 1 = 2 + (l.length - k)) := by show _ = _; omega
        generalize l[k] = c at x0 hdrop
        clear hj hk0 hc
        go_wp2_with (at_builtin; refine wpl_append1 T_bytes rfl (.tmp 41) (.tmp 46) rfl mA rfl own rfl rfl ?c1 ?c2 ?c3 hm ?_)
        case c1 => rfl
        case c2 => unfold maxLen; omega
        case c3 => omega
        intro a' c' wB ownB kB
        have hoB : ∀ b', OwnB (.slice ao (2 + (l.length - (k + 1))) co) b' → mA ≤ b' := fun b' hb' => (own.lt b' hb').1
        have itB := it.keep kB (fun h => by have := hoB _ h; have := HBM.out; omega) (fun b' hb' h => by have := hoB _ h; have := hgl9.out b' hb'; omega)
        have liesB : Lies wB p (some ⟨b, off, none⟩) (l.map bv) := lies.keep kB (fun b' hb' h => by have := hoB _ h; have := HQ.out b' hb'; omega)
        have kkB := kk.then kB (fun i hi h => by have := hoB _ h; omega)
        rw [e3.out] at ownB
        have hmB := Nat.le_trans hm kB.size
        clear own it lies kk hm x0 kB
        go_wp2_with fail
        go_roundw
        case rel => exact ⟨k, (k : Int) - 1, a', c', by omega, rfl, by rw [e3.out], by go_num, by rw [hdrop.out]; simpa [bv] using ownB, hmB, itB, liesB, kkB⟩
        case measure => simp [intOf]
  · (try simp only [List.getElem_toArray]); (try simp only [List.getElem_cons_succ]); (try simp only [List.getElem_cons_zero])
    go_simp
    have ha7 := ha.keep ((Keep.refl Nix wd).alloc (.cells #[.string (strB l)] 9)) (fun _ _ h => h)
    have row7 := row.keep ((Keep.refl Nix wd).alloc (.cells #[.string (strB l)] 9)) id
    refine hK.out _ _ (hcv _ ha7) (fun hHeld => ?_)
    clear hK K
    (try simp only [Act.put]); (try simp only [List.getElem_toArray]); (try simp only [List.getElem_cons_succ]); (try simp only [List.getElem_cons_zero]); (try simp only [List.setIfInBounds_toArray]); (try simp only [List.set_cons_succ]); (try simp only [List.set_cons_zero])
    refine wpAnyH_ready (rs := [4]) (by kernel_rfl) (by simp) ?_
    refine AllReadyH.cons rfl (fun K hK => ?_) AllReadyH.nil
    have x4 := row7.cell 0
    (try simp only [List.getElem?_cons_succ] at x4); (try simp only [List.getElem?_cons_zero] at x4)
    (try simp only [List.getElem_toArray]); (try simp only [List.getElem_cons_succ]); (try simp only [List.getElem_cons_zero])
    go_simp
    clear x4
    refine hK.out _ _ (hcv _ ha7) (fun hHeld => ?_)
    clear hK K
    (try simp only [Act.put]); (try simp only [List.getElem_toArray]); (try simp only [List.getElem_cons_succ]); (try simp only [List.getElem_cons_zero]); (try simp only [List.setIfInBounds_toArray]); (try simp only [List.set_cons_succ]); (try simp only [List.set_cons_zero])
    refine wpAnyH_ready (rs := [8]) (by kernel_rfl) (by simp) ?_
    refine AllReadyH.cons rfl (fun K hK => ?_) AllReadyH.nil
    refine step_append1 T_strs (by rfl) (.tmp 13) (.tmp 16) (by rfl) 0 (by rfl) own (by rfl) rfl (by simp [Value.oneCell']) (by unfold maxLen; omega) (by omega) (Nat.zero_le _) ?_
    intro aN cN w8 own8 k8 hfresh
    have own8 : w8.ownsRow 0 9 1 (.slice aN (tp.length + 1) cN) (tp.length + 1) ((tp ++ [l]).map sv) := by simpa [sv] using own8
    have hg8 : ∀ b, OwnB (.slice aT tp.length cT) b → g = some b := fun b hb => HG.out ▸ hb
    have row8 := row.keep k8 (fun h => HN.out (hg8 _ h))
    have ha8 := ha.keep k8 (fun b hb h => (HP.out b hb).2 (hg8 _ h))
    have kk8 : Keep (fun b => b = bT ∨ g = some b) w w8 := kk.then k8 (fun i _ h => .inr (hg8 _ h))
    have hfr : ∀ b, OwnB (.slice aN (tp.length + 1) cN) b → g = some b ∨ w.heap.size ≤ b := fun b hb => (hfresh b hb).imp (hg8 b) (fun h => Nat.le_trans kk.size h)
    clear k8 hfresh own
    refine hK.out _ _ (hcv _ ha8) (fun hHeld => ?_)
    clear hK K
    (try simp only [Act.put]); (try simp only [List.getElem_toArray]); (try simp only [List.getElem_cons_succ]); (try simp only [List.getElem_cons_zero]); (try simp only [List.setIfInBounds_toArray]); (try simp only [List.set_cons_succ]); (try simp only [List.set_cons_zero])
    refine wpAnyH_take (i := 9) (v := ?_) rfl (by kernel_rfl) (by kernel_rfl) (by kernel_rfl) (fun _ _ _ h => h) (Or.inl ⟨by kernel_rfl, ?_⟩) hHeld ?_
    rotate_left
    · intro w' hSw
      (try dsimp only at hSw)
      (try simp only [List.getElem_toArray]); (try simp only [List.getElem_cons_succ]); (try simp only [List.getElem_cons_zero])
      go_simp
      try with_reducible rfl
    (try simp only [Act.put]); (try simp only [List.getElem_toArray]); (try simp only [List.getElem_cons_succ]); (try simp only [List.getElem_cons_zero]); (try simp only [List.setIfInBounds_toArray]); (try simp only [List.set_cons_succ]); (try simp only [List.set_cons_zero])
    refine wpAnyH_take (i := 10) (v := ?_) rfl (by kernel_rfl) (by kernel_rfl) (by kernel_rfl) (fun _ _ _ h => h) (Or.inl ⟨by kernel_rfl, ?_⟩) hHeld ?_
    rotate_left
    · intro w' hSw
      (try dsimp only at hSw)
      (try simp only [List.getElem_toArray]); (try simp only [List.getElem_cons_succ]); (try simp only [List.getElem_cons_zero])
      go_simp
      try with_reducible rfl
    (try simp only [Act.put]); (try simp only [List.getElem_toArray]); (try simp only [List.getElem_cons_succ]); (try simp only [List.getElem_cons_zero]); (try simp only [List.setIfInBounds_toArray]); (try simp only [List.set_cons_succ]); (try simp only [List.set_cons_zero])
    refine wpAnyH_ready (rs := [11]) (by kernel_rfl) (by simp) ?_
    refine AllReadyH.cons rfl (fun K hK => ?_) AllReadyH.nil
    have row11 := row8.set 0 (.slice aN (tp.length + 1) cN)
    simp only [List.set_cons_zero] at row11
    have k11 := (Keep.refl (fun b => b = bT) w8).setCell (p := ⟨bT, 0, none⟩) (fun _ => rfl) (.slice aN (tp.length + 1) cN)
    have ha11 := ha8.keep k11 (fun b hb => (HP.out b hb).1)
    have x8 := row8.cell 0
    (try simp only [List.getElem?_cons_succ] at x8); (try simp only [List.getElem?_cons_zero] at x8)
    have f8 := row8.frozen 0
    (try simp only [List.getElem_toArray]); (try simp only [List.getElem_cons_succ]); (try simp only [List.getElem_cons_zero])
    go_simp
    clear x8 f8
    refine hK.out _ _ (hcv _ ha11) (fun hHeld => ?_)
    clear hK K
    (try simp only [Act.put]); (try simp only [List.getElem_toArray]); (try simp only [List.getElem_cons_succ]); (try simp only [List.getElem_cons_zero]); (try simp only [List.setIfInBounds_toArray]); (try simp only [List.set_cons_succ]); (try simp only [List.set_cons_zero])
    refine wpAnyH_done (by kernel_rfl) ?_ _
    have own11 := owned_keep own8 k11 (fun b hb e => by subst e; exact (hfr _ hb).elim HN.out (fun h => by have := HB.out; omega))
    have kk11 := kk8.then k11 (fun i _ e => .inl e)
    have hbn : (Value.slice aN (tp.length + 1) cN).ownBlock ≠ some bT := fun e => (hfr _ e).elim HN.out (fun h => by have := HB.out; omega)
    have hlt11 : ∀ b, (Value.slice aN (tp.length + 1) cN).ownBlock = some b → b < (w8.setCell ⟨bT, 0, none⟩ (.slice aN (tp.length + 1) cN)).heap.size := fun b hb => (own11.lt b hb).2
    clear hHeld own8 kk8 k11 ha8 row8 row ha kk
    generalize w8.setCell ⟨bT, 0, none⟩ (.slice aN (tp.length + 1) cN) = w9 at *
    obtain ⟨gN, hgN⟩ : ∃ gN, Hid (gN = (Value.slice aN (tp.length + 1) cN).ownBlock) := ⟨_, rfl⟩
    have HFR := Lib.hid hfr
    have HBN := Lib.hid hbn
    have HLT := Lib.hid hlt11
    clear hfr hbn hlt11
    go_wp2_with fail
    have x9 := row11.cell 0
    (try simp only [List.getElem?_cons_succ] at x9); (try simp only [List.getElem?_cons_zero] at x9)
    refine wp_region_held_drew (S := (fun w' => w'.cell? ⟨bT, 0, none⟩ = some (.slice aN (tp.length + 1) cN))) (by kernel_rfl) (x9) (fun hHeld => ?_)
    refine wpAnyH_take (i := 0) (v := ?_) rfl (by kernel_rfl) (by kernel_rfl) (by kernel_rfl) (fun _ _ _ h => h) (Or.inl ⟨by kernel_rfl, ?_⟩) hHeld ?_
    rotate_left
    · intro w' hSw
      (try dsimp only at hSw)
      (try simp only [List.getElem_toArray]); (try simp only [List.getElem_cons_succ]); (try simp only [List.getElem_cons_zero])
      go_simp
      try with_reducible rfl
    (try simp only [Act.put]); (try simp only [List.getElem_toArray]); (try simp only [List.getElem_cons_succ]); (try simp only [List.getElem_cons_zero]); (try simp only [List.setIfInBounds_toArray]); (try simp only [List.set_cons_succ]); (try simp only [List.set_cons_zero])
    refine wpAnyH_take (i := 1) (v := ?_) rfl (by kernel_rfl) (by kernel_rfl) (by kernel_rfl) (fun _ _ _ h => h) (Or.inl ⟨by kernel_rfl, ?_⟩) hHeld ?_
    rotate_left
    · intro w' hSw
      (try dsimp only at hSw)
      (try simp only [List.getElem_toArray]); (try simp only [List.getElem_cons_succ]); (try simp only [List.getElem_cons_zero])
      go_simp
      try with_reducible rfl
    (try simp only [Act.put]); (try simp only [List.getElem_toArray]); (try simp only [List.getElem_cons_succ]); (try simp only [List.getElem_cons_zero]); (try simp only [List.setIfInBounds_toArray]); (try simp only [List.set_cons_succ]); (try simp only [List.set_cons_zero])
    refine wpAnyH_take (i := 2) (v := ?_) rfl (by kernel_rfl) (by kernel_rfl) (by kernel_rfl) (fun _ _ _ h => h) (Or.inl ⟨by kernel_rfl, ?_⟩) hHeld ?_
    rotate_left
    · intro w' hSw
      (try dsimp only at hSw)
      (try simp only [List.getElem_toArray]); (try simp only [List.getElem_cons_succ]); (try simp only [List.getElem_cons_zero])
      go_simp
      try with_reducible rfl
    (try simp only [Act.put]); (try simp only [List.getElem_toArray]); (try simp only [List.getElem_cons_succ]); (try simp only [List.getElem_cons_zero]); (try simp only [List.setIfInBounds_toArray]); (try simp only [List.set_cons_succ]); (try simp only [List.set_cons_zero])
    refine wpAnyH_take (i := 3) (v := ?_) rfl (by kernel_rfl) (by kernel_rfl) (by kernel_rfl) (fun _ _ _ h => h) (Or.inl ⟨by kernel_rfl, ?_⟩) hHeld ?_
    rotate_left
    · intro w' hSw
      (try dsimp only at hSw)
      (try simp only [List.getElem_toArray]); (try simp only [List.getElem_cons_succ]); (try simp only [List.getElem_cons_zero])
      go_simp
      try with_reducible rfl
    (try simp only [Act.put]); (try simp only [List.getElem_toArray]); (try simp only [List.getElem_cons_succ]); (try simp only [List.getElem_cons_zero]); (try simp only [List.setIfInBounds_toArray]); (try simp only [List.set_cons_succ]); (try simp only [List.set_cons_zero])
    refine wpAnyH_take (i := 4) (v := ?_) rfl (by kernel_rfl) (by kernel_rfl) (by kernel_rfl) (fun _ _ _ h => h) (Or.inl ⟨by kernel_rfl, ?_⟩) hHeld ?_
    rotate_left
    · intro w' hSw
      (try dsimp only at hSw)
      (try simp only [List.getElem_toArray]); (try simp only [List.getElem_cons_succ]); (try simp only [List.getElem_cons_zero])
      go_simp
      try with_reducible rfl
    (try simp only [Act.put]); (try simp only [List.getElem_toArray]); (try simp only [List.getElem_cons_succ]); (try simp only [List.getElem_cons_zero]); (try simp only [List.setIfInBounds_toArray]); (try simp only [List.set_cons_succ]); (try simp only [List.set_cons_zero])
    refine wpAnyH_take (i := 5) (v := ?_) rfl (by kernel_rfl) (by kernel_rfl) (by kernel_rfl) (fun _ _ _ h => h) (Or.inl ⟨by kernel_rfl, ?_⟩) hHeld ?_
    rotate_left
    · intro w' hSw
      (try dsimp only at hSw)
      (try simp only [List.getElem_toArray]); (try simp only [List.getElem_cons_succ]); (try simp only [List.getElem_cons_zero])
      go_simp
      try with_reducible rfl
    (try simp only [Act.put]); (try simp only [List.getElem_toArray]); (try simp only [List.getElem_cons_succ]); (try simp only [List.getElem_cons_zero]); (try simp only [List.setIfInBounds_toArray]); (try simp only [List.set_cons_succ]); (try simp only [List.set_cons_zero])
    refine wpAnyH_take (i := 6) (v := ?_) rfl (by kernel_rfl) (by kernel_rfl) (by kernel_rfl) (fun _ _ _ h => h) (Or.inl ⟨by kernel_rfl, ?_⟩) hHeld ?_
    rotate_left
    · intro w' hSw
      (try dsimp only at hSw)
      (try simp only [List.getElem_toArray]); (try simp only [List.getElem_cons_succ]); (try simp only [List.getElem_cons_zero])
      go_simp
      try with_reducible rfl
    (try simp only [Act.put]); (try simp only [List.getElem_toArray]); (try simp only [List.getElem_cons_succ]); (try simp only [List.getElem_cons_zero]); (try simp only [List.setIfInBounds_toArray]); (try simp only [List.set_cons_succ]); (try simp only [List.set_cons_zero])
    refine wpAnyH_take (i := 7) (v := ?_) rfl (by kernel_rfl) (by kernel_rfl) (by kernel_rfl) (fun _ _ _ h => h) (Or.inl ⟨by kernel_rfl, ?_⟩) hHeld ?_
    rotate_left
    · intro w' hSw
      (try dsimp only at hSw)
      (try simp only [List.getElem_toArray]); (try simp only [List.getElem_cons_succ]); (try simp only [List.getElem_cons_zero])
      go_simp
      try with_reducible rfl
    (try simp only [Act.put]); (try simp only [List.getElem_toArray]); (try simp only [List.getElem_cons_succ]); (try simp only [List.getElem_cons_zero]); (try simp only [List.setIfInBounds_toArray]); (try simp only [List.set_cons_succ]); (try simp only [List.set_cons_zero])
    refine wpAnyH_take (i := 8) (v := ?_) rfl (by kernel_rfl) (by kernel_rfl) (by kernel_rfl) (fun _ _ _ h => h) (Or.inl ⟨by kernel_rfl, ?_⟩) hHeld ?_
    rotate_left
    · intro w' hSw
      (try dsimp only at hSw)
      (try simp only [List.getElem_toArray]); (try simp only [List.getElem_cons_succ]); (try simp only [List.getElem_cons_zero])
      go_simp
      try with_reducible rfl
    (try simp only [Act.put]); (try simp only [List.getElem_toArray]); (try simp only [List.getElem_cons_succ]); (try simp only [List.getElem_cons_zero]); (try simp only [List.setIfInBounds_toArray]); (try simp only [List.set_cons_succ]); (try simp only [List.set_cons_zero])
    refine wpAnyH_take (i := 9) (v := ?_) rfl (by kernel_rfl) (by kernel_rfl) (by kernel_rfl) (fun _ _ _ h => h) (Or.inl ⟨by kernel_rfl, ?_⟩) hHeld ?_
    rotate_left
    · intro w' hSw
      (try dsimp only at hSw)
      (try simp only [List.getElem_toArray]); (try simp only [List.getElem_cons_succ]); (try simp only [List.getElem_cons_zero])
      go_simp
      try with_reducible rfl
    (try simp only [Act.put]); (try simp only [List.getElem_toArray]); (try simp only [List.getElem_cons_succ]); (try simp only [List.getElem_cons_zero]); (try simp only [List.setIfInBounds_toArray]); (try simp only [List.set_cons_succ]); (try simp only [List.set_cons_zero])
    refine wpAnyH_take (i := 10) (v := ?_) rfl (by kernel_rfl) (by kernel_rfl) (by kernel_rfl) (fun _ _ _ h => h) (Or.inl ⟨by kernel_rfl, ?_⟩) hHeld ?_
    rotate_left
    · intro w' hSw
      (try dsimp only at hSw)
      (try simp only [List.getElem_toArray]); (try simp only [List.getElem_cons_succ]); (try simp only [List.getElem_cons_zero])
      go_simp
      try with_reducible rfl
    (try simp only [Act.put]); (try simp only [List.getElem_toArray]); (try simp only [List.getElem_cons_succ]); (try simp only [List.getElem_cons_zero]); (try simp only [List.setIfInBounds_toArray]); (try simp only [List.set_cons_succ]); (try simp only [List.set_cons_zero])
    refine wpAnyH_take (i := 11) (v := ?_) rfl (by kernel_rfl) (by kernel_rfl) (by kernel_rfl) (fun _ _ _ h => h) (Or.inl ⟨by kernel_rfl, ?_⟩) hHeld ?_
    rotate_left
    · intro w' hSw
      (try dsimp only at hSw)
      (try simp only [List.getElem_toArray]); (try simp only [List.getElem_cons_succ]); (try simp only [List.getElem_cons_zero])
      go_simp
      try with_reducible rfl
    (try simp only [Act.put]); (try simp only [List.getElem_toArray]); (try simp only [List.getElem_cons_succ]); (try simp only [List.getElem_cons_zero]); (try simp only [List.setIfInBounds_toArray]); (try simp only [List.set_cons_succ]); (try simp only [List.set_cons_zero])
    refine wpAnyH_take (i := 12) (v := ?_) rfl (by kernel_rfl) (by kernel_rfl) (by kernel_rfl) (fun _ _ _ h => h) (Or.inl ⟨by kernel_rfl, ?_⟩) hHeld ?_
    rotate_left
    · intro w' hSw
      (try dsimp only at hSw)
      (try simp only [List.getElem_toArray]); (try simp only [List.getElem_cons_succ]); (try simp only [List.getElem_cons_zero])
      go_simp
      try with_reducible rfl
    (try simp only [Act.put]); (try simp only [List.getElem_toArray]); (try simp only [List.getElem_cons_succ]); (try simp only [List.getElem_cons_zero]); (try simp only [List.setIfInBounds_toArray]); (try simp only [List.set_cons_succ]); (try simp only [List.set_cons_zero])
    refine wpAnyH_ready (rs := [13]) (by kernel_rfl) (by simp) ?_
    refine AllReadyH.cons rfl (fun K hK => ?_) AllReadyH.nil
    (try simp only [List.getElem_toArray]); (try simp only [List.getElem_cons_succ]); (try simp only [List.getElem_cons_zero])
    go_simp
    have e1 : IntKind.u8.wrap ((tp.length : Int) + 1) = ((UInt8.ofNat (tp.length + 1)).toNat : Int) := by rw [← wrap_u8]; rfl
    have e2 : IntKind.u8.wrap (((tp.length : Int) + 1) / 256) = ((UInt8.ofNat ((tp.length + 1) / 256)).toNat : Int) := by rw [← wrap_u8]; rfl
    rw [e1, e2]
    clear e1 e2
    have el : (tp ++ [l]).length = tp.length + 1 := by simp
    have it9 : IsTapeG w9 bT T R gN (tp ++ [l]) := ⟨⟨aN, cN, by rw [el]; exact row11, by rw [el]; exact own11, by rw [el]; exact hgN.out.symm⟩, by rw [hgN.out]; exact HBN.out, fun b hb => HLT.out b (hgN.out.symm.trans hb)⟩
    have hsz9 : w.heap.size ≤ w9.heap.size := kk11.size
    have HBM : Hid (bT < w9.heap.size) := row11.lt
    have hgl9 : Hid (∀ b, gN = some b → b < w9.heap.size) := it9.glt
    have hfr9 : Hid (∀ b, gN = some b → g = some b ∨ w.heap.size ≤ b) := fun b hb => HFR.out b (hgN.out.symm.trans hb)
    have hmA : w9.heap.size ≤ (w9.alloc (.cells #[.int .u8 ((UInt8.ofNat (tp.length + 1)).toNat : Int), .int .u8 ((UInt8.ofNat ((tp.length + 1) / 256)).toNat : Int)] 5)).drew.heap.size := by simp [World.drew]
    have kA := (Keep.refl Nix w9).alloc (.cells #[.int .u8 ((UInt8.ofNat (tp.length + 1)).toNat : Int), .int .u8 ((UInt8.ofNat ((tp.length + 1) / 256)).toNat : Int)] 5)
    have ownA : (w9.alloc (.cells #[.int .u8 ((UInt8.ofNat (tp.length + 1)).toNat : Int), .int .u8 ((UInt8.ofNat ((tp.length + 1) / 256)).toNat : Int)] 5)).ownsRow w9.heap.size 5 1 (.slice (some ⟨w9.heap.size, 0, none⟩) 2 2) 2 ([UInt8.ofNat (tp.length + 1), UInt8.ofNat ((tp.length + 1) / 256)].map bv) :=
      ⟨by simp, .inr ⟨w9.heap.size, 2, _, rfl, Nat.le_refl _, heap_alloc_new _ _, Nat.le_refl _, by decide, by simp, by simp [bv]⟩⟩
    have rowA := row11.keep kA id
    have xA := rowA.cell 0
    (try simp only [List.getElem?_cons_succ] at xA); (try simp only [List.getElem?_cons_zero] at xA)
    refine hK.out _ _ (xA) (fun hHeld => ?_)
    clear hK K
    (try simp only [Act.put]); (try simp only [List.getElem_toArray]); (try simp only [List.getElem_cons_succ]); (try simp only [List.getElem_cons_zero]); (try simp only [List.setIfInBounds_toArray]); (try simp only [List.set_cons_succ]); (try simp only [List.set_cons_zero])
    refine wpAnyH_take (i := 14) (v := ?_) rfl (by kernel_rfl) (by kernel_rfl) (by kernel_rfl) (fun _ _ _ h => h) (Or.inl ⟨by kernel_rfl, ?_⟩) hHeld ?_
    rotate_left
    · intro w' hSw
      (try dsimp only at hSw)
      (try simp only [List.getElem_toArray]); (try simp only [List.getElem_cons_succ]); (try simp only [List.getElem_cons_zero])
      go_simp
      try with_reducible rfl
    (try simp only [Act.put]); (try simp only [List.getElem_toArray]); (try simp only [List.getElem_cons_succ]); (try simp only [List.getElem_cons_zero]); (try simp only [List.setIfInBounds_toArray]); (try simp only [List.set_cons_succ]); (try simp only [List.set_cons_zero])
    refine wpAnyH_done (by kernel_rfl) ?_ _
    have itA := (it9.keep kA id (fun _ _ => id)).keep (Keep.drew (Keep.refl Nix _)) id (fun _ _ => id)
    have haA := (ha11.keep kA (fun _ _ h => h)).same (w' := (w9.alloc (.cells #[.int .u8 ((UInt8.ofNat (tp.length + 1)).toNat : Int), .int .u8 ((UInt8.ofNat ((tp.length + 1) / 256)).toNat : Int)] 5)).drew)
    have ownA := owned_same ownA (w' := (w9.alloc (.cells #[.int .u8 ((UInt8.ofNat (tp.length + 1)).toNat : Int), .int .u8 ((UInt8.ofNat ((tp.length + 1) / 256)).toNat : Int)] 5)).drew)
    have kkA := (kk11.trans (kA.nix)).same (c := (w9.alloc (.cells #[.int .u8 ((UInt8.ofNat (tp.length + 1)).toNat : Int), .int .u8 ((UInt8.ofNat ((tp.length + 1) / 256)).toNat : Int)] 5)).drew)
    clear kA rowA xA hHeld x9 row11 own11 kk11 ha11 it9 HFR HBN HLT hgN ha7
    generalize (w9.alloc (.cells #[.int .u8 ((UInt8.ofNat (tp.length + 1)).toNat : Int), .int .u8 ((UInt8.ofNat ((tp.length + 1) / 256)).toNat : Int)] 5)).drew = wA at *
    generalize w9.heap.size = mA at *
    obtain ⟨hd, hhd⟩ : ∃ hd : List UInt8, Hid (hd = [UInt8.ofNat (tp.length + 1), UInt8.ofNat ((tp.length + 1) / 256)]) := ⟨_, rfl⟩
    have hdl : hd.length = 2 := by rw [hhd.out]; rfl
    rw [← hhd.out] at ownA
    generalize ((UInt8.ofNat (tp.length + 1)).toNat : Int) = z1
    generalize ((UInt8.ofNat ((tp.length + 1) / 256)).toNat : Int) = z2
    go_wp2_with fail
    go_loopw [5, 6] (fun v i wr => ∃ (k : Nat) (j : Int) (ao : Option Addr) (co : Nat), k ≤ l.length ∧ j = (k : Int) - 1 ∧ v = .slice ao (2 + (l.length - k)) co ∧ i = .int .i64 j ∧
      wr.ownsRow mA 5 1 (.slice ao (2 + (l.length - k)) co) (2 + (l.length - k)) ((hd ++ (l.drop k).reverse).map bv) ∧ mA ≤ wr.heap.size ∧ IsTapeG wr bT T R gN (tp ++ [l]) ∧ Lies wr p a (l.map bv) ∧ Keep (fun b => b = bT ∨ g = some b) w wr) (fun _ i _ => (intOf i + 1).toNat)
    case atStart => exact ⟨l.length, (l.length : Int) - 1, _, _, Nat.le_refl _, rfl, by rw [Nat.sub_self], by go_num, by rw [Nat.sub_self]; simpa using ownA, hmA, itA, haA, kkA⟩
    case round =>
      clear itA haA ownA kkA hmA
      obtain ⟨k, j, ao, co, hk, hj, rfl, rfl, own, hm, it, lies, kk⟩ := hrel
      by_cases hk0 : k = 0
      · subst hk0
        obtain rfl : j = -1 := by omega
        clear hj hk
        go_wp2_with fail
        go_ret
        have e3 : 2 + (l.length - 0) = l.length + 2 := by omega
        rw [e3] at own ⊢
        exact ⟨ao, co, gN, mA, rfl, hsz9, by rw [hhd.out] at own; simpa [answer] using own, it, hgl9.out, kk, hfr9.out⟩
      · obtain ⟨k, rfl⟩ : ∃ k', k = k' + 1 := ⟨k - 1, by omega⟩
        obtain rfl : j = (k : Int) := by omega
        have hi0 : (0 : Int) ≤ (k : Int) := by omega
        have hi1 : (k : Int) < (l.length : Int) := by omega
        obtain ⟨b, off, rfl, -, hbs, hc⟩ := lies (by intro h; simp at h; subst h; simp at hi1; omega)
        have x0 := hc k _ (bv_at l k (by omega))
        have hdrop : Hid (l.drop k = l[k]'(by omega) :: l.drop (k + 1)) := List.drop_eq_getElem_cons (by omega)
        have e3 : Hid (2 + (l.length - (k + 1)) + 1 = 2 + (l.length - k)) := by show _ = _; omega
        generalize l[k] = c at x0 hdrop
        clear hj hk0 hc
        go_wp2_with (at_builtin; refine wpl_append1 T_bytes rfl (.tmp 41) (.tmp 46) rfl mA rfl own rfl rfl ?c1 ?c2 ?c3 hm ?_)
        case c1 => rfl
        case c2 => unfold maxLen; omega
        case c3 => omega
        intro a' c' wB ownB kB
        have hoB : ∀ b', OwnB (.slice ao (2 + (l.length - (k + 1))) co) b' → mA ≤ b' := fun b' hb' => (own.lt b' hb').1
        have itB := it.keep kB (fun h => by have := hoB _ h; have := HBM.out; omega) (fun b' hb' h => by have := hoB _ h; have := hgl9.out b' hb'; omega)
        have liesB : Lies wB p (some ⟨b, off, none⟩) (l.map bv) := lies.keep kB (fun b' hb' h => by have := hoB _ h; have := HQ.out b' hb'; omega)
        have kkB := kk.then kB (fun i hi h => by have := hoB _ h; omega)
        rw [e3.out] at ownB
        have hmB := Nat.le_trans hm kB.size
        clear own it lies kk hm x0 kB
        go_wp2_with fail
        go_roundw
        case rel => exact ⟨k, (k : Int) - 1, a', c', by omega, rfl, by rw [e3.out], by go_num, by rw [hdrop.out]; simpa [bv] using ownB, hmB, itB, liesB, kkB⟩
        case measure => simp [intOf]
end Go.Proofs.Ythchpdflnpfjkaa
