/- DEDUP: a tape; slices.Clone at bytes. Printed by mac.py. -/
import Derived.Test.YthchpdflnpfjkaaQTakA
import Derived.Maps.OwnSet
import Derived.WalkSpells
import Derived.Deep.RegionHeld3
import Derived.Deep.AppendLies
namespace Go.Proofs.Ythchpdflnpfjkaa
open Go.RowKit

theorem owns_empty (w : World) (e sz base : Nat) (hb : base ≤ w.heap.size) : (w.alloc (.cells #[] e)).ownsRow base e sz (.slice (some ⟨w.heap.size, 0, none⟩) 0 0) 0 [] := by
  refine ⟨by simp, .inr ⟨w.heap.size, 0, #[], rfl, hb, heap_alloc_new _ _, Nat.le_refl _, Nat.zero_le _, by simp, by simp⟩⟩
theorem list0_run {P : Program} {t e n bytes : Nat} (S : SliceT P t e n bytes) (w : World) : (Instr.buildSlice t 0 #[]).run P w = .ok (.slice (some ⟨w.heap.size, 0, none⟩) 0 0) (w.alloc (.cells #[] e)) := by
  obtain ⟨i, z, hi, hz, hsz, hby, hzs⟩ := S.info
  unfold Instr.buildSlice
  simp [run_underlying S.under, sizeOf, typeInfo, hi, newRow, newObj, Instr.fill]
  have e : ∀ f : Nat → Value, Array.map f (Array.range 0) = #[] := fun f => by apply Array.eq_empty_of_size_eq_zero; simp
  rw [e]
  rfl
set_option maxHeartbeats 1000000 in
theorem cl_c {p : Nat → Prop} (a : Option Addr) (n cap : Nat) (l : List UInt8) (w : World) (hn : l.length = n) (ha : Lies w p a (l.map bv)) (hr : n ≤ 140737488355328) :
    Calls Try.prog 24 #[.slice a n cap] w fun e w' => ∃ a' cap', e = .returned (.slice a' n cap') ∧ w'.ownsRow w.heap.size 5 1 (.slice a' n cap') n (l.map bv) ∧ Keep Nix w w' := by
  subst hn
  cases a with
  | none =>
    obtain rfl : l = [] := by
      by_cases h : l.map bv = []
      · simpa using h
      · obtain ⟨b, off, hb, -⟩ := ha h; cases hb
    have hnil := fun (w' : World) (n c : Nat) => Lib.run_eql_slice_nil (P := Try.prog) w' 31 5 none n c 0 0 Try.underlying31
    clear ha
    go_enter Try.func24, Try.ntmps24
    go_wp2_with fail
    go_ret
    exact ⟨none, 0, rfl, World.ownsRow_nil _ _ _ _, Keep.refl _ _⟩
  | some ad =>
    have hnil := fun (w' : World) => Lib.run_eql_slice_nil (P := Try.prog) w' 31 5 (some ad) l.length cap 0 0 Try.underlying31
    have hl0 := fun w' => list0_run T_bytes w'
    have own0 := owns_empty w 5 1 w.heap.size (Nat.le_refl _)
    have lies2 := ha.keep ((Keep.refl Nix w).alloc (.cells #[] 5)) (fun _ _ h => h)
    have hsz : w.heap.size ≤ (w.alloc (.cells #[] 5)).heap.size := by simp
    clear ha
    go_enter Try.func24, Try.ntmps24
    go_wp2_with (at_builtin; refine wpl_append T_bytes rfl (.tmp 5) (.tmp 6) rfl w.heap.size rfl own0 (l.map bv) rfl (by simp) lies2 (bv_one l) ?c1 ?c2 hsz ?_)
    case c1 => unfold maxLen; omega
    case c2 => omega
    intro a' cap' w2 own2 hg
    have kk : Keep Nix w w2 := ((Keep.refl Nix w).alloc (.cells #[] 5)).grown hg (fun k hk hlt => by simp [Value.ownBlock] at hk; omega)
    (try rw [Nat.zero_add, List.nil_append] at own2)
    clear own0 hg lies2
    go_wp2
    go_ret
    exact ⟨a', cap', by simp, own2, kk⟩
/-- 'append(s, x)' at a step of a region that draws, x laid in a new block. -/
theorem step_append1 {P : Program} {t e sz bytes : Nat} (T : SliceT P t e sz bytes) {w : World} {cs : Array Value} {t' : TypeId} {ops : Array Oper} {o : Oper} {a : Act} {K : Act → World → Prop} {Q : Exit → Act → World → Prop} {E : Prop} (hgd : o.guard = none) (s x : Operand)
    (ho : o.op = .call { callee := .builtin .append, args := #[s, x], argTypes := #[t, t] })
    (base : Nat) {v : Value} {n : Nat} {xs : List Value} (hs : a.eval s = v) (hown : w.ownsRow base e sz v n xs)
    {c : Nat} (hx : a.eval x = .slice (some ⟨w.heap.size, 0, none⟩) 1 c) (hl : cs.size = sz) (h1 : ∀ u ∈ cs.toList, u.oneCell' = true)
    (h63 : n + 1 ≤ maxLen) (hbytes : (n + 1) * bytes ≤ 140737488355328) (hbase : base ≤ w.heap.size)
    (h : ∀ a' cap' w', w'.ownsRow base e sz (.slice a' (n + 1) cap') (n + 1) (xs ++ cs.toList) → Keep (OwnB v) w w' → (∀ b, OwnB (.slice a' (n + 1) cap') b → OwnB v b ∨ w.heap.size ≤ b) → K (a.put o.dst (.slice a' (n + 1) cap')) w') :
    if Region.wanted o (yielded ops a.tmps) = true then Oper.wp P o a (w.alloc (.cells cs t')) K Q else E := by
  obtain ⟨i, z, hi, hz, hsz, hby, hzs⟩ := T.info
  obtain ⟨b, off, hb, hp, hlt, hc⟩ := Lies.block w cs t' (· = w.heap.size) rfl (fun e => by
    have := congrArg List.length e
    rw [Array.length_toList, hl, List.length_nil] at this
    exact absurd this (Nat.ne_of_gt T.pos))
  simp only [Option.some.injEq, Addr.mk.injEq] at hb
  obtain ⟨rfl, rfl, -⟩ := hb
  refine step_append_lies (w.alloc (.cells cs t')) hgd s x t ho base e i z sz bytes T.under hi hz hsz hby hzs T.pos v n xs hs (hown.alloc _) ⟨w.heap.size, 0, none⟩ 1 c cs.toList hx (by simp [hl]) (fun j u hu => by rw [Addr.add_lit]; exact hc j u hu) h1 (by decide) h63 hbytes (by simp; omega) (w.alloc (.cells cs t')).heap.size rfl ?_
  intro g cap' w' ho' hg hat hlt'
  refine h _ cap' w' ho' (((Keep.refl _ _).alloc _).grown hg fun _ hk _ => hk) (fun b hb => ?_)
  have hgb : b = g := by simp [OwnB, Value.ownBlock] at hb; exact hb.symm
  subst hgb
  rcases hat with hat | hat
  · exact .inl hat
  · exact .inr (by subst hat; simp)
theorem wrap_u8 (n : Nat) : IntKind.u8.wrap (n : Int) = ((UInt8.ofNat n).toNat : Int) := by
  show (n : Int) % 256 = _
  simp [UInt8.toNat_ofNat']
def sv (l : List UInt8) : Value := .string (strB l)
theorem T_strs : SliceT Try.prog 25 9 1 16 := SliceT.mk' Try.underlying25 (z := .string { data := #[] }) (by kernel_rfl) rfl (by decide)
theorem Lies.lt {w : World} {p : Nat → Prop} {a : Option Addr} {xs : List Value} (h : Lies w p a xs) : ∃ q : Nat → Prop, (∀ b, q b → p b) ∧ Lies w q a xs ∧ Hid (∀ b, q b → b < w.heap.size) :=
  ⟨fun b => p b ∧ b < w.heap.size, fun _ h => h.1, fun hx => by obtain ⟨b, off, e, hp, hb, hc⟩ := h hx; exact ⟨b, off, e, ⟨hp, hb⟩, hb, hc⟩, fun _ h => h.2⟩
/-- A tape at block bT whose list owns block g. -/
structure IsTape (w : World) (bT : Nat) (g : Option Nat) (l : List (List UInt8)) : Prop where
  row : ∃ (a : Option Addr) (cap : Nat), RowIs w bT 27 [.slice a l.length cap] ∧ w.ownsRow 0 9 1 (.slice a l.length cap) l.length (l.map sv) ∧ (Value.slice a l.length cap).ownBlock = g
  ne : g ≠ some bT
  glt : ∀ b, g = some b → b < w.heap.size
theorem IsTape.keep {w w' : World} {bT : Nat} {g : Option Nat} {l : List (List UInt8)} (h : IsTape w bT g l) {S : Nat → Prop} (k : Keep S w w') (h1 : ¬ S bT) (h2 : ∀ b, g = some b → ¬ S b) : IsTape w' bT g l := by
  obtain ⟨a, cap, r, o, e⟩ := h.row
  exact ⟨⟨a, cap, r.keep k h1, owned_keep o k (fun b hb => h2 b (e ▸ hb)), e⟩, h.ne, fun b hb => Nat.lt_of_lt_of_le (h.glt b hb) k.size⟩
/-- What a tape answers. -/
def answer (n : Nat) (l : List UInt8) : List UInt8 := UInt8.ofNat n :: UInt8.ofNat (n / 256) :: l.reverse
theorem answer_len (n : Nat) (l : List UInt8) : (answer n l).length = l.length + 2 := by simp [answer]
set_option maxRecDepth 100000 in
set_option maxHeartbeats 4000000 in
theorem tDo_c {p0 : Nat → Prop} (bT : Nat) (g : Option Nat) (tp : List (List UInt8)) (a : Option Addr) (n ca : Nat) (l : List UInt8) (w : World) (hn : l.length = n) (ha : Lies w p0 a (l.map bv)) (hp : ∀ b, p0 b → b ≠ bT ∧ g ≠ some b)
    (ht : IsTape w bT g tp) (hL : tp.length ≤ 100000) (hr : n ≤ 140737488351232) :
    Calls Try.prog 39 #[.pointer (some ⟨bT, 0, none⟩), .slice a n ca] w fun e w' => ∃ a' cap' g' m, e = .returned (.slice a' (n + 2) cap') ∧ w.heap.size ≤ m ∧
      w'.ownsRow m 5 1 (.slice a' (n + 2) cap') (n + 2) ((answer (tp.length + 1) l).map bv) ∧ IsTape w' bT g' (tp ++ [l]) ∧ (∀ b, g' = some b → b < m) ∧
      Keep (fun b => b = bT ∨ g = some b) w w' ∧ (∀ b, g' = some b → g = some b ∨ w.heap.size ≤ b) := by
  subst hn
  obtain ⟨p, hq, ha, HQ⟩ := ha.lt
  replace hp := fun b hb => hp b (hq b hb)
  obtain ⟨aT, cT, row, own, hg⟩ := ht.row
  have hne := ht.ne
  have hgl := ht.glt
  have hbT := row.lt
  have own := owned_same own (w' := w.drew)
  have row := row.same (w' := w.drew)
  have ha := ha.same (w' := w.drew)
  have kk : Keep (fun b => b = bT ∨ g = some b) w w.drew := (Keep.refl _ w).drew
  have hcv : ∀ w', Lies w' p a (l.map bv) → (convert 31 9 (.slice a l.length ca)).run Try.prog w' = .ok (.string (strB l)) w' := fun w' h => conv_bytes Try.underlying31 Try.underlying5 Try.underlying9 rfl h
  have hcv0 := hcv _ ha
  have HL := Lib.hid hL
  have HP := Lib.hid hp
  have HN := Lib.hid hne
  have HG := Lib.hid hg
  have HGL := Lib.hid hgl
  have HB := Lib.hid hbT
  clear ht hp hne hg hgl
  go_enter Try.func39, Try.ntmps39
  go_wp2_with fail
  refine wp_region_held_drew (S := (fun w' => (convert 31 9 (.slice a l.length ca)).run Try.prog w' = .ok (.string (strB l)) w')) (by kernel_rfl) (hcv0) (fun hHeld => ?_)
  refine wpAnyH_take (i := 0) (v := ?_) rfl (by kernel_rfl) (by kernel_rfl) (by kernel_rfl) (fun _ _ _ h => h) (Or.inl ⟨by kernel_rfl, ?_⟩) hHeld ?_
  rotate_left
  · intro w' hSw
    (try dsimp only at hSw)
    (try simp only [List.getElem_toArray]); (try simp only [List.getElem_cons_succ]); (try simp only [List.getElem_cons_zero])
    go_simp
    try with_reducible rfl
  (try simp only [Act.put]); (try simp only [List.setIfInBounds_toArray]); (try simp only [List.set_cons_succ]); (try simp only [List.set_cons_zero])
  refine wpAnyH_take (i := 1) (v := ?_) rfl (by kernel_rfl) (by kernel_rfl) (by kernel_rfl) (fun _ _ _ h => h) (Or.inl ⟨by kernel_rfl, ?_⟩) hHeld ?_
  rotate_left
  · intro w' hSw
    (try dsimp only at hSw)
    (try simp only [List.getElem_toArray]); (try simp only [List.getElem_cons_succ]); (try simp only [List.getElem_cons_zero])
    go_simp
    try with_reducible rfl
  (try simp only [Act.put]); (try simp only [List.setIfInBounds_toArray]); (try simp only [List.set_cons_succ]); (try simp only [List.set_cons_zero])
  refine wpAnyH_take (i := 2) (v := ?_) rfl (by kernel_rfl) (by kernel_rfl) (by kernel_rfl) (fun _ _ _ h => h) (Or.inl ⟨by kernel_rfl, ?_⟩) hHeld ?_
  rotate_left
  · intro w' hSw
    (try dsimp only at hSw)
    (try simp only [List.getElem_toArray]); (try simp only [List.getElem_cons_succ]); (try simp only [List.getElem_cons_zero])
    go_simp
    try with_reducible rfl
  (try simp only [Act.put]); (try simp only [List.setIfInBounds_toArray]); (try simp only [List.set_cons_succ]); (try simp only [List.set_cons_zero])
  refine wpAnyH_take (i := 3) (v := ?_) rfl (by kernel_rfl) (by kernel_rfl) (by kernel_rfl) (fun _ _ _ h => h) (Or.inl ⟨by kernel_rfl, ?_⟩) hHeld ?_
  rotate_left
  · intro w' hSw
    (try dsimp only at hSw)
    (try simp only [List.getElem_toArray]); (try simp only [List.getElem_cons_succ]); (try simp only [List.getElem_cons_zero])
    go_simp
    try with_reducible rfl
  (try simp only [Act.put]); (try simp only [List.setIfInBounds_toArray]); (try simp only [List.set_cons_succ]); (try simp only [List.set_cons_zero])
  refine wpAnyH_take (i := 5) (v := ?_) rfl (by kernel_rfl) (by kernel_rfl) (by kernel_rfl) (fun _ _ _ h => h) (Or.inl ⟨by kernel_rfl, ?_⟩) hHeld ?_
  rotate_left
  · intro w' hSw
    (try dsimp only at hSw)
    (try simp only [List.getElem_toArray]); (try simp only [List.getElem_cons_succ]); (try simp only [List.getElem_cons_zero])
    go_simp
    try with_reducible rfl
  (try simp only [Act.put]); (try simp only [List.setIfInBounds_toArray]); (try simp only [List.set_cons_succ]); (try simp only [List.set_cons_zero])
  refine wpAnyH_take (i := 6) (v := ?_) rfl (by kernel_rfl) (by kernel_rfl) (by kernel_rfl) (fun _ _ _ h => h) (Or.inl ⟨by kernel_rfl, ?_⟩) hHeld ?_
  rotate_left
  · intro w' hSw
    (try dsimp only at hSw)
    (try simp only [List.getElem_toArray]); (try simp only [List.getElem_cons_succ]); (try simp only [List.getElem_cons_zero])
    go_simp
    try with_reducible rfl
  (try simp only [Act.put]); (try simp only [List.setIfInBounds_toArray]); (try simp only [List.set_cons_succ]); (try simp only [List.set_cons_zero])
  generalize w.drew = wd at *
  refine wpAnyH_ready (rs := [4, 7]) (by kernel_rfl) (by simp) ?_
  refine AllReadyH.cons rfl (fun K hK => ?_) (AllReadyH.cons rfl (fun K hK => ?_) AllReadyH.nil)
  · have x4 := row.cell 0
    (try simp only [List.getElem?_cons_succ] at x4); (try simp only [List.getElem?_cons_zero] at x4)
    (try simp only [List.getElem_toArray]); (try simp only [List.getElem_cons_succ]); (try simp only [List.getElem_cons_zero])
    go_simp
    clear x4
    refine hK.out _ _ (hcv _ ha) (fun hHeld => ?_)
    clear hK K
    (try simp only [Act.put]); (try simp only [List.setIfInBounds_toArray]); (try simp only [List.set_cons_succ]); (try simp only [List.set_cons_zero])
    refine wpAnyH_ready (rs := [7]) (by kernel_rfl) (by simp) ?_
    refine AllReadyH.cons rfl (fun K hK => ?_) AllReadyH.nil
    (try simp only [List.getElem_toArray]); (try simp only [List.getElem_cons_succ]); (try simp only [List.getElem_cons_zero])
    go_simp
    have ha7 := ha.keep ((Keep.refl Nix wd).alloc (.cells #[.string (strB l)] 9)) (fun _ _ h => h)
    refine hK.out _ _ (hcv _ ha7) (fun hHeld => ?_)
    clear hK K
    (try simp only [Act.put]); (try simp only [List.setIfInBounds_toArray]); (try simp only [List.set_cons_succ]); (try simp only [List.set_cons_zero])
    refine wpAnyH_ready (rs := [8]) (by kernel_rfl) (by simp) ?_
    refine AllReadyH.cons rfl (fun K hK => ?_) AllReadyH.nil
    refine step_append1 T_strs (by rfl) (.tmp 13) (.tmp 16) (by rfl) 0 (by rfl) own (by rfl) rfl (by simp [Value.oneCell']) (by unfold maxLen; omega) (by omega) (Nat.zero_le _) ?_
    intro aN cN w8 own8 k8 hfresh
    have own8 : w8.ownsRow 0 9 1 (.slice aN (tp.length + 1) cN) (tp.length + 1) ((tp ++ [l]).map sv) := by simpa [sv] using own8
    have hg8 : ∀ b, OwnB (.slice aT tp.length cT) b → g = some b := fun b hb => HG.out ▸ hb
    have row8 := row.keep k8 (fun h => HN.out (hg8 _ h))
    have ha8 := ha.keep k8 (fun b hb h => (HP.out b hb).2 (hg8 _ h))
    have kk8 : Keep (fun b => b = bT ∨ g = some b) w w8 := kk.then k8 (fun i _ h => .inr (hg8 _ h))
    have hfr : ∀ b, OwnB (.slice aN (tp.length + 1) cN) b → g = some b ∨ w.heap.size ≤ b := fun b hb => (hfresh b hb).imp (hg8 b) (fun h => Nat.le_trans kk.size h)
    clear k8 hfresh own
    refine hK.out _ _ (hcv _ ha8) (fun hHeld => ?_)
    clear hK K
    (try simp only [Act.put]); (try simp only [List.setIfInBounds_toArray]); (try simp only [List.set_cons_succ]); (try simp only [List.set_cons_zero])
    refine wpAnyH_take (i := 9) (v := ?_) rfl (by kernel_rfl) (by kernel_rfl) (by kernel_rfl) (fun _ _ _ h => h) (Or.inl ⟨by kernel_rfl, ?_⟩) hHeld ?_
    rotate_left
    · intro w' hSw
      (try dsimp only at hSw)
      (try simp only [List.getElem_toArray]); (try simp only [List.getElem_cons_succ]); (try simp only [List.getElem_cons_zero])
      go_simp
      try with_reducible rfl
    (try simp only [Act.put]); (try simp only [List.setIfInBounds_toArray]); (try simp only [List.set_cons_succ]); (try simp only [List.set_cons_zero])
    refine wpAnyH_take (i := 10) (v := ?_) rfl (by kernel_rfl) (by kernel_rfl) (by kernel_rfl) (fun _ _ _ h => h) (Or.inl ⟨by kernel_rfl, ?_⟩) hHeld ?_
    rotate_left
    · intro w' hSw
      (try dsimp only at hSw)
      (try simp only [List.getElem_toArray]); (try simp only [List.getElem_cons_succ]); (try simp only [List.getElem_cons_zero])
      go_simp
      try with_reducible rfl
    (try simp only [Act.put]); (try simp only [List.setIfInBounds_toArray]); (try simp only [List.set_cons_succ]); (try simp only [List.set_cons_zero])
    refine wpAnyH_ready (rs := [11]) (by kernel_rfl) (by simp) ?_
    refine AllReadyH.cons rfl (fun K hK => ?_) AllReadyH.nil
    have row11 := row8.set 0 (.slice aN (tp.length + 1) cN)
    simp only [List.set_cons_zero] at row11
    have k11 := (Keep.refl (fun b => b = bT) w8).setCell (p := ⟨bT, 0, none⟩) (fun _ => rfl) (.slice aN (tp.length + 1) cN)
    have ha11 := ha8.keep k11 (fun b hb => (HP.out b hb).1)
    have x8 := row8.cell 0
    (try simp only [List.getElem?_cons_succ] at x8); (try simp only [List.getElem?_cons_zero] at x8)
    have f8 := row8.frozen 0
    (try simp only [List.getElem_toArray]); (try simp only [List.getElem_cons_succ]); (try simp only [List.getElem_cons_zero])
    go_simp
    clear x8 f8
    refine hK.out _ _ (hcv _ ha11) (fun hHeld => ?_)
    clear hK K
    (try simp only [Act.put]); (try simp only [List.setIfInBounds_toArray]); (try simp only [List.set_cons_succ]); (try simp only [List.set_cons_zero])
    refine wpAnyH_done (by kernel_rfl) ?_ _
    have own11 := owned_keep own8 k11 (fun b hb e => by subst e; exact (hfr _ hb).elim HN.out (fun h => by have := HB.out; omega))
    have kk11 := kk8.then k11 (fun i _ e => .inl e)
    have hbn : (Value.slice aN (tp.length + 1) cN).ownBlock ≠ some bT := fun e => (hfr _ e).elim HN.out (fun h => by have := HB.out; omega)
    have hlt11 : ∀ b, (Value.slice aN (tp.length + 1) cN).ownBlock = some b → b < (w8.setCell ⟨bT, 0, none⟩ (.slice aN (tp.length + 1) cN)).heap.size := fun b hb => (own11.lt b hb).2
    clear hHeld own8 kk8 k11 ha8 row8 row ha kk
    generalize w8.setCell ⟨bT, 0, none⟩ (.slice aN (tp.length + 1) cN) = w9 at *
    obtain ⟨gN, hgN⟩ : ∃ gN, Hid (gN = (Value.slice aN (tp.length + 1) cN).ownBlock) := ⟨_, rfl⟩
    have HFR := Lib.hid hfr
    have HBN := Lib.hid hbn
    have HLT := Lib.hid hlt11
    clear hfr hbn hlt11
    go_wp2_with fail
    have x9 := row11.cell 0
    (try simp only [List.getElem?_cons_succ] at x9); (try simp only [List.getElem?_cons_zero] at x9)
    refine wp_region_held_drew (S := (fun w' => w'.cell? ⟨bT, 0, none⟩ = some (.slice aN (tp.length + 1) cN))) (by kernel_rfl) (x9) (fun hHeld => ?_)
    refine wpAnyH_take (i := 0) (v := ?_) rfl (by kernel_rfl) (by kernel_rfl) (by kernel_rfl) (fun _ _ _ h => h) (Or.inl ⟨by kernel_rfl, ?_⟩) hHeld ?_
    rotate_left
    · intro w' hSw
      (try dsimp only at hSw)
      (try simp only [List.getElem_toArray]); (try simp only [List.getElem_cons_succ]); (try simp only [List.getElem_cons_zero])
      go_simp
      try with_reducible rfl
    (try simp only [Act.put]); (try simp only [List.setIfInBounds_toArray]); (try simp only [List.set_cons_succ]); (try simp only [List.set_cons_zero])
    refine wpAnyH_take (i := 1) (v := ?_) rfl (by kernel_rfl) (by kernel_rfl) (by kernel_rfl) (fun _ _ _ h => h) (Or.inl ⟨by kernel_rfl, ?_⟩) hHeld ?_
    rotate_left
    · intro w' hSw
      (try dsimp only at hSw)
      (try simp only [List.getElem_toArray]); (try simp only [List.getElem_cons_succ]); (try simp only [List.getElem_cons_zero])
      go_simp
      try with_reducible rfl
    (try simp only [Act.put]); (try simp only [List.setIfInBounds_toArray]); (try simp only [List.set_cons_succ]); (try simp only [List.set_cons_zero])
    refine wpAnyH_take (i := 2) (v := ?_) rfl (by kernel_rfl) (by kernel_rfl) (by kernel_rfl) (fun _ _ _ h => h) (Or.inl ⟨by kernel_rfl, ?_⟩) hHeld ?_
    rotate_left
    · intro w' hSw
      (try dsimp only at hSw)
      (try simp only [List.getElem_toArray]); (try simp only [List.getElem_cons_succ]); (try simp only [List.getElem_cons_zero])
      go_simp
      try with_reducible rfl
    (try simp only [Act.put]); (try simp only [List.setIfInBounds_toArray]); (try simp only [List.set_cons_succ]); (try simp only [List.set_cons_zero])
    refine wpAnyH_take (i := 3) (v := ?_) rfl (by kernel_rfl) (by kernel_rfl) (by kernel_rfl) (fun _ _ _ h => h) (Or.inl ⟨by kernel_rfl, ?_⟩) hHeld ?_
    rotate_left
    · intro w' hSw
      (try dsimp only at hSw)
      (try simp only [List.getElem_toArray]); (try simp only [List.getElem_cons_succ]); (try simp only [List.getElem_cons_zero])
      go_simp
      try with_reducible rfl
    (try simp only [Act.put]); (try simp only [List.setIfInBounds_toArray]); (try simp only [List.set_cons_succ]); (try simp only [List.set_cons_zero])
    refine wpAnyH_take (i := 4) (v := ?_) rfl (by kernel_rfl) (by kernel_rfl) (by kernel_rfl) (fun _ _ _ h => h) (Or.inl ⟨by kernel_rfl, ?_⟩) hHeld ?_
    rotate_left
    · intro w' hSw
      (try dsimp only at hSw)
      (try simp only [List.getElem_toArray]); (try simp only [List.getElem_cons_succ]); (try simp only [List.getElem_cons_zero])
      go_simp
      try with_reducible rfl
    (try simp only [Act.put]); (try simp only [List.setIfInBounds_toArray]); (try simp only [List.set_cons_succ]); (try simp only [List.set_cons_zero])
    refine wpAnyH_take (i := 5) (v := ?_) rfl (by kernel_rfl) (by kernel_rfl) (by kernel_rfl) (fun _ _ _ h => h) (Or.inl ⟨by kernel_rfl, ?_⟩) hHeld ?_
    rotate_left
    · intro w' hSw
      (try dsimp only at hSw)
      (try simp only [List.getElem_toArray]); (try simp only [List.getElem_cons_succ]); (try simp only [List.getElem_cons_zero])
      go_simp
      try with_reducible rfl
    (try simp only [Act.put]); (try simp only [List.setIfInBounds_toArray]); (try simp only [List.set_cons_succ]); (try simp only [List.set_cons_zero])
    refine wpAnyH_take (i := 6) (v := ?_) rfl (by kernel_rfl) (by kernel_rfl) (by kernel_rfl) (fun _ _ _ h => h) (Or.inl ⟨by kernel_rfl, ?_⟩) hHeld ?_
    rotate_left
    · intro w' hSw
      (try dsimp only at hSw)
      (try simp only [List.getElem_toArray]); (try simp only [List.getElem_cons_succ]); (try simp only [List.getElem_cons_zero])
      go_simp
      try with_reducible rfl
    (try simp only [Act.put]); (try simp only [List.setIfInBounds_toArray]); (try simp only [List.set_cons_succ]); (try simp only [List.set_cons_zero])
    refine wpAnyH_take (i := 7) (v := ?_) rfl (by kernel_rfl) (by kernel_rfl) (by kernel_rfl) (fun _ _ _ h => h) (Or.inl ⟨by kernel_rfl, ?_⟩) hHeld ?_
    rotate_left
    · intro w' hSw
      (try dsimp only at hSw)
      (try simp only [List.getElem_toArray]); (try simp only [List.getElem_cons_succ]); (try simp only [List.getElem_cons_zero])
      go_simp
      try with_reducible rfl
    (try simp only [Act.put]); (try simp only [List.setIfInBounds_toArray]); (try simp only [List.set_cons_succ]); (try simp only [List.set_cons_zero])
    refine wpAnyH_take (i := 8) (v := ?_) rfl (by kernel_rfl) (by kernel_rfl) (by kernel_rfl) (fun _ _ _ h => h) (Or.inl ⟨by kernel_rfl, ?_⟩) hHeld ?_
    rotate_left
    · intro w' hSw
      (try dsimp only at hSw)
      (try simp only [List.getElem_toArray]); (try simp only [List.getElem_cons_succ]); (try simp only [List.getElem_cons_zero])
      go_simp
      try with_reducible rfl
    (try simp only [Act.put]); (try simp only [List.setIfInBounds_toArray]); (try simp only [List.set_cons_succ]); (try simp only [List.set_cons_zero])
    refine wpAnyH_take (i := 9) (v := ?_) rfl (by kernel_rfl) (by kernel_rfl) (by kernel_rfl) (fun _ _ _ h => h) (Or.inl ⟨by kernel_rfl, ?_⟩) hHeld ?_
    rotate_left
    · intro w' hSw
      (try dsimp only at hSw)
      (try simp only [List.getElem_toArray]); (try simp only [List.getElem_cons_succ]); (try simp only [List.getElem_cons_zero])
      go_simp
      try with_reducible rfl
    (try simp only [Act.put]); (try simp only [List.setIfInBounds_toArray]); (try simp only [List.set_cons_succ]); (try simp only [List.set_cons_zero])
    refine wpAnyH_take (i := 10) (v := ?_) rfl (by kernel_rfl) (by kernel_rfl) (by kernel_rfl) (fun _ _ _ h => h) (Or.inl ⟨by kernel_rfl, ?_⟩) hHeld ?_
    rotate_left
    · intro w' hSw
      (try dsimp only at hSw)
      (try simp only [List.getElem_toArray]); (try simp only [List.getElem_cons_succ]); (try simp only [List.getElem_cons_zero])
      go_simp
      try with_reducible rfl
    (try simp only [Act.put]); (try simp only [List.setIfInBounds_toArray]); (try simp only [List.set_cons_succ]); (try simp only [List.set_cons_zero])
    refine wpAnyH_take (i := 11) (v := ?_) rfl (by kernel_rfl) (by kernel_rfl) (by kernel_rfl) (fun _ _ _ h => h) (Or.inl ⟨by kernel_rfl, ?_⟩) hHeld ?_
    rotate_left
    · intro w' hSw
      (try dsimp only at hSw)
      (try simp only [List.getElem_toArray]); (try simp only [List.getElem_cons_succ]); (try simp only [List.getElem_cons_zero])
      go_simp
      try with_reducible rfl
    (try simp only [Act.put]); (try simp only [List.setIfInBounds_toArray]); (try simp only [List.set_cons_succ]); (try simp only [List.set_cons_zero])
    refine wpAnyH_take (i := 12) (v := ?_) rfl (by kernel_rfl) (by kernel_rfl) (by kernel_rfl) (fun _ _ _ h => h) (Or.inl ⟨by kernel_rfl, ?_⟩) hHeld ?_
    rotate_left
    · intro w' hSw
      (try dsimp only at hSw)
      (try simp only [List.getElem_toArray]); (try simp only [List.getElem_cons_succ]); (try simp only [List.getElem_cons_zero])
      go_simp
      try with_reducible rfl
    (try simp only [Act.put]); (try simp only [List.setIfInBounds_toArray]); (try simp only [List.set_cons_succ]); (try simp only [List.set_cons_zero])
    refine wpAnyH_ready (rs := [13]) (by kernel_rfl) (by simp) ?_
    refine AllReadyH.cons rfl (fun K hK => ?_) AllReadyH.nil
    (try simp only [List.getElem_toArray]); (try simp only [List.getElem_cons_succ]); (try simp only [List.getElem_cons_zero])
    go_simp
    have e1 : IntKind.u8.wrap ((tp.length : Int) + 1) = ((UInt8.ofNat (tp.length + 1)).toNat : Int) := by rw [← wrap_u8]; rfl
    have e2 : IntKind.u8.wrap (((tp.length : Int) + 1) / 256) = ((UInt8.ofNat ((tp.length + 1) / 256)).toNat : Int) := by rw [← wrap_u8]; rfl
    rw [e1, e2]
    clear e1 e2
    have el : (tp ++ [l]).length = tp.length + 1 := by simp
    have it9 : IsTape w9 bT gN (tp ++ [l]) := ⟨⟨aN, cN, by rw [el]; exact row11, by rw [el]; exact own11, by rw [el]; exact hgN.out.symm⟩, by rw [hgN.out]; exact HBN.out, fun b hb => HLT.out b (hgN.out.symm.trans hb)⟩
    have hsz9 : w.heap.size ≤ w9.heap.size := kk11.size
    have HBM : Hid (bT < w9.heap.size) := row11.lt
    have hgl9 : Hid (∀ b, gN = some b → b < w9.heap.size) := it9.glt
    have hfr9 : Hid (∀ b, gN = some b → g = some b ∨ w.heap.size ≤ b) := fun b hb => HFR.out b (hgN.out.symm.trans hb)
    have hmA : w9.heap.size ≤ (w9.alloc (.cells #[.int .u8 ((UInt8.ofNat (tp.length + 1)).toNat : Int), .int .u8 ((UInt8.ofNat ((tp.length + 1) / 256)).toNat : Int)] 5)).drew.heap.size := by simp [World.drew]
    have kA := (Keep.refl Nix w9).alloc (.cells #[.int .u8 ((UInt8.ofNat (tp.length + 1)).toNat : Int), .int .u8 ((UInt8.ofNat ((tp.length + 1) / 256)).toNat : Int)] 5)
    have ownA : (w9.alloc (.cells #[.int .u8 ((UInt8.ofNat (tp.length + 1)).toNat : Int), .int .u8 ((UInt8.ofNat ((tp.length + 1) / 256)).toNat : Int)] 5)).ownsRow w9.heap.size 5 1 (.slice (some ⟨w9.heap.size, 0, none⟩) 2 2) 2 ([UInt8.ofNat (tp.length + 1), UInt8.ofNat ((tp.length + 1) / 256)].map bv) :=
      ⟨by simp, .inr ⟨w9.heap.size, 2, _, rfl, Nat.le_refl _, heap_alloc_new _ _, Nat.le_refl _, by decide, by simp, by simp [bv]⟩⟩
    have rowA := row11.keep kA id
    have xA := rowA.cell 0
    (try simp only [List.getElem?_cons_succ] at xA); (try simp only [List.getElem?_cons_zero] at xA)
    refine hK.out _ _ (xA) (fun hHeld => ?_)
    clear hK K
    (try simp only [Act.put]); (try simp only [List.setIfInBounds_toArray]); (try simp only [List.set_cons_succ]); (try simp only [List.set_cons_zero])
    refine wpAnyH_take (i := 14) (v := ?_) rfl (by kernel_rfl) (by kernel_rfl) (by kernel_rfl) (fun _ _ _ h => h) (Or.inl ⟨by kernel_rfl, ?_⟩) hHeld ?_
    rotate_left
    · intro w' hSw
      (try dsimp only at hSw)
      (try simp only [List.getElem_toArray]); (try simp only [List.getElem_cons_succ]); (try simp only [List.getElem_cons_zero])
      go_simp
      try with_reducible rfl
    (try simp only [Act.put]); (try simp only [List.setIfInBounds_toArray]); (try simp only [List.set_cons_succ]); (try simp only [List.set_cons_zero])
    refine wpAnyH_done (by kernel_rfl) ?_ _
    have itA := (it9.keep kA id (fun _ _ => id)).keep (Keep.drew (Keep.refl Nix _)) id (fun _ _ => id)
    have haA := (ha11.keep kA (fun _ _ h => h)).same (w' := (w9.alloc (.cells #[.int .u8 ((UInt8.ofNat (tp.length + 1)).toNat : Int), .int .u8 ((UInt8.ofNat ((tp.length + 1) / 256)).toNat : Int)] 5)).drew)
    have ownA := owned_same ownA (w' := (w9.alloc (.cells #[.int .u8 ((UInt8.ofNat (tp.length + 1)).toNat : Int), .int .u8 ((UInt8.ofNat ((tp.length + 1) / 256)).toNat : Int)] 5)).drew)
    have kkA := (kk11.trans (kA.nix)).same (c := (w9.alloc (.cells #[.int .u8 ((UInt8.ofNat (tp.length + 1)).toNat : Int), .int .u8 ((UInt8.ofNat ((tp.length + 1) / 256)).toNat : Int)] 5)).drew)
    clear kA rowA xA hHeld x9 row11 own11 kk11 ha11 it9 HFR HBN HLT hgN ha7
    generalize (w9.alloc (.cells #[.int .u8 ((UInt8.ofNat (tp.length + 1)).toNat : Int), .int .u8 ((UInt8.ofNat ((tp.length + 1) / 256)).toNat : Int)] 5)).drew = wA at *
    generalize w9.heap.size = mA at *
    obtain ⟨hd, hhd⟩ : ∃ hd : List UInt8, Hid (hd = [UInt8.ofNat (tp.length + 1), UInt8.ofNat ((tp.length + 1) / 256)]) := ⟨_, rfl⟩
    have hdl : hd.length = 2 := by rw [hhd.out]; rfl
    rw [← hhd.out] at ownA
    go_wp2_with fail
    go_loopw [5, 6] (fun v i wr => ∃ (k : Nat) (j : Int) (ao : Option Addr) (co : Nat), k ≤ l.length ∧ j = (k : Int) - 1 ∧ v = .slice ao (2 + (l.length - k)) co ∧ i = .int .i64 j ∧
      wr.ownsRow mA 5 1 (.slice ao (2 + (l.length - k)) co) (2 + (l.length - k)) ((hd ++ (l.drop k).reverse).map bv) ∧ mA ≤ wr.heap.size ∧ IsTape wr bT gN (tp ++ [l]) ∧ Lies wr p a (l.map bv) ∧ Keep (fun b => b = bT ∨ g = some b) w wr) (fun _ i _ => (intOf i + 1).toNat)
    case atStart => exact ⟨l.length, (l.length : Int) - 1, _, _, Nat.le_refl _, rfl, by rw [Nat.sub_self], by go_num, by rw [Nat.sub_self]; simpa using ownA, hmA, itA, haA, kkA⟩
    case round =>
      clear itA haA ownA kkA hmA
      obtain ⟨k, j, ao, co, hk, hj, rfl, rfl, own, hm, it, lies, kk⟩ := hrel
      by_cases hk0 : k = 0
      · subst hk0
        obtain rfl : j = -1 := by omega
        clear hj hk
        go_wp2_with fail
        go_ret
        have e3 : 2 + (l.length - 0) = l.length + 2 := by omega
        rw [e3] at own ⊢
        exact ⟨ao, co, gN, mA, rfl, hsz9, by rw [hhd.out] at own; simpa [answer] using own, it, hgl9.out, kk, hfr9.out⟩
      · obtain ⟨k, rfl⟩ : ∃ k', k = k' + 1 := ⟨k - 1, by omega⟩
        obtain rfl : j = (k : Int) := by omega
        have hi0 : (0 : Int) ≤ (k : Int) := by omega
        have hi1 : (k : Int) < (l.length : Int) := by omega
        obtain ⟨b, off, rfl, -, hbs, hc⟩ := lies (by intro h; simp at h; subst h; simp at hi1; omega)
        have x0 := hc k _ (bv_at l k (by omega))
        have hdrop : Hid (l.drop k = l[k]'(by omega) :: l.drop (k + 1)) := List.drop_eq_getElem_cons (by omega)
        have e3 : Hid (2 + (l.length - (k + 1)) + 1 = 2 + (l.length - k)) := by show _ = _; omega
        generalize l[k] = c at x0 hdrop
        clear hj hk0 hc
        go_wp2_with (at_builtin; refine wpl_append1 T_bytes rfl (.tmp 41) (.tmp 46) rfl mA rfl own rfl rfl ?c1 ?c2 ?c3 hm ?_)
        case c1 => rfl
        case c2 => unfold maxLen; omega
        case c3 => omega
        intro a' c' wB ownB kB
        have hoB : ∀ b', OwnB (.slice ao (2 + (l.length - (k + 1))) co) b' → mA ≤ b' := fun b' hb' => (own.lt b' hb').1
        have itB := it.keep kB (fun h => by have := hoB _ h; have := HBM.out; omega) (fun b' hb' h => by have := hoB _ h; have := hgl9.out b' hb'; omega)
        have liesB : Lies wB p (some ⟨b, off, none⟩) (l.map bv) := lies.keep kB (fun b' hb' h => by have := hoB _ h; have := HQ.out b' hb'; omega)
        have kkB := kk.then kB (fun i hi h => by have := hoB _ h; omega)
        rw [e3.out] at ownB
        have hmB := Nat.le_trans hm kB.size
        clear own it lies kk hm x0 kB
        go_wp2_with fail
        go_roundw
        case rel => exact ⟨k, (k : Int) - 1, a', c', by omega, rfl, by rw [e3.out], by go_num, by rw [hdrop.out]; simpa [bv] using ownB, hmB, itB, liesB, kkB⟩
        case measure => simp [intOf]
  · (try simp only [List.getElem_toArray]); (try simp only [List.getElem_cons_succ]); (try simp only [List.getElem_cons_zero])
    go_simp
    have ha7 := ha.keep ((Keep.refl Nix wd).alloc (.cells #[.string (strB l)] 9)) (fun _ _ h => h)
    have row7 := row.keep ((Keep.refl Nix wd).alloc (.cells #[.string (strB l)] 9)) id
    refine hK.out _ _ (hcv _ ha7) (fun hHeld => ?_)
    clear hK K
    (try simp only [Act.put]); (try simp only [List.setIfInBounds_toArray]); (try simp only [List.set_cons_succ]); (try simp only [List.set_cons_zero])
    refine wpAnyH_ready (rs := [4]) (by kernel_rfl) (by simp) ?_
    refine AllReadyH.cons rfl (fun K hK => ?_) AllReadyH.nil
    have x4 := row7.cell 0
    (try simp only [List.getElem?_cons_succ] at x4); (try simp only [List.getElem?_cons_zero] at x4)
    (try simp only [List.getElem_toArray]); (try simp only [List.getElem_cons_succ]); (try simp only [List.getElem_cons_zero])
    go_simp
    clear x4
    refine hK.out _ _ (hcv _ ha7) (fun hHeld => ?_)
    clear hK K
    (try simp only [Act.put]); (try simp only [List.setIfInBounds_toArray]); (try simp only [List.set_cons_succ]); (try simp only [List.set_cons_zero])
    refine wpAnyH_ready (rs := [8]) (by kernel_rfl) (by simp) ?_
    refine AllReadyH.cons rfl (fun K hK => ?_) AllReadyH.nil
    refine step_append1 T_strs (by rfl) (.tmp 13) (.tmp 16) (by rfl) 0 (by rfl) own (by rfl) rfl (by simp [Value.oneCell']) (by unfold maxLen; omega) (by omega) (Nat.zero_le _) ?_
    intro aN cN w8 own8 k8 hfresh
    have own8 : w8.ownsRow 0 9 1 (.slice aN (tp.length + 1) cN) (tp.length + 1) ((tp ++ [l]).map sv) := by simpa [sv] using own8
    have hg8 : ∀ b, OwnB (.slice aT tp.length cT) b → g = some b := fun b hb => HG.out ▸ hb
    have row8 := row.keep k8 (fun h => HN.out (hg8 _ h))
    have ha8 := ha.keep k8 (fun b hb h => (HP.out b hb).2 (hg8 _ h))
    have kk8 : Keep (fun b => b = bT ∨ g = some b) w w8 := kk.then k8 (fun i _ h => .inr (hg8 _ h))
    have hfr : ∀ b, OwnB (.slice aN (tp.length + 1) cN) b → g = some b ∨ w.heap.size ≤ b := fun b hb => (hfresh b hb).imp (hg8 b) (fun h => Nat.le_trans kk.size h)
    clear k8 hfresh own
    refine hK.out _ _ (hcv _ ha8) (fun hHeld => ?_)
    clear hK K
    (try simp only [Act.put]); (try simp only [List.setIfInBounds_toArray]); (try simp only [List.set_cons_succ]); (try simp only [List.set_cons_zero])
    refine wpAnyH_take (i := 9) (v := ?_) rfl (by kernel_rfl) (by kernel_rfl) (by kernel_rfl) (fun _ _ _ h => h) (Or.inl ⟨by kernel_rfl, ?_⟩) hHeld ?_
    rotate_left
    · intro w' hSw
      (try dsimp only at hSw)
      (try simp only [List.getElem_toArray]); (try simp only [List.getElem_cons_succ]); (try simp only [List.getElem_cons_zero])
      go_simp
      try with_reducible rfl
    (try simp only [Act.put]); (try simp only [List.setIfInBounds_toArray]); (try simp only [List.set_cons_succ]); (try simp only [List.set_cons_zero])
    refine wpAnyH_take (i := 10) (v := ?_) rfl (by kernel_rfl) (by kernel_rfl) (by kernel_rfl) (fun _ _ _ h => h) (Or.inl ⟨by kernel_rfl, ?_⟩) hHeld ?_
    rotate_left
    · intro w' hSw
      (try dsimp only at hSw)
      (try simp only [List.getElem_toArray]); (try simp only [List.getElem_cons_succ]); (try simp only [List.getElem_cons_zero])
      go_simp
      try with_reducible rfl
    (try simp only [Act.put]); (try simp only [List.setIfInBounds_toArray]); (try simp only [List.set_cons_succ]); (try simp only [List.set_cons_zero])
    refine wpAnyH_ready (rs := [11]) (by kernel_rfl) (by simp) ?_
    refine AllReadyH.cons rfl (fun K hK => ?_) AllReadyH.nil
    have row11 := row8.set 0 (.slice aN (tp.length + 1) cN)
    simp only [List.set_cons_zero] at row11
    have k11 := (Keep.refl (fun b => b = bT) w8).setCell (p := ⟨bT, 0, none⟩) (fun _ => rfl) (.slice aN (tp.length + 1) cN)
    have ha11 := ha8.keep k11 (fun b hb => (HP.out b hb).1)
    have x8 := row8.cell 0
    (try simp only [List.getElem?_cons_succ] at x8); (try simp only [List.getElem?_cons_zero] at x8)
    have f8 := row8.frozen 0
    (try simp only [List.getElem_toArray]); (try simp only [List.getElem_cons_succ]); (try simp only [List.getElem_cons_zero])
    go_simp
    clear x8 f8
    refine hK.out _ _ (hcv _ ha11) (fun hHeld => ?_)
    clear hK K
    (try simp only [Act.put]); (try simp only [List.setIfInBounds_toArray]); (try simp only [List.set_cons_succ]); (try simp only [List.set_cons_zero])
    refine wpAnyH_done (by kernel_rfl) ?_ _
    have own11 := owned_keep own8 k11 (fun b hb e => by subst e; exact (hfr _ hb).elim HN.out (fun h => by have := HB.out; omega))
    have kk11 := kk8.then k11 (fun i _ e => .inl e)
    have hbn : (Value.slice aN (tp.length + 1) cN).ownBlock ≠ some bT := fun e => (hfr _ e).elim HN.out (fun h => by have := HB.out; omega)
    have hlt11 : ∀ b, (Value.slice aN (tp.length + 1) cN).ownBlock = some b → b < (w8.setCell ⟨bT, 0, none⟩ (.slice aN (tp.length + 1) cN)).heap.size := fun b hb => (own11.lt b hb).2
    clear hHeld own8 kk8 k11 ha8 row8 row ha kk
    generalize w8.setCell ⟨bT, 0, none⟩ (.slice aN (tp.length + 1) cN) = w9 at *
    obtain ⟨gN, hgN⟩ : ∃ gN, Hid (gN = (Value.slice aN (tp.length + 1) cN).ownBlock) := ⟨_, rfl⟩
    have HFR := Lib.hid hfr
    have HBN := Lib.hid hbn
    have HLT := Lib.hid hlt11
    clear hfr hbn hlt11
    go_wp2_with fail
    have x9 := row11.cell 0
    (try simp only [List.getElem?_cons_succ] at x9); (try simp only [List.getElem?_cons_zero] at x9)
    refine wp_region_held_drew (S := (fun w' => w'.cell? ⟨bT, 0, none⟩ = some (.slice aN (tp.length + 1) cN))) (by kernel_rfl) (x9) (fun hHeld => ?_)
    refine wpAnyH_take (i := 0) (v := ?_) rfl (by kernel_rfl) (by kernel_rfl) (by kernel_rfl) (fun _ _ _ h => h) (Or.inl ⟨by kernel_rfl, ?_⟩) hHeld ?_
    rotate_left
    · intro w' hSw
      (try dsimp only at hSw)
      (try simp only [List.getElem_toArray]); (try simp only [List.getElem_cons_succ]); (try simp only [List.getElem_cons_zero])
      go_simp
      try with_reducible rfl
    (try simp only [Act.put]); (try simp only [List.setIfInBounds_toArray]); (try simp only [List.set_cons_succ]); (try simp only [List.set_cons_zero])
    refine wpAnyH_take (i := 1) (v := ?_) rfl (by kernel_rfl) (by kernel_rfl) (by kernel_rfl) (fun _ _ _ h => h) (Or.inl ⟨by kernel_rfl, ?_⟩) hHeld ?_
    rotate_left
    · intro w' hSw
      (try dsimp only at hSw)
      (try simp only [List.getElem_toArray]); (try simp only [List.getElem_cons_succ]); (try simp only [List.getElem_cons_zero])
      go_simp
      try with_reducible rfl
    (try simp only [Act.put]); (try simp only [List.setIfInBounds_toArray]); (try simp only [List.set_cons_succ]); (try simp only [List.set_cons_zero])
    refine wpAnyH_take (i := 2) (v := ?_) rfl (by kernel_rfl) (by kernel_rfl) (by kernel_rfl) (fun _ _ _ h => h) (Or.inl ⟨by kernel_rfl, ?_⟩) hHeld ?_
    rotate_left
    · intro w' hSw
      (try dsimp only at hSw)
      (try simp only [List.getElem_toArray]); (try simp only [List.getElem_cons_succ]); (try simp only [List.getElem_cons_zero])
      go_simp
      try with_reducible rfl
    (try simp only [Act.put]); (try simp only [List.setIfInBounds_toArray]); (try simp only [List.set_cons_succ]); (try simp only [List.set_cons_zero])
    refine wpAnyH_take (i := 3) (v := ?_) rfl (by kernel_rfl) (by kernel_rfl) (by kernel_rfl) (fun _ _ _ h => h) (Or.inl ⟨by kernel_rfl, ?_⟩) hHeld ?_
    rotate_left
    · intro w' hSw
      (try dsimp only at hSw)
      (try simp only [List.getElem_toArray]); (try simp only [List.getElem_cons_succ]); (try simp only [List.getElem_cons_zero])
      go_simp
      try with_reducible rfl
    (try simp only [Act.put]); (try simp only [List.setIfInBounds_toArray]); (try simp only [List.set_cons_succ]); (try simp only [List.set_cons_zero])
    refine wpAnyH_take (i := 4) (v := ?_) rfl (by kernel_rfl) (by kernel_rfl) (by kernel_rfl) (fun _ _ _ h => h) (Or.inl ⟨by kernel_rfl, ?_⟩) hHeld ?_
    rotate_left
    · intro w' hSw
      (try dsimp only at hSw)
      (try simp only [List.getElem_toArray]); (try simp only [List.getElem_cons_succ]); (try simp only [List.getElem_cons_zero])
      go_simp
      try with_reducible rfl
    (try simp only [Act.put]); (try simp only [List.setIfInBounds_toArray]); (try simp only [List.set_cons_succ]); (try simp only [List.set_cons_zero])
    refine wpAnyH_take (i := 5) (v := ?_) rfl (by kernel_rfl) (by kernel_rfl) (by kernel_rfl) (fun _ _ _ h => h) (Or.inl ⟨by kernel_rfl, ?_⟩) hHeld ?_
    rotate_left
    · intro w' hSw
      (try dsimp only at hSw)
      (try simp only [List.getElem_toArray]); (try simp only [List.getElem_cons_succ]); (try simp only [List.getElem_cons_zero])
      go_simp
      try with_reducible rfl
    (try simp only [Act.put]); (try simp only [List.setIfInBounds_toArray]); (try simp only [List.set_cons_succ]); (try simp only [List.set_cons_zero])
    refine wpAnyH_take (i := 6) (v := ?_) rfl (by kernel_rfl) (by kernel_rfl) (by kernel_rfl) (fun _ _ _ h => h) (Or.inl ⟨by kernel_rfl, ?_⟩) hHeld ?_
    rotate_left
    · intro w' hSw
      (try dsimp only at hSw)
      (try simp only [List.getElem_toArray]); (try simp only [List.getElem_cons_succ]); (try simp only [List.getElem_cons_zero])
      go_simp
      try with_reducible rfl
    (try simp only [Act.put]); (try simp only [List.setIfInBounds_toArray]); (try simp only [List.set_cons_succ]); (try simp only [List.set_cons_zero])
    refine wpAnyH_take (i := 7) (v := ?_) rfl (by kernel_rfl) (by kernel_rfl) (by kernel_rfl) (fun _ _ _ h => h) (Or.inl ⟨by kernel_rfl, ?_⟩) hHeld ?_
    rotate_left
    · intro w' hSw
      (try dsimp only at hSw)
      (try simp only [List.getElem_toArray]); (try simp only [List.getElem_cons_succ]); (try simp only [List.getElem_cons_zero])
      go_simp
      try with_reducible rfl
    (try simp only [Act.put]); (try simp only [List.setIfInBounds_toArray]); (try simp only [List.set_cons_succ]); (try simp only [List.set_cons_zero])
    refine wpAnyH_take (i := 8) (v := ?_) rfl (by kernel_rfl) (by kernel_rfl) (by kernel_rfl) (fun _ _ _ h => h) (Or.inl ⟨by kernel_rfl, ?_⟩) hHeld ?_
    rotate_left
    · intro w' hSw
      (try dsimp only at hSw)
      (try simp only [List.getElem_toArray]); (try simp only [List.getElem_cons_succ]); (try simp only [List.getElem_cons_zero])
      go_simp
      try with_reducible rfl
    (try simp only [Act.put]); (try simp only [List.setIfInBounds_toArray]); (try simp only [List.set_cons_succ]); (try simp only [List.set_cons_zero])
    refine wpAnyH_take (i := 9) (v := ?_) rfl (by kernel_rfl) (by kernel_rfl) (by kernel_rfl) (fun _ _ _ h => h) (Or.inl ⟨by kernel_rfl, ?_⟩) hHeld ?_
    rotate_left
    · intro w' hSw
      (try dsimp only at hSw)
      (try simp only [List.getElem_toArray]); (try simp only [List.getElem_cons_succ]); (try simp only [List.getElem_cons_zero])
      go_simp
      try with_reducible rfl
    (try simp only [Act.put]); (try simp only [List.setIfInBounds_toArray]); (try simp only [List.set_cons_succ]); (try simp only [List.set_cons_zero])
    refine wpAnyH_take (i := 10) (v := ?_) rfl (by kernel_rfl) (by kernel_rfl) (by kernel_rfl) (fun _ _ _ h => h) (Or.inl ⟨by kernel_rfl, ?_⟩) hHeld ?_
    rotate_left
    · intro w' hSw
      (try dsimp only at hSw)
      (try simp only [List.getElem_toArray]); (try simp only [List.getElem_cons_succ]); (try simp only [List.getElem_cons_zero])
      go_simp
      try with_reducible rfl
    (try simp only [Act.put]); (try simp only [List.setIfInBounds_toArray]); (try simp only [List.set_cons_succ]); (try simp only [List.set_cons_zero])
    refine wpAnyH_take (i := 11) (v := ?_) rfl (by kernel_rfl) (by kernel_rfl) (by kernel_rfl) (fun _ _ _ h => h) (Or.inl ⟨by kernel_rfl, ?_⟩) hHeld ?_
    rotate_left
    · intro w' hSw
      (try dsimp only at hSw)
      (try simp only [List.getElem_toArray]); (try simp only [List.getElem_cons_succ]); (try simp only [List.getElem_cons_zero])
      go_simp
      try with_reducible rfl
    (try simp only [Act.put]); (try simp only [List.setIfInBounds_toArray]); (try simp only [List.set_cons_succ]); (try simp only [List.set_cons_zero])
    refine wpAnyH_take (i := 12) (v := ?_) rfl (by kernel_rfl) (by kernel_rfl) (by kernel_rfl) (fun _ _ _ h => h) (Or.inl ⟨by kernel_rfl, ?_⟩) hHeld ?_
    rotate_left
    · intro w' hSw
      (try dsimp only at hSw)
      (try simp only [List.getElem_toArray]); (try simp only [List.getElem_cons_succ]); (try simp only [List.getElem_cons_zero])
      go_simp
      try with_reducible rfl
    (try simp only [Act.put]); (try simp only [List.setIfInBounds_toArray]); (try simp only [List.set_cons_succ]); (try simp only [List.set_cons_zero])
    refine wpAnyH_ready (rs := [13]) (by kernel_rfl) (by simp) ?_
    refine AllReadyH.cons rfl (fun K hK => ?_) AllReadyH.nil
    (try simp only [List.getElem_toArray]); (try simp only [List.getElem_cons_succ]); (try simp only [List.getElem_cons_zero])
    go_simp
    have e1 : IntKind.u8.wrap ((tp.length : Int) + 1) = ((UInt8.ofNat (tp.length + 1)).toNat : Int) := by rw [← wrap_u8]; rfl
    have e2 : IntKind.u8.wrap (((tp.length : Int) + 1) / 256) = ((UInt8.ofNat ((tp.length + 1) / 256)).toNat : Int) := by rw [← wrap_u8]; rfl
    rw [e1, e2]
    clear e1 e2
    have el : (tp ++ [l]).length = tp.length + 1 := by simp
    have it9 : IsTape w9 bT gN (tp ++ [l]) := ⟨⟨aN, cN, by rw [el]; exact row11, by rw [el]; exact own11, by rw [el]; exact hgN.out.symm⟩, by rw [hgN.out]; exact HBN.out, fun b hb => HLT.out b (hgN.out.symm.trans hb)⟩
    have hsz9 : w.heap.size ≤ w9.heap.size := kk11.size
    have HBM : Hid (bT < w9.heap.size) := row11.lt
    have hgl9 : Hid (∀ b, gN = some b → b < w9.heap.size) := it9.glt
    have hfr9 : Hid (∀ b, gN = some b → g = some b ∨ w.heap.size ≤ b) := fun b hb => HFR.out b (hgN.out.symm.trans hb)
    have hmA : w9.heap.size ≤ (w9.alloc (.cells #[.int .u8 ((UInt8.ofNat (tp.length + 1)).toNat : Int), .int .u8 ((UInt8.ofNat ((tp.length + 1) / 256)).toNat : Int)] 5)).drew.heap.size := by simp [World.drew]
    have kA := (Keep.refl Nix w9).alloc (.cells #[.int .u8 ((UInt8.ofNat (tp.length + 1)).toNat : Int), .int .u8 ((UInt8.ofNat ((tp.length + 1) / 256)).toNat : Int)] 5)
    have ownA : (w9.alloc (.cells #[.int .u8 ((UInt8.ofNat (tp.length + 1)).toNat : Int), .int .u8 ((UInt8.ofNat ((tp.length + 1) / 256)).toNat : Int)] 5)).ownsRow w9.heap.size 5 1 (.slice (some ⟨w9.heap.size, 0, none⟩) 2 2) 2 ([UInt8.ofNat (tp.length + 1), UInt8.ofNat ((tp.length + 1) / 256)].map bv) :=
      ⟨by simp, .inr ⟨w9.heap.size, 2, _, rfl, Nat.le_refl _, heap_alloc_new _ _, Nat.le_refl _, by decide, by simp, by simp [bv]⟩⟩
    have rowA := row11.keep kA id
    have xA := rowA.cell 0
    (try simp only [List.getElem?_cons_succ] at xA); (try simp only [List.getElem?_cons_zero] at xA)
    refine hK.out _ _ (xA) (fun hHeld => ?_)
    clear hK K
    (try simp only [Act.put]); (try simp only [List.setIfInBounds_toArray]); (try simp only [List.set_cons_succ]); (try simp only [List.set_cons_zero])
    refine wpAnyH_take (i := 14) (v := ?_) rfl (by kernel_rfl) (by kernel_rfl) (by kernel_rfl) (fun _ _ _ h => h) (Or.inl ⟨by kernel_rfl, ?_⟩) hHeld ?_
    rotate_left
    · intro w' hSw
      (try dsimp only at hSw)
      (try simp only [List.getElem_toArray]); (try simp only [List.getElem_cons_succ]); (try simp only [List.getElem_cons_zero])
      go_simp
      try with_reducible rfl
    (try simp only [Act.put]); (try simp only [List.setIfInBounds_toArray]); (try simp only [List.set_cons_succ]); (try simp only [List.set_cons_zero])
    refine wpAnyH_done (by kernel_rfl) ?_ _
    have itA := (it9.keep kA id (fun _ _ => id)).keep (Keep.drew (Keep.refl Nix _)) id (fun _ _ => id)
    have haA := (ha11.keep kA (fun _ _ h => h)).same (w' := (w9.alloc (.cells #[.int .u8 ((UInt8.ofNat (tp.length + 1)).toNat : Int), .int .u8 ((UInt8.ofNat ((tp.length + 1) / 256)).toNat : Int)] 5)).drew)
    have ownA := owned_same ownA (w' := (w9.alloc (.cells #[.int .u8 ((UInt8.ofNat (tp.length + 1)).toNat : Int), .int .u8 ((UInt8.ofNat ((tp.length + 1) / 256)).toNat : Int)] 5)).drew)
    have kkA := (kk11.trans (kA.nix)).same (c := (w9.alloc (.cells #[.int .u8 ((UInt8.ofNat (tp.length + 1)).toNat : Int), .int .u8 ((UInt8.ofNat ((tp.length + 1) / 256)).toNat : Int)] 5)).drew)
    clear kA rowA xA hHeld x9 row11 own11 kk11 ha11 it9 HFR HBN HLT hgN ha7
    generalize (w9.alloc (.cells #[.int .u8 ((UInt8.ofNat (tp.length + 1)).toNat : Int), .int .u8 ((UInt8.ofNat ((tp.length + 1) / 256)).toNat : Int)] 5)).drew = wA at *
    generalize w9.heap.size = mA at *
    obtain ⟨hd, hhd⟩ : ∃ hd : List UInt8, Hid (hd = [UInt8.ofNat (tp.length + 1), UInt8.ofNat ((tp.length + 1) / 256)]) := ⟨_, rfl⟩
    have hdl : hd.length = 2 := by rw [hhd.out]; rfl
    rw [← hhd.out] at ownA
    go_wp2_with fail
    go_loopw [5, 6] (fun v i wr => ∃ (k : Nat) (j : Int) (ao : Option Addr) (co : Nat), k ≤ l.length ∧ j = (k : Int) - 1 ∧ v = .slice ao (2 + (l.length - k)) co ∧ i = .int .i64 j ∧
      wr.ownsRow mA 5 1 (.slice ao (2 + (l.length - k)) co) (2 + (l.length - k)) ((hd ++ (l.drop k).reverse).map bv) ∧ mA ≤ wr.heap.size ∧ IsTape wr bT gN (tp ++ [l]) ∧ Lies wr p a (l.map bv) ∧ Keep (fun b => b = bT ∨ g = some b) w wr) (fun _ i _ => (intOf i + 1).toNat)
    case atStart => exact ⟨l.length, (l.length : Int) - 1, _, _, Nat.le_refl _, rfl, by rw [Nat.sub_self], by go_num, by rw [Nat.sub_self]; simpa using ownA, hmA, itA, haA, kkA⟩
    case round =>
      clear itA haA ownA kkA hmA
      obtain ⟨k, j, ao, co, hk, hj, rfl, rfl, own, hm, it, lies, kk⟩ := hrel
      by_cases hk0 : k = 0
      · subst hk0
        obtain rfl : j = -1 := by omega
        clear hj hk
        go_wp2_with fail
        go_ret
        have e3 : 2 + (l.length - 0) = l.length + 2 := by omega
        rw [e3] at own ⊢
        exact ⟨ao, co, gN, mA, rfl, hsz9, by rw [hhd.out] at own; simpa [answer] using own, it, hgl9.out, kk, hfr9.out⟩
      · obtain ⟨k, rfl⟩ : ∃ k', k = k' + 1 := ⟨k - 1, by omega⟩
        obtain rfl : j = (k : Int) := by omega
        have hi0 : (0 : Int) ≤ (k : Int) := by omega
        have hi1 : (k : Int) < (l.length : Int) := by omega
        obtain ⟨b, off, rfl, -, hbs, hc⟩ := lies (by intro h; simp at h; subst h; simp at hi1; omega)
        have x0 := hc k _ (bv_at l k (by omega))
        have hdrop : Hid (l.drop k = l[k]'(by omega) :: l.drop (k + 1)) := List.drop_eq_getElem_cons (by omega)
        have e3 : Hid (2 + (l.length - (k + 1)) + 1 = 2 + (l.length - k)) := by show _ = _; omega
        generalize l[k] = c at x0 hdrop
        clear hj hk0 hc
        go_wp2_with (at_builtin; refine wpl_append1 T_bytes rfl (.tmp 41) (.tmp 46) rfl mA rfl own rfl rfl ?c1 ?c2 ?c3 hm ?_)
        case c1 => rfl
        case c2 => unfold maxLen; omega
        case c3 => omega
        intro a' c' wB ownB kB
        have hoB : ∀ b', OwnB (.slice ao (2 + (l.length - (k + 1))) co) b' → mA ≤ b' := fun b' hb' => (own.lt b' hb').1
        have itB := it.keep kB (fun h => by have := hoB _ h; have := HBM.out; omega) (fun b' hb' h => by have := hoB _ h; have := hgl9.out b' hb'; omega)
        have liesB : Lies wB p (some ⟨b, off, none⟩) (l.map bv) := lies.keep kB (fun b' hb' h => by have := hoB _ h; have := HQ.out b' hb'; omega)
        have kkB := kk.then kB (fun i hi h => by have := hoB _ h; omega)
        rw [e3.out] at ownB
        have hmB := Nat.le_trans hm kB.size
        clear own it lies kk hm x0 kB
        go_wp2_with fail
        go_roundw
        case rel => exact ⟨k, (k : Int) - 1, a', c', by omega, rfl, by rw [e3.out], by go_num, by rw [hdrop.out]; simpa [bv] using ownB, hmB, itB, liesB, kkB⟩
        case measure => simp [intOf]
end Go.Proofs.Ythchpdflnpfjkaa
