/- DEDUP: DedupApart. Printed by mac.py. -/
import Derived.Test.YthchpdflnpfjkaaDed5
namespace Go.Proofs.Ythchpdflnpfjkaa
open Go.RowKit

def Sim (x y : Option (Int × List UInt8)) : Prop := x.isSome = y.isSome ∧ seqO x = seqO y ∧ (ansO x).length = (ansO y).length ∧ (ansO x).drop 2 = (ansO y).drop 2
theorem sim_do {tp1 tp2 : List (List UInt8)} {l1 l2 : Last} {c : GCall} (h : Sim (l1 c.fClient) (l2 c.fClient)) : Sim ((doS tp1 l1 c).2.1 c.fClient) ((doS tp2 l2 c).2.1 c.fClient) ∧ (doS tp1 l1 c).2.2.length = (doS tp2 l2 c).2.2.length ∧ (doS tp1 l1 c).2.2.drop 2 = (doS tp2 l2 c).2.2.drop 2 := by
  obtain ⟨h1, h2, h3, h4⟩ := h
  unfold doS
  rw [h2]
  by_cases ha : seqO (l2 c.fClient) < c.fSeq
  · simp only [if_pos ha]
    exact ⟨⟨by simp [upd], by simp [upd, seqO], by simp [upd, ansO, answer], by simp [upd, ansO, answer]⟩, by simp [answer], by simp [answer]⟩
  · rw [if_neg ha, if_neg ha]
    by_cases hb : c.fSeq < seqO (l2 c.fClient)
    · refine ⟨?_, ?_, ?_⟩ <;> simp only [if_pos hb]; exact ⟨h1, h2, h3, h4⟩
    · simp only [if_neg hb]; exact ⟨⟨h1, h2, h3, h4⟩, h3, h4⟩
theorem do_other {tp : List (List UInt8)} {l : Last} {c : GCall} {k : Int} (h : k ≠ c.fClient) : (doS tp l c).2.1 k = l k := by
  unfold doS
  split
  · simp [upd, h]
  · split <;> rfl
theorem do_len (tp : List (List UInt8)) (l : Last) (c : GCall) : (doS tp l c).1.length ≤ tp.length + 1 := by
  unfold doS
  split
  · simp
  · split <;> simp
theorem told_sim {l1 l2 : Last} {k s : Int} (h : Sim (l1 k) (l2 k)) : (toldS l1 k s).2 = (toldS l2 k s).2 := by
  obtain ⟨h1, h2, -, -⟩ := h
  unfold toldS
  cases e1 : l1 k <;> cases e2 : l2 k <;> rw [e1, e2] at h1 h2 <;> simp [seqO] at h1 h2 ⊢
  rename_i a b
  rw [h2]; split <;> rfl
theorem enc_small (x : GCall) (h : x.fData.length ≤ 400) : (encGCall x).length ≤ 5000 := by
  have h1 := encU_len x.fClient; have h2 := encU_len x.fSeq; have h3 := textB_len x.fData
  simp only [encGCall, List.length_append]; omega
theorem up1 {n k : Nat} (h : n ≤ 1000 * k) : n + 1 ≤ 1000 * (k + 1) := by omega
theorem up2 {n k : Nat} (h : n ≤ 1000 * k) : n + 1 + 1 ≤ 1000 * (k + 1) := by omega
theorem upl {a c k : Nat} (h1 : a ≤ c + 1) (h : c ≤ 1000 * k) : a ≤ 1000 * (k + 1) := by omega
theorem upl2 {a b c k : Nat} (h1 : a ≤ b + 1) (h2 : b ≤ c + 1) (h : c ≤ 1000 * k) : a ≤ 1000 * (k + 1) := by omega
namespace dedupApart
section
attribute [local go_sem ↓] lda_Call stz_Call
set_option maxRecDepth 100000 in
set_option maxHeartbeats 8000000 in
theorem walk' (W : World) (xs ys : List GCall) (aA : Option Addr) (cA : Nat) (aB : Option Addr) (cB : Nat) (hA : rList rGCall W (· < W.heap.size) [.slice aA xs.length cA] xs) (hB : rList rGCall W (· < W.heap.size) [.slice aB ys.length cB] ys) :
    Calls Try.prog 4 #[.slice aA xs.length cA, .slice aB ys.length cB] W fun e w' => e = .returned (.bool true) ∧ Keep Nix W w' := by
  have HA := Lib.hid hA
  have HB := Lib.hid hB
  obtain ⟨-, -, hfa⟩ := rList_len hA
  obtain ⟨-, -, hfb⟩ := rList_len hB
  have mA : xs.length ≤ 140737488351232 := hfa
  have mB : ys.length ≤ 140737488351232 := hfb
  clear hA hB hfa hfb
  go_enter Try.func4, Try.ntmps4
  go_wp2_with fail
  have row0 := RowIs.alloc W #[.slice none 0 0] 27
  go_fit (new_c W.heap.size _ (IsTape.made row0))
  rintro e w1 ⟨bD, O1, rfl, m1, hO, k1⟩
  have kk : Keep Nix W w1 := ((Keep.refl Nix W).alloc _).trans k1
  have g1 : Hid (∀ b, O1 b → W.heap.size ≤ b) := fun b hb => (hO b hb).elim (fun e => by omega) (fun h => by simp at h; omega)
  clear k1 row0 hO
  go_wp2_with fail
  have row0 := RowIs.alloc w1 #[.slice none 0 0] 27
  go_fit (new_c w1.heap.size _ (IsTape.made row0))
  rintro e w2 ⟨bF, O2, rfl, m2, hO, k2⟩
  have k12 : Keep Nix w1 w2 := ((Keep.refl Nix w1).alloc _).trans k2
  have g2' : ∀ b, O2 b → w1.heap.size ≤ b := fun b hb => (hO b hb).elim (fun e => by omega) (fun h => by simp at h; omega)
  have g2 : Hid (∀ b, O2 b → W.heap.size ≤ b) := fun b hb => Nat.le_trans kk.size (g2' b hb)
  have gd : Hid (∀ b, O1 b → ¬ O2 b) := fun b h1 h2 => by have := m1.lt b h1; have := g2' b h2; omega
  replace m1 := m1.keep k12 (fun _ _ => id)
  replace kk := kk.trans k12
  clear k2 k12 row0 hO g2'
  go_wp2_with fail
  go_fit (dawake_c w2)
  rintro e w3 ⟨rfl, k3⟩
  replace m1 := m1.keep k3 (fun _ _ => id)
  replace m2 := m2.keep k3 (fun _ _ => id)
  replace kk := kk.trans k3
  clear k3
  obtain ⟨bU, hbU⟩ : ∃ bU, w1.heap.size = bU := ⟨_, rfl⟩
  rw [hbU] at m2
  have sim : Hid (Sim ((fun _ => none : Last) 3) ((fun _ => none : Last) 3)) := ⟨rfl, rfl, rfl, rfl⟩
  go_wp2_with fail
  clear hbU
  go_loopw [7] (fun i wr => ∃ (k n1 n2 : Nat) (O1 O2 : Nat → Prop) (tp1 tp2 : List (List UInt8)) (last1 last2 : Last), i = .int .i64 k ∧ k ≤ 20 ∧ n1 ≤ 1000 * k ∧ n2 ≤ 1000 * k ∧ tp1.length ≤ 1000 * k ∧ tp2.length ≤ 1000 * k ∧
    Mach wr O1 bD W.heap.size n1 tp1 last1 ∧ Mach wr O2 bF bU n2 tp2 last2 ∧ Hid (∀ b, O1 b → W.heap.size ≤ b) ∧ Hid (∀ b, O2 b → W.heap.size ≤ b) ∧ Hid (∀ b, O1 b → ¬ O2 b) ∧ Hid (Sim (last1 3) (last2 3)) ∧ Keep Nix W wr) (fun i _ => 20 - (intOf i).toNat)
  case atStart => exact ⟨0, 0, 0, O1, O2, [], [], _, _, rfl, by decide, by decide, by decide, by decide, by decide, m1, m2, g1, g2, gd, sim, kk⟩
  case round =>
    clear m1 m2 g1 g2 gd sim kk
    obtain ⟨k, n1, n2, O1, O2, tp1, tp2, last1, last2, rfl, hk, hn1, hn2, ht1, ht2, m1, m2, g1, g2, gd, sim, kk⟩ := hrel
    by_cases hx : k < xs.length
    · by_cases h20 : k < 20
      · have hi0 : (0 : Int) ≤ (k : Int) := by omega
        have hi1 : (k : Int) < (xs.length : Int) := by omega
        obtain ⟨b, o, cc, cs, e1, hbW, hb, r, hcl⟩ := rList_at rGCall_lawful (by decide) ((rList_lawful rGCall_lawful).nix HA.out kk) k hx
        simp only [List.cons.injEq, Value.slice.injEq, and_true] at e1
        obtain ⟨rfl, -, -⟩ := e1
        generalize xs[k] = c at r
        obtain ⟨ac, cd, rfl, hc0, hcs, ⟨lc, hcc, hcf⟩, -⟩ := rGCall_open r
        have ld := Whole.at (P := Try.prog) S_Call rfl hcl
        unfold Whole at ld
        have hst := store_run (P := Try.prog) (cs := [.int .u64 c.fClient, .int .u64 c.fSeq, .slice ac c.fData.length cd]) S_Call (RowIs.alloc wr #[.int .u64 0, .int .u64 0, .slice none 0 0] 35) rfl rfl rfl
        have rowC := (RowIs.alloc wr #[.int .u64 0, .int .u64 0, .slice none 0 0] 35).setRow [.int .u64 c.fClient, .int .u64 c.fSeq, .slice ac c.fData.length cd]
        have kA : Keep Nix wr ((wr.alloc (.cells #[.int .u64 0, .int .u64 0, .slice none 0 0] 35)).setRow wr.heap.size [.int .u64 c.fClient, .int .u64 c.fSeq, .slice ac c.fData.length cd].toArray) := ((Keep.refl Nix wr).alloc (.cells #[.int .u64 0, .int .u64 0, .slice none 0 0] 35)).setRow (fun h => absurd h (Nat.lt_irrefl _)) _
        have hbc : W.heap.size ≤ wr.heap.size := kk.size
        have gc : Hid (∀ b, O1 b ∨ O2 b → b < wr.heap.size) := fun b hb => hb.elim (m1.lt b) (m2.lt b)
        have lcW := lc.keep kA (fun _ _ => id)
        replace m1 := m1.keep kA (fun _ _ => id)
        replace m2 := m2.keep kA (fun _ _ => id)
        replace kk := kk.trans kA
        clear r hcl lc kA
        have x0 := rowC.cell 0
        (try simp only [List.getElem?_cons_succ] at x0); (try simp only [List.getElem?_cons_zero] at x0)
        have f0 := rowC.frozen 0
        have rowC2 := rowC.set 0 (.int .u64 3)
        simp only [List.set_cons_zero] at rowC2
        have kB := (Keep.refl (fun b => b = wr.heap.size) ((wr.alloc (.cells #[.int .u64 0, .int .u64 0, .slice none 0 0] 35)).setRow wr.heap.size [.int .u64 c.fClient, .int .u64 c.fSeq, .slice ac c.fData.length cd].toArray)).setCell (p := ⟨wr.heap.size, 0, none⟩) (fun _ => rfl) (.int .u64 3)
        replace m1 := m1.keep kB (fun b hb e => by have := gc.out b (.inl hb); omega)
        replace m2 := m2.keep kB (fun b hb e => by have := gc.out b (.inr hb); omega)
        replace lcW := lcW.keep kB (fun b hb e => by have : b < W.heap.size := hb; omega)
        replace kk := kk.then kB (fun i hi e => by omega)
        have hb35 : ∀ w', (Instr.build 35 #[]).run Try.prog w' = .ok (.agg #[.int .u64 0, .int .u64 0, .slice none 0 0]) w' := fun w' => by kernel_rfl
        clear kB rowC
        go_wp2_with fail
        clear ld hst x0 f0
        have hszB : wr.heap.size + 1 = (((wr.alloc (.cells #[.int .u64 0, .int .u64 0, .slice none 0 0] 35)).setRow wr.heap.size [.int .u64 c.fClient, .int .u64 c.fSeq, .slice ac c.fData.length cd].toArray).setCell ⟨wr.heap.size, 0, none⟩ (.int .u64 3)).heap.size := by simp [World.setRow, World.setCell]
        generalize (((wr.alloc (.cells #[.int .u64 0, .int .u64 0, .slice none 0 0] 35)).setRow wr.heap.size [.int .u64 c.fClient, .int .u64 c.fSeq, .slice ac c.fData.length cd].toArray).setCell ⟨wr.heap.size, 0, none⟩ (.int .u64 3)) = wb at *
        generalize wr.heap.size = bc at *
        have rowX := RowIs.alloc_at wb (bc + 1) hszB.symm #[.int .u64 0, .int .u64 0, .slice none 0 0] 35
        have hst := store_run (P := Try.prog) (cs := [.int .u64 0, .int .u64 0, .slice none 0 0]) S_Call rowX rfl rfl rfl
        replace rowX := rowX.setRow [.int .u64 0, .int .u64 0, .slice none 0 0]
        have kC : Keep Nix wb ((wb.alloc (.cells #[.int .u64 0, .int .u64 0, .slice none 0 0] 35)).setRow (bc + 1) [.int .u64 0, .int .u64 0, .slice none 0 0].toArray) := ((Keep.refl Nix wb).alloc (.cells #[.int .u64 0, .int .u64 0, .slice none 0 0] 35)).setRow (fun h => by omega) _
        have rowC := rowC2.keep kC id
        replace m1 := m1.keep kC (fun _ _ => id)
        replace m2 := m2.keep kC (fun _ _ => id)
        replace lcW := lcW.keep kC (fun _ _ => id)
        replace kk := kk.trans kC
        clear kC rowC2 hszB
        go_simp
        clear hst
        by_cases hy : k < ys.length
        · have hj1 : (k : Int) < (ys.length : Int) := by omega
          obtain ⟨b2, o2, cc2, cs2, e2, hb2W, hb2, r2, hcl2⟩ := rList_at rGCall_lawful (by decide) ((rList_lawful rGCall_lawful).nix HB.out kk) k hy
          simp only [List.cons.injEq, Value.slice.injEq, and_true] at e2
          obtain ⟨rfl, -, -⟩ := e2
          generalize ys[k] = x at r2
          obtain ⟨ax, cx, rfl, hx0, hxs, ⟨lx, hxc, hxf⟩, -⟩ := rGCall_open r2
          have ld2 := Whole.at (P := Try.prog) S_Call rfl hcl2
          unfold Whole at ld2
          have hst2 := store_run (P := Try.prog) (cs := [.int .u64 x.fClient, .int .u64 x.fSeq, .slice ax x.fData.length cx]) S_Call rowX rfl rfl rfl
          have rowX2 := rowX.setRow [.int .u64 x.fClient, .int .u64 x.fSeq, .slice ax x.fData.length cx]
          have y0 := rowX2.cell 0
          (try simp only [List.getElem?_cons_succ] at y0); (try simp only [List.getElem?_cons_zero] at y0)
          have g0 := rowX2.frozen 0
          have rowX3 := rowX2.set 0 (.int .u64 4)
          simp only [List.set_cons_zero] at rowX3
          have kD := ((Keep.refl (fun b => b = bc + 1) ((wb.alloc (.cells #[.int .u64 0, .int .u64 0, .slice none 0 0] 35)).setRow (bc + 1) [.int .u64 0, .int .u64 0, .slice none 0 0].toArray)).setRow (g := bc + 1) (fun _ => rfl) [.int .u64 x.fClient, .int .u64 x.fSeq, .slice ax x.fData.length cx].toArray).setCell (p := ⟨bc + 1, 0, none⟩) (fun _ => rfl) (.int .u64 4)
          replace m1 := m1.keep kD (fun b hb e => by have := gc.out b (.inl hb); omega)
          replace m2 := m2.keep kD (fun b hb e => by have := gc.out b (.inr hb); omega)
          replace lcW := lcW.keep kD (fun b hb e => by have : b < W.heap.size := hb; omega)
          replace lx := lx.keep kD (fun b hb e => by have : b < W.heap.size := hb; omega)
          replace kk := kk.then kD (fun i hi e => by omega)
          replace rowC := rowC.keep kD (by omega)
          clear kD r2 hcl2 rowX rowX2
          have c2 := rowC.cell 2
          (try simp only [List.getElem?_cons_succ] at c2); (try simp only [List.getElem?_cons_zero] at c2)
          have x2 := rowX3.cell 2
          (try simp only [List.getElem?_cons_succ] at x2); (try simp only [List.getElem?_cons_zero] at x2)
          by_cases hlc : c.fData.length ≤ 200
          · by_cases hlx : x.fData.length ≤ 200
            · go_wp2_with fail
              clear ld2 hst2 y0 g0 c2 x2
              generalize ((((wb.alloc (.cells #[.int .u64 0, .int .u64 0, .slice none 0 0] 35)).setRow (bc + 1) [.int .u64 0, .int .u64 0, .slice none 0 0].toArray).setRow (bc + 1) [.int .u64 x.fClient, .int .u64 x.fSeq, .slice ax x.fData.length cx].toArray).setCell ⟨bc + 1, 0, none⟩ (.int .u64 4)) = wx at *
              obtain ⟨X, rX, hX3, hXc, hXs, hXl, lX, hXx⟩ : ∃ X : GCall, RowIs wx (bc + 1) 35 [.int .u64 X.fClient, .int .u64 X.fSeq, .slice ax X.fData.length cx] ∧ X.fClient ≠ 3 ∧ isU64 X.fClient ∧ isU64 X.fSeq ∧ X.fData.length ≤ 200 ∧ Lies wx (· < W.heap.size) ax (X.fData.map bv) ∧ X.fData.length ≤ cx :=
                ⟨⟨4, x.fSeq, x.fData⟩, rowX3, (by decide : (4 : Int) ≠ 3), (⟨by decide, by decide⟩ : isU64 4), hxs, hlx, lx, hxc⟩
              clear lx hxc hxf hxs hx0 hlx rowX3
              have hbx := rX.lt
              have ldx := Whole.row (P := Try.prog) (T := 35) S_Call rfl rX
              unfold Whole at ldx
              have hXr : rGCall wx (· < wx.heap.size) [.int .u64 X.fClient, .int .u64 X.fSeq, .slice ax X.fData.length cx] X :=
                ⟨[_], [_], [_], rfl, ⟨rfl, wf_of_u64 hXc⟩, ⟨rfl, wf_of_u64 hXs⟩, ax, cx, rfl, lX.mono (fun b hb => Nat.lt_of_lt_of_le hb kk.size), hXx, by unfold far; omega⟩
              have HEX := Lib.hid (enc_small X (by omega))
              have HCX := oTCall_c wx (· < wx.heap.size) (fun b hb => hb) X _ hXr (by have := HEX.out; unfold far; omega)
              have HCX := Lib.hid HCX
              have HTX := Lib.hid (takeCall X (ok_call hXc hXs (by show _ ≤ _; omega)))
              have HXn := Lib.hid hX3
              have hl3 := Lib.hid hlc
              clear hXr hXc hXs hXl hXx lX rX hX3
              go_simp
              clear ldx
              go_wp2_with fail
              go_fit HCX.out
              rintro e w1 ⟨a1, c1, rfl, own1, k1⟩
              replace m1 := m1.keep k1 (fun _ _ => id)
              replace m2 := m2.keep k1 (fun _ _ => id)
              replace rowC := rowC.keep k1 id
              replace lcW := lcW.keep k1 (fun _ _ => id)
              replace kk := kk.trans k1
              have hd1 := do_ok O1 bD W.heap.size n1 tp1 last1 a1 _ c1 (encGCall X) X w1 rfl (Lies.of_owned own1) (by have := HEX.out; omega) m1 (by omega) (by omega) HTX.out
              have hd1 := Lib.hid hd1
              clear HCX own1 k1 hbx
              go_wp2_with fail
              go_fit hd1.out
              rintro e w2 ⟨a2, c2, mm2, P1, rfl, -, -, -, m1', k2, hP1, -⟩
              have e3 := Lib.hid (do_other (tp := tp1) (l := last1) (c := X) (fun e => HXn.out e.symm) : (doS tp1 last1 X).2.1 3 = last1 3)
              have hl1 := do_len tp1 last1 X
              have hbc1 := rowC.lt
              clear m1 hd1
              generalize doS tp1 last1 X = Y at *
              replace m2 := m2.keep k2 (fun b hb h => gd.out b h hb)
              replace rowC := rowC.keep k2 (fun h => by have := gc.out bc (.inl h); omega)
              replace lcW := lcW.keep k2 (fun b hb h => by have : b < W.heap.size := hb; have := g1.out b h; omega)
              have kk2 := kk.then k2 (fun i hi h => by have := g1.out i h; omega)
              have gP : Hid (∀ b, P1 b → W.heap.size ≤ b ∧ b ≠ bc ∧ ¬ O2 b) := fun b hb => (hP1 b hb).1.elim (fun h => ⟨g1.out b h, by have := gc.out b (.inl h); omega, gd.out b h⟩) (fun h => ⟨Nat.le_trans kk.size h, by omega, fun h2 => by have := gc.out b (.inr h2); omega⟩)
              have gO2 : Hid (∀ b, O2 b → b < bc) := fun b hb => gc.out b (.inr hb)
              clear hP1 k2 kk gd g1 gc HEX HTX
              have hC3 : isU64 3 := ⟨by decide, by decide⟩
              obtain ⟨C, hC⟩ : ∃ C : GCall, C = ⟨3, c.fSeq, c.fData⟩ := ⟨_, rfl⟩
              have rC : ∀ w', Lies w' (· < W.heap.size) ac (c.fData.map bv) → W.heap.size ≤ w'.heap.size → rGCall w' (· < w'.heap.size) [.int .u64 3, .int .u64 c.fSeq, .slice ac c.fData.length cd] C := fun w' hl hs => by
                subst hC
                exact ⟨[_], [_], [_], rfl, ⟨rfl, wf_of_u64 hC3⟩, ⟨rfl, wf_of_u64 hcs⟩, ac, cd, rfl, hl.mono (fun b hb => Nat.lt_of_lt_of_le hb hs), hcc, hcf⟩
              have HEC := Lib.hid (enc_small C (by subst hC; show c.fData.length ≤ 400; have := hl3.out; omega))
              have HTC := Lib.hid (takeCall C (by subst hC; exact ok_call hC3 hcs (by show _ ≤ _; have := hl3.out; omega)))
              have hcl : C.fClient = 3 := by subst hC; rfl
              have HRC := Lib.hid rC
              clear hC rC
              go_wp2_with fail
              have m1 := m1'.keep (Keep.drew (Keep.refl Nix w2)) (fun _ _ => id)
              have m2 := m2.keep (Keep.drew (Keep.refl Nix w2)) (fun _ _ => id)
              have rowC := rowC.same (w' := w2.drew)
              have lcW := lcW.same (w' := w2.drew)
              have kk := kk2.drew
              clear m1' kk2
              have ldc := Whole.row (P := Try.prog) (T := 35) S_Call rfl rowC
              unfold Whole at ldc
              refine wp_region_held_drew (S := (fun w' => (wholeSem 35 (.pointer (some ⟨bc, 0, none⟩))).run Try.prog w' = .ok (.value (.agg #[.int .u64 3, .int .u64 c.fSeq, .slice ac c.fData.length cd])) w')) (by kernel_rfl) (ldc) (fun hHeld => ?_)
              refine wpAnyH_take (i := 0) (v := ?_) rfl (by kernel_rfl) (by kernel_rfl) (by kernel_rfl) (fun _ _ _ h => h) (Or.inl ⟨by kernel_rfl, ?_⟩) hHeld ?_
              rotate_left
              · intro w' hSw
                (try dsimp only at hSw)
                (try simp only [List.getElem_toArray]); (try simp only [List.getElem_cons_succ]); (try simp only [List.getElem_cons_zero])
                go_simp
                try with_reducible rfl
              (try simp only [Act.put]); (try simp only [List.getElem_toArray]); (try simp only [List.getElem_cons_succ]); (try simp only [List.getElem_cons_zero]); (try simp only [List.setIfInBounds_toArray]); (try simp only [List.set_cons_succ]); (try simp only [List.set_cons_zero])
              refine wpAnyH_take (i := 1) (v := ?_) rfl (by kernel_rfl) (by kernel_rfl) (by kernel_rfl) (fun _ _ _ h => h) (Or.inl ⟨by kernel_rfl, ?_⟩) hHeld ?_
              rotate_left
              · intro w' hSw
                (try dsimp only at hSw)
                (try simp only [List.getElem_toArray]); (try simp only [List.getElem_cons_succ]); (try simp only [List.getElem_cons_zero])
                go_simp
                try with_reducible rfl
              (try simp only [Act.put]); (try simp only [List.getElem_toArray]); (try simp only [List.getElem_cons_succ]); (try simp only [List.getElem_cons_zero]); (try simp only [List.setIfInBounds_toArray]); (try simp only [List.set_cons_succ]); (try simp only [List.set_cons_zero])
              refine wpAnyH_take (i := 4) (v := ?_) rfl (by kernel_rfl) (by kernel_rfl) (by kernel_rfl) (fun _ _ _ h => h) (Or.inl ⟨by kernel_rfl, ?_⟩) hHeld ?_
              rotate_left
              · intro w' hSw
                (try dsimp only at hSw)
                (try simp only [List.getElem_toArray]); (try simp only [List.getElem_cons_succ]); (try simp only [List.getElem_cons_zero])
                go_simp
                try with_reducible rfl
              (try simp only [Act.put]); (try simp only [List.getElem_toArray]); (try simp only [List.getElem_cons_succ]); (try simp only [List.getElem_cons_zero]); (try simp only [List.setIfInBounds_toArray]); (try simp only [List.set_cons_succ]); (try simp only [List.set_cons_zero])
              refine wpAnyH_take (i := 5) (v := ?_) rfl (by kernel_rfl) (by kernel_rfl) (by kernel_rfl) (fun _ _ _ h => h) (Or.inl ⟨by kernel_rfl, ?_⟩) hHeld ?_
              rotate_left
              · intro w' hSw
                (try dsimp only at hSw)
                (try simp only [List.getElem_toArray]); (try simp only [List.getElem_cons_succ]); (try simp only [List.getElem_cons_zero])
                go_simp
                try with_reducible rfl
              (try simp only [Act.put]); (try simp only [List.getElem_toArray]); (try simp only [List.getElem_cons_succ]); (try simp only [List.getElem_cons_zero]); (try simp only [List.setIfInBounds_toArray]); (try simp only [List.set_cons_succ]); (try simp only [List.set_cons_zero])
              have HC2 := oTCall_c w2.drew (· < w2.drew.heap.size) (fun b hb => hb) C _ (HRC.out _ lcW kk.size) (by have := HEC.out; unfold far; omega)
              have HC2 := Lib.hid HC2
              refine wpAnyH_ready (rs := [2]) (by kernel_rfl) (by simp) ?_
              refine AllReadyH.cons rfl (fun K hK => ?_) AllReadyH.nil
              go_simp
              go_fit HC2.out
              rintro e w3 ⟨a3, c3, rfl, own3, k3⟩
              replace m1 := m1.keep k3 (fun _ _ => id)
              replace m2 := m2.keep k3 (fun _ _ => id)
              replace rowC := rowC.keep k3 id
              replace lcW := lcW.keep k3 (fun _ _ => id)
              replace kk := kk.trans k3
              clear ldc HC2 k3
              have ldc := Whole.row (P := Try.prog) (T := 35) S_Call rfl rowC
              unfold Whole at ldc
              have hd3 := do_ok P1 bD W.heap.size (n1 + 1) Y.1 Y.2.1 a3 _ c3 (encGCall C) C w3 rfl (Lies.of_owned own3) (by have := HEC.out; omega) m1 (by omega) (by omega) HTC.out
              have hd3 := Lib.hid hd3
              clear own3
              go_wp2_with fail
              refine hK.out _ _ (ldc) (fun hHeld => ?_)
              clear hK K
              (try simp only [Act.put]); (try simp only [List.getElem_toArray]); (try simp only [List.getElem_cons_succ]); (try simp only [List.getElem_cons_zero]); (try simp only [List.setIfInBounds_toArray]); (try simp only [List.set_cons_succ]); (try simp only [List.set_cons_zero])
              refine wpAnyH_ready (rs := [3]) (by kernel_rfl) (by simp) ?_
              refine AllReadyH.cons rfl (fun K hK => ?_) AllReadyH.nil
              go_simp
              go_fit hd3.out
              rintro e w4 ⟨a4, c4, mm4, Q1, rfl, hmm4, -, own4, m1', k4, hQ1, -⟩
              have hbc3 := rowC.lt
              have ho4 := own4.lt
              replace m2 := m2.keep k4 (fun b hb h => (gP.out b h).2.2 hb)
              replace rowC := rowC.keep k4 (fun h => (gP.out bc h).2.1 rfl)
              replace lcW := lcW.keep k4 (fun b hb h => by have : b < W.heap.size := hb; have := (gP.out b h).1; omega)
              have gQ : Hid (∀ b, Q1 b → W.heap.size ≤ b ∧ ¬ O2 b) := fun b hb => (hQ1 b hb).1.elim (fun h => ⟨(gP.out b h).1, (gP.out b h).2.2⟩) (fun h => ⟨Nat.le_trans kk.size h, fun h2 => by have := gO2.out b h2; omega⟩)
              replace kk := kk.then k4 (fun i hi h => by have := (gP.out i h).1; omega)
              clear hd3 m1 k4 ldc hQ1
              have ldc := Whole.row (P := Try.prog) (T := 35) S_Call rfl rowC
              unfold Whole at ldc
              have HC4 := oTCall_c w4 (· < w4.heap.size) (fun b hb => hb) C _ (HRC.out _ lcW kk.size) (by have := HEC.out; unfold far; omega)
              have HC4 := Lib.hid HC4
              go_wp2_with fail
              refine hK.out _ _ (ldc) (fun hHeld => ?_)
              clear hK K
              (try simp only [Act.put]); (try simp only [List.getElem_toArray]); (try simp only [List.getElem_cons_succ]); (try simp only [List.getElem_cons_zero]); (try simp only [List.setIfInBounds_toArray]); (try simp only [List.set_cons_succ]); (try simp only [List.set_cons_zero])
              refine wpAnyH_ready (rs := [6]) (by kernel_rfl) (by simp) ?_
              refine AllReadyH.cons rfl (fun K hK => ?_) AllReadyH.nil
              go_simp
              go_fit HC4.out
              rintro e w5 ⟨a5, c5, rfl, own5, k5⟩
              have hlo5 := own5.lt
              replace m1' := m1'.keep k5 (fun _ _ => id)
              replace m2 := m2.keep k5 (fun _ _ => id)
              replace rowC := rowC.keep k5 id
              replace own4 := owned_keep own4 k5 (fun _ _ => id)
              replace kk := kk.trans k5
              clear ldc HC4
              have ldc := Whole.row (P := Try.prog) (T := 35) S_Call rfl rowC
              unfold Whole at ldc
              have hd5 := do_ok O2 bF bU n2 tp2 last2 a5 _ c5 (encGCall C) C w5 rfl (Lies.of_owned own5) (by have := HEC.out; omega) m2 (by omega) (by omega) HTC.out
              have hd5 := Lib.hid hd5
              clear own5 k5
              go_wp2_with fail
              refine hK.out _ _ (ldc) (fun hHeld => ?_)
              clear hK K
              (try simp only [Act.put]); (try simp only [List.getElem_toArray]); (try simp only [List.getElem_cons_succ]); (try simp only [List.getElem_cons_zero]); (try simp only [List.setIfInBounds_toArray]); (try simp only [List.set_cons_succ]); (try simp only [List.set_cons_zero])
              refine wpAnyH_ready (rs := [7]) (by kernel_rfl) (by simp) ?_
              refine AllReadyH.cons rfl (fun K hK => ?_) AllReadyH.nil
              go_simp
              go_fit hd5.out
              rintro e w6 ⟨a6, c6, mm6, Q2, rfl, hmm6, -, own6, m2', k6, hQ2, -⟩
              have hb5 := rowC.lt
              have gQ2 : Hid (∀ b, Q2 b → W.heap.size ≤ b) := fun b hb => (hQ2 b hb).1.elim (g2.out b) (fun h => Nat.le_trans kk.size h)
              have gd2 : Hid (∀ b, Q1 b → ¬ Q2 b) := fun b h1 h2 => (hQ2 b h2).1.elim ((gQ.out b h1).2) (fun h => by have := m1'.lt b h1; omega)
              have m1 := m1'.keep k6 (fun b hb h => (gQ.out b hb).2 h)
              replace rowC := rowC.keep k6 (fun h => by have := gO2.out bc h; omega)
              replace own4 := owned_keep own4 k6 (fun b hb h => by have := (ho4 b hb).1; have := gO2.out b h; omega)
              replace kk := kk.then k6 (fun i hi h => by have := g2.out i h; omega)
              clear hd5 m2 ldc k6 hQ2 m1'
              have ldc := Whole.row (P := Try.prog) (T := 35) S_Call rfl rowC
              unfold Whole at ldc
              go_wp2_with fail
              refine hK.out _ _ (ldc) (fun hHeld => ?_)
              clear hK K
              (try simp only [Act.put]); (try simp only [List.getElem_toArray]); (try simp only [List.getElem_cons_succ]); (try simp only [List.getElem_cons_zero]); (try simp only [List.setIfInBounds_toArray]); (try simp only [List.set_cons_succ]); (try simp only [List.set_cons_zero])
              refine wpAnyH_take (i := 8) (v := ?_) rfl (by kernel_rfl) (by kernel_rfl) (by kernel_rfl) (fun _ _ _ h => h) (Or.inl ⟨by kernel_rfl, ?_⟩) hHeld ?_
              rotate_left
              · intro w' hSw
                (try dsimp only at hSw)
                (try simp only [List.getElem_toArray]); (try simp only [List.getElem_cons_succ]); (try simp only [List.getElem_cons_zero])
                go_simp
                try with_reducible rfl
              (try simp only [Act.put]); (try simp only [List.getElem_toArray]); (try simp only [List.getElem_cons_succ]); (try simp only [List.getElem_cons_zero]); (try simp only [List.setIfInBounds_toArray]); (try simp only [List.set_cons_succ]); (try simp only [List.set_cons_zero])
              refine wpAnyH_take (i := 9) (v := ?_) rfl (by kernel_rfl) (by kernel_rfl) (by kernel_rfl) (fun _ _ _ h => h) (Or.inl ⟨by kernel_rfl, ?_⟩) hHeld ?_
              rotate_left
              · intro w' hSw
                (try dsimp only at hSw)
                (try simp only [List.getElem_toArray]); (try simp only [List.getElem_cons_succ]); (try simp only [List.getElem_cons_zero])
                go_simp
                try with_reducible rfl
              (try simp only [Act.put]); (try simp only [List.getElem_toArray]); (try simp only [List.getElem_cons_succ]); (try simp only [List.getElem_cons_zero]); (try simp only [List.setIfInBounds_toArray]); (try simp only [List.set_cons_succ]); (try simp only [List.set_cons_zero])
              refine wpAnyH_done (by kernel_rfl) ?_ _
              clear hHeld ldc HRC HEC HTC lcW
              have hsd := sim_do (tp1 := Y.1) (tp2 := tp2) (l1 := Y.2.1) (l2 := last2) (c := C) (by rw [hcl, e3.out]; exact sim.out)
              rw [hcl] at hsd
              obtain ⟨sm, hPQ, hdr⟩ := hsd
              have hlA := do_len Y.1 Y.2.1 C
              have hlB := do_len tp2 last2 C
              generalize doS Y.1 Y.2.1 C = A at *
              generalize doS tp2 last2 C = B at *
              obtain ⟨_, hcA, _⟩ := owned_bounds own4
              obtain ⟨_, hcB, _⟩ := owned_bounds own6
              have SM := Lib.hid sm
              have HT := Lib.hid (told_sim (s := c.fSeq) sm)
              clear sm sim e3 hcl
              rw [← hPQ] at own6 hcB ⊢
              have HPQ := Lib.hid hPQ
              have HDR := Lib.hid hdr
              clear hPQ hdr
              generalize A.2.2 = pl at *
              generalize B.2.2 = ql at *
              go_wp2_with fail
              have kk := kk.drew
              have m1 := m1.keep (Keep.drew (Keep.refl Nix w6)) (fun _ _ => id)
              have m2 := m2'.keep (Keep.drew (Keep.refl Nix w6)) (fun _ _ => id)
              have rowC := rowC.same (w' := w6.drew)
              have lp := (Lies.of_owned own4).same (w' := w6.drew)
              have lq := (Lies.of_owned own6).same (w' := w6.drew)
              clear own4 own6 m2'
              by_cases h2 : 2 < pl.length
              · have h2' : (2 : Int) < (pl.length : Int) := by omega
                have hc4 : (pl.length : Int) ≤ (c4 : Int) := by omega
                have hc6 : (pl.length : Int) ≤ (c6 : Int) := by omega
                have h22 : (2 : Int) ≤ (pl.length : Int) := by omega
                refine wp_region_held_drew (S := (fun _ => True)) (by kernel_rfl) (trivial) (fun hHeld => ?_)
                refine wpAnyH_take (i := 0) (v := ?_) rfl (by kernel_rfl) (by kernel_rfl) (by kernel_rfl) (fun _ _ _ h => h) (Or.inl ⟨by kernel_rfl, ?_⟩) hHeld ?_
                rotate_left
                · intro w' hSw
                  (try dsimp only at hSw)
                  (try simp only [List.getElem_toArray]); (try simp only [List.getElem_cons_succ]); (try simp only [List.getElem_cons_zero])
                  go_simp
                  try with_reducible rfl
                (try simp only [Act.put]); (try simp only [List.getElem_toArray]); (try simp only [List.getElem_cons_succ]); (try simp only [List.getElem_cons_zero]); (try simp only [List.setIfInBounds_toArray]); (try simp only [List.set_cons_succ]); (try simp only [List.set_cons_zero])
                refine wpAnyH_take (i := 1) (v := ?_) rfl (by kernel_rfl) (by kernel_rfl) (by kernel_rfl) (fun _ _ _ h => h) (Or.inl ⟨by kernel_rfl, ?_⟩) hHeld ?_
                rotate_left
                · intro w' hSw
                  (try dsimp only at hSw)
                  (try simp only [List.getElem_toArray]); (try simp only [List.getElem_cons_succ]); (try simp only [List.getElem_cons_zero])
                  go_simp
                  try with_reducible rfl
                (try simp only [Act.put]); (try simp only [List.getElem_toArray]); (try simp only [List.getElem_cons_succ]); (try simp only [List.getElem_cons_zero]); (try simp only [List.setIfInBounds_toArray]); (try simp only [List.set_cons_succ]); (try simp only [List.set_cons_zero])
                refine wpAnyH_take (i := 2) (v := ?_) rfl (by kernel_rfl) (by kernel_rfl) (by kernel_rfl) (fun _ _ _ h => h) (Or.inl ⟨by kernel_rfl, ?_⟩) hHeld ?_
                rotate_left
                · intro w' hSw
                  (try dsimp only at hSw)
                  (try simp only [List.getElem_toArray]); (try simp only [List.getElem_cons_succ]); (try simp only [List.getElem_cons_zero])
                  go_simp
                  try with_reducible rfl
                (try simp only [Act.put]); (try simp only [List.getElem_toArray]); (try simp only [List.getElem_cons_succ]); (try simp only [List.getElem_cons_zero]); (try simp only [List.setIfInBounds_toArray]); (try simp only [List.set_cons_succ]); (try simp only [List.set_cons_zero])
                refine wpAnyH_take (i := 3) (v := ?_) rfl (by kernel_rfl) (by kernel_rfl) (by kernel_rfl) (fun _ _ _ h => h) (Or.inl ⟨by kernel_rfl, ?_⟩) hHeld ?_
                rotate_left
                · intro w' hSw
                  (try dsimp only at hSw)
                  (try simp only [List.getElem_toArray]); (try simp only [List.getElem_cons_succ]); (try simp only [List.getElem_cons_zero])
                  go_simp
                  try with_reducible rfl
                (try simp only [Act.put]); (try simp only [List.getElem_toArray]); (try simp only [List.getElem_cons_succ]); (try simp only [List.getElem_cons_zero]); (try simp only [List.setIfInBounds_toArray]); (try simp only [List.set_cons_succ]); (try simp only [List.set_cons_zero])
                refine wpAnyH_take (i := 4) (v := ?_) rfl (by kernel_rfl) (by kernel_rfl) (by kernel_rfl) (fun _ _ _ h => h) (Or.inl ⟨by kernel_rfl, ?_⟩) hHeld ?_
                rotate_left
                · intro w' hSw
                  (try dsimp only at hSw)
                  (try simp only [List.getElem_toArray]); (try simp only [List.getElem_cons_succ]); (try simp only [List.getElem_cons_zero])
                  go_simp
                  try with_reducible rfl
                (try simp only [Act.put]); (try simp only [List.getElem_toArray]); (try simp only [List.getElem_cons_succ]); (try simp only [List.getElem_cons_zero]); (try simp only [List.setIfInBounds_toArray]); (try simp only [List.set_cons_succ]); (try simp only [List.set_cons_zero])
                refine wpAnyH_take (i := 5) (v := ?_) rfl (by kernel_rfl) (by kernel_rfl) (by kernel_rfl) (fun _ _ _ h => h) (Or.inl ⟨by kernel_rfl, ?_⟩) hHeld ?_
                rotate_left
                · intro w' hSw
                  (try dsimp only at hSw)
                  (try simp only [List.getElem_toArray]); (try simp only [List.getElem_cons_succ]); (try simp only [List.getElem_cons_zero])
                  go_simp
                  try with_reducible rfl
                (try simp only [Act.put]); (try simp only [List.getElem_toArray]); (try simp only [List.getElem_cons_succ]); (try simp only [List.getElem_cons_zero]); (try simp only [List.setIfInBounds_toArray]); (try simp only [List.set_cons_succ]); (try simp only [List.set_cons_zero])
                refine wpAnyH_take (i := 6) (v := ?_) rfl (by kernel_rfl) (by kernel_rfl) (by kernel_rfl) (fun _ _ _ h => h) (Or.inl ⟨by kernel_rfl, ?_⟩) hHeld ?_
                rotate_left
                · intro w' hSw
                  (try dsimp only at hSw)
                  (try simp only [List.getElem_toArray]); (try simp only [List.getElem_cons_succ]); (try simp only [List.getElem_cons_zero])
                  go_simp
                  try with_reducible rfl
                (try simp only [Act.put]); (try simp only [List.getElem_toArray]); (try simp only [List.getElem_cons_succ]); (try simp only [List.getElem_cons_zero]); (try simp only [List.setIfInBounds_toArray]); (try simp only [List.set_cons_succ]); (try simp only [List.set_cons_zero])
                refine wpAnyH_take (i := 7) (v := ?_) rfl (by kernel_rfl) (by kernel_rfl) (by kernel_rfl) (fun _ _ _ h => h) (Or.inl ⟨by kernel_rfl, ?_⟩) hHeld ?_
                rotate_left
                · intro w' hSw
                  (try dsimp only at hSw)
                  (try simp only [List.getElem_toArray]); (try simp only [List.getElem_cons_succ]); (try simp only [List.getElem_cons_zero])
                  go_simp
                  try with_reducible rfl
                (try simp only [Act.put]); (try simp only [List.getElem_toArray]); (try simp only [List.getElem_cons_succ]); (try simp only [List.getElem_cons_zero]); (try simp only [List.setIfInBounds_toArray]); (try simp only [List.set_cons_succ]); (try simp only [List.set_cons_zero])
                refine wpAnyH_take (i := 8) (v := ?_) rfl (by kernel_rfl) (by kernel_rfl) (by kernel_rfl) (fun _ _ _ h => h) (Or.inl ⟨by kernel_rfl, ?_⟩) hHeld ?_
                rotate_left
                · intro w' hSw
                  (try dsimp only at hSw)
                  (try simp only [List.getElem_toArray]); (try simp only [List.getElem_cons_succ]); (try simp only [List.getElem_cons_zero])
                  go_simp
                  try with_reducible rfl
                (try simp only [Act.put]); (try simp only [List.getElem_toArray]); (try simp only [List.getElem_cons_succ]); (try simp only [List.getElem_cons_zero]); (try simp only [List.setIfInBounds_toArray]); (try simp only [List.set_cons_succ]); (try simp only [List.set_cons_zero])
                refine wpAnyH_take (i := 9) (v := ?_) rfl (by kernel_rfl) (by kernel_rfl) (by kernel_rfl) (fun _ _ _ h => h) (Or.inl ⟨by kernel_rfl, ?_⟩) hHeld ?_
                rotate_left
                · intro w' hSw
                  (try dsimp only at hSw)
                  (try simp only [List.getElem_toArray]); (try simp only [List.getElem_cons_succ]); (try simp only [List.getElem_cons_zero])
                  go_simp
                  try with_reducible rfl
                (try simp only [Act.put]); (try simp only [List.getElem_toArray]); (try simp only [List.getElem_cons_succ]); (try simp only [List.getElem_cons_zero]); (try simp only [List.setIfInBounds_toArray]); (try simp only [List.set_cons_succ]); (try simp only [List.set_cons_zero])
                refine wpAnyH_take (i := 10) (v := ?_) rfl (by kernel_rfl) (by kernel_rfl) (by kernel_rfl) (fun _ _ _ h => h) (Or.inl ⟨by kernel_rfl, ?_⟩) hHeld ?_
                rotate_left
                · intro w' hSw
                  (try dsimp only at hSw)
                  (try simp only [List.getElem_toArray]); (try simp only [List.getElem_cons_succ]); (try simp only [List.getElem_cons_zero])
                  go_simp
                  try with_reducible rfl
                (try simp only [Act.put]); (try simp only [List.getElem_toArray]); (try simp only [List.getElem_cons_succ]); (try simp only [List.getElem_cons_zero]); (try simp only [List.setIfInBounds_toArray]); (try simp only [List.set_cons_succ]); (try simp only [List.set_cons_zero])
                refine wpAnyH_take (i := 11) (v := ?_) rfl (by kernel_rfl) (by kernel_rfl) (by kernel_rfl) (fun _ _ _ h => h) (Or.inl ⟨by kernel_rfl, ?_⟩) hHeld ?_
                rotate_left
                · intro w' hSw
                  (try dsimp only at hSw)
                  (try simp only [List.getElem_toArray]); (try simp only [List.getElem_cons_succ]); (try simp only [List.getElem_cons_zero])
                  go_simp
                  try with_reducible rfl
                (try simp only [Act.put]); (try simp only [List.getElem_toArray]); (try simp only [List.getElem_cons_succ]); (try simp only [List.getElem_cons_zero]); (try simp only [List.setIfInBounds_toArray]); (try simp only [List.set_cons_succ]); (try simp only [List.set_cons_zero])
                refine wpAnyH_take (i := 12) (v := ?_) rfl (by kernel_rfl) (by kernel_rfl) (by kernel_rfl) (fun _ _ _ h => h) (Or.inl ⟨by kernel_rfl, ?_⟩) hHeld ?_
                rotate_left
                · intro w' hSw
                  (try dsimp only at hSw)
                  (try simp only [List.getElem_toArray]); (try simp only [List.getElem_cons_succ]); (try simp only [List.getElem_cons_zero])
                  go_simp
                  try with_reducible rfl
                (try simp only [Act.put]); (try simp only [List.getElem_toArray]); (try simp only [List.getElem_cons_succ]); (try simp only [List.getElem_cons_zero]); (try simp only [List.setIfInBounds_toArray]); (try simp only [List.set_cons_succ]); (try simp only [List.set_cons_zero])
                refine wpAnyH_take (i := 13) (v := ?_) rfl (by kernel_rfl) (by kernel_rfl) (by kernel_rfl) (fun _ _ _ h => h) (Or.inl ⟨by kernel_rfl, ?_⟩) hHeld ?_
                rotate_left
                · intro w' hSw
                  (try dsimp only at hSw)
                  (try simp only [List.getElem_toArray]); (try simp only [List.getElem_cons_succ]); (try simp only [List.getElem_cons_zero])
                  go_simp
                  try with_reducible rfl
                (try simp only [Act.put]); (try simp only [List.getElem_toArray]); (try simp only [List.getElem_cons_succ]); (try simp only [List.getElem_cons_zero]); (try simp only [List.setIfInBounds_toArray]); (try simp only [List.set_cons_succ]); (try simp only [List.set_cons_zero])
                refine wpAnyH_ready (rs := [14]) (by kernel_rfl) (by simp) ?_
                refine AllReadyH.cons rfl (fun K hK => ?_) AllReadyH.nil
                go_simp
                go_fit (bytes_c (if c4 = 2 then a4 else Option.map (fun x => x.add 2) a4) (if c6 = 2 then a6 else Option.map (fun x => x.add 2) a6) (pl.length - 2) (c4 - 2) (pl.length - 2) (c6 - 2) (pl.drop 2) (ql.drop 2) w6.drew (by simp) (by have := HPQ.out; simp; omega) (by rw [List.map_drop]; exact lp.cut c4 2 1 (by simpa using hcA)) (by rw [List.map_drop]; exact lq.cut c6 2 1 (by have := HPQ.out; simp; omega)))
                rintro e w7 ⟨rfl, rfl⟩
                rw [HDR.out]
                go_wp2_with fail
                refine hK.out _ _ (trivial) (fun hHeld => ?_)
                clear hK K
                (try simp only [Act.put]); (try simp only [List.getElem_toArray]); (try simp only [List.getElem_cons_succ]); (try simp only [List.getElem_cons_zero]); (try simp only [List.setIfInBounds_toArray]); (try simp only [List.set_cons_succ]); (try simp only [List.set_cons_zero])
                refine wpAnyH_take (i := 15) (v := ?_) rfl (by kernel_rfl) (by kernel_rfl) (by kernel_rfl) (fun _ _ _ h => h) (Or.inl ⟨by kernel_rfl, ?_⟩) hHeld ?_
                rotate_left
                · intro w' hSw
                  (try dsimp only at hSw)
                  (try simp only [List.getElem_toArray]); (try simp only [List.getElem_cons_succ]); (try simp only [List.getElem_cons_zero])
                  go_simp
                  try with_reducible rfl
                (try simp only [Act.put]); (try simp only [List.getElem_toArray]); (try simp only [List.getElem_cons_succ]); (try simp only [List.getElem_cons_zero]); (try simp only [List.setIfInBounds_toArray]); (try simp only [List.set_cons_succ]); (try simp only [List.set_cons_zero])
                refine wpAnyH_take (i := 16) (v := ?_) rfl (by kernel_rfl) (by kernel_rfl) (by kernel_rfl) (fun _ _ _ h => h) (Or.inl ⟨by kernel_rfl, ?_⟩) hHeld ?_
                rotate_left
                · intro w' hSw
                  (try dsimp only at hSw)
                  (try simp only [List.getElem_toArray]); (try simp only [List.getElem_cons_succ]); (try simp only [List.getElem_cons_zero])
                  go_simp
                  try with_reducible rfl
                (try simp only [Act.put]); (try simp only [List.getElem_toArray]); (try simp only [List.getElem_cons_succ]); (try simp only [List.getElem_cons_zero]); (try simp only [List.setIfInBounds_toArray]); (try simp only [List.set_cons_succ]); (try simp only [List.set_cons_zero])
                refine wpAnyH_take (i := 17) (v := ?_) rfl (by kernel_rfl) (by kernel_rfl) (by kernel_rfl) (fun _ _ _ h => h) (Or.inl ⟨by kernel_rfl, ?_⟩) hHeld ?_
                rotate_left
                · intro w' hSw
                  (try dsimp only at hSw)
                  (try simp only [List.getElem_toArray]); (try simp only [List.getElem_cons_succ]); (try simp only [List.getElem_cons_zero])
                  go_simp
                  try with_reducible rfl
                (try simp only [Act.put]); (try simp only [List.getElem_toArray]); (try simp only [List.getElem_cons_succ]); (try simp only [List.getElem_cons_zero]); (try simp only [List.setIfInBounds_toArray]); (try simp only [List.set_cons_succ]); (try simp only [List.set_cons_zero])
                refine wpAnyH_done (by kernel_rfl) ?_ _
                clear hHeld
                have c1x := rowC.cell 1
                (try simp only [List.getElem?_cons_succ] at c1x); (try simp only [List.getElem?_cons_zero] at c1x)
                go_wp2_with fail
                go_fit (told_c Q1 bD W.heap.size (n1 + 1 + 1) A.1 A.2.1 3 c.fSeq _ m1 hC3 hcs)
                rintro e w8 ⟨a8, c8, rfl, -, k8⟩
                replace m1 := m1.keep k8 (fun _ _ => id)
                replace m2 := m2.keep k8 (fun _ _ => id)
                replace rowC := rowC.keep k8 id
                replace kk := kk.trans k8
                clear c1x k8
                have c1x := rowC.cell 1
                (try simp only [List.getElem?_cons_succ] at c1x); (try simp only [List.getElem?_cons_zero] at c1x)
                rw [HT.out]
                go_wp2_with fail
                go_fit (told_c Q2 bF bU (n2 + 1) B.1 B.2.1 3 c.fSeq _ m2 hC3 hcs)
                rintro e w9 ⟨a9, c9, rfl, -, k9⟩
                replace m1 := m1.keep k9 (fun _ _ => id)
                replace m2 := m2.keep k9 (fun _ _ => id)
                replace kk := kk.trans k9
                clear c1x k9 rowC
                obtain ⟨t, ht⟩ : ∃ t, Hid ((toldS B.2.1 3 c.fSeq).2 = t) := ⟨_, rfl⟩
                rw [ht.out]
                clear ht HT
                cases t
                · go_wp2_with fail
                  go_roundw
                  case rel => exact ⟨k + 1, n1 + 1 + 1, n2 + 1, Q1, Q2, A.1, B.1, A.2.1, B.2.1, congrArg _ (Int.natCast_succ k).symm, h20, up2 hn1, up1 hn2, upl2 hlA hl1 ht1, upl hlB ht2, m1, m2, fun b hb => (gQ.out b hb).1, gQ2, gd2, SM, kk⟩
                  case measure => simp [intOf]; omega
                · go_wp2_with fail
                  go_roundw
                  case rel => exact ⟨k + 1, n1 + 1 + 1, n2 + 1, Q1, Q2, A.1, B.1, A.2.1, B.2.1, congrArg _ (Int.natCast_succ k).symm, h20, up2 hn1, up1 hn2, upl2 hlA hl1 ht1, upl hlB ht2, m1, m2, fun b hb => (gQ.out b hb).1, gQ2, gd2, SM, kk⟩
                  case measure => simp [intOf]; omega
              · have h2' : ¬ (2 : Int) < (pl.length : Int) := by omega
                refine wp_region_held_drew (S := (fun _ => True)) (by kernel_rfl) (trivial) (fun hHeld => ?_)
                refine wpAnyH_take (i := 0) (v := ?_) rfl (by kernel_rfl) (by kernel_rfl) (by kernel_rfl) (fun _ _ _ h => h) (Or.inl ⟨by kernel_rfl, ?_⟩) hHeld ?_
                rotate_left
                · intro w' hSw
                  (try dsimp only at hSw)
                  (try simp only [List.getElem_toArray]); (try simp only [List.getElem_cons_succ]); (try simp only [List.getElem_cons_zero])
                  go_simp
                  try with_reducible rfl
                (try simp only [Act.put]); (try simp only [List.getElem_toArray]); (try simp only [List.getElem_cons_succ]); (try simp only [List.getElem_cons_zero]); (try simp only [List.setIfInBounds_toArray]); (try simp only [List.set_cons_succ]); (try simp only [List.set_cons_zero])
                refine wpAnyH_take (i := 1) (v := ?_) rfl (by kernel_rfl) (by kernel_rfl) (by kernel_rfl) (fun _ _ _ h => h) (Or.inl ⟨by kernel_rfl, ?_⟩) hHeld ?_
                rotate_left
                · intro w' hSw
                  (try dsimp only at hSw)
                  (try simp only [List.getElem_toArray]); (try simp only [List.getElem_cons_succ]); (try simp only [List.getElem_cons_zero])
                  go_simp
                  try with_reducible rfl
                (try simp only [Act.put]); (try simp only [List.getElem_toArray]); (try simp only [List.getElem_cons_succ]); (try simp only [List.getElem_cons_zero]); (try simp only [List.setIfInBounds_toArray]); (try simp only [List.set_cons_succ]); (try simp only [List.set_cons_zero])
                refine wpAnyH_take (i := 2) (v := ?_) rfl (by kernel_rfl) (by kernel_rfl) (by kernel_rfl) (fun _ _ _ h => h) (Or.inl ⟨by kernel_rfl, ?_⟩) hHeld ?_
                rotate_left
                · intro w' hSw
                  (try dsimp only at hSw)
                  (try simp only [List.getElem_toArray]); (try simp only [List.getElem_cons_succ]); (try simp only [List.getElem_cons_zero])
                  go_simp
                  try with_reducible rfl
                (try simp only [Act.put]); (try simp only [List.getElem_toArray]); (try simp only [List.getElem_cons_succ]); (try simp only [List.getElem_cons_zero]); (try simp only [List.setIfInBounds_toArray]); (try simp only [List.set_cons_succ]); (try simp only [List.set_cons_zero])
                refine wpAnyH_take (i := 3) (v := ?_) rfl (by kernel_rfl) (by kernel_rfl) (by kernel_rfl) (fun _ _ _ h => h) (Or.inl ⟨by kernel_rfl, ?_⟩) hHeld ?_
                rotate_left
                · intro w' hSw
                  (try dsimp only at hSw)
                  (try simp only [List.getElem_toArray]); (try simp only [List.getElem_cons_succ]); (try simp only [List.getElem_cons_zero])
                  go_simp
                  try with_reducible rfl
                (try simp only [Act.put]); (try simp only [List.getElem_toArray]); (try simp only [List.getElem_cons_succ]); (try simp only [List.getElem_cons_zero]); (try simp only [List.setIfInBounds_toArray]); (try simp only [List.set_cons_succ]); (try simp only [List.set_cons_zero])
                refine wpAnyH_take (i := 4) (v := ?_) rfl (by kernel_rfl) (by kernel_rfl) (by kernel_rfl) (fun _ _ _ h => h) (Or.inl ⟨by kernel_rfl, ?_⟩) hHeld ?_
                rotate_left
                · intro w' hSw
                  (try dsimp only at hSw)
                  (try simp only [List.getElem_toArray]); (try simp only [List.getElem_cons_succ]); (try simp only [List.getElem_cons_zero])
                  go_simp
                  try with_reducible rfl
                (try simp only [Act.put]); (try simp only [List.getElem_toArray]); (try simp only [List.getElem_cons_succ]); (try simp only [List.getElem_cons_zero]); (try simp only [List.setIfInBounds_toArray]); (try simp only [List.set_cons_succ]); (try simp only [List.set_cons_zero])
                refine wpAnyH_take (i := 5) (v := ?_) rfl (by kernel_rfl) (by kernel_rfl) (by kernel_rfl) (fun _ _ _ h => h) (Or.inl ⟨by kernel_rfl, ?_⟩) hHeld ?_
                rotate_left
                · intro w' hSw
                  (try dsimp only at hSw)
                  (try simp only [List.getElem_toArray]); (try simp only [List.getElem_cons_succ]); (try simp only [List.getElem_cons_zero])
                  go_simp
                  try with_reducible rfl
                (try simp only [Act.put]); (try simp only [List.getElem_toArray]); (try simp only [List.getElem_cons_succ]); (try simp only [List.getElem_cons_zero]); (try simp only [List.setIfInBounds_toArray]); (try simp only [List.set_cons_succ]); (try simp only [List.set_cons_zero])
                refine wpAnyH_take (i := 6) (v := ?_) rfl (by kernel_rfl) (by kernel_rfl) (by kernel_rfl) (fun _ _ _ h => h) (Or.inl ⟨by kernel_rfl, ?_⟩) hHeld ?_
                rotate_left
                · intro w' hSw
                  (try dsimp only at hSw)
                  (try simp only [List.getElem_toArray]); (try simp only [List.getElem_cons_succ]); (try simp only [List.getElem_cons_zero])
                  go_simp
                  try with_reducible rfl
                (try simp only [Act.put]); (try simp only [List.getElem_toArray]); (try simp only [List.getElem_cons_succ]); (try simp only [List.getElem_cons_zero]); (try simp only [List.setIfInBounds_toArray]); (try simp only [List.set_cons_succ]); (try simp only [List.set_cons_zero])
                refine wpAnyH_take (i := 7) (v := ?_) rfl (by kernel_rfl) (by kernel_rfl) (by kernel_rfl) (fun _ _ _ h => h) (Or.inl ⟨by kernel_rfl, ?_⟩) hHeld ?_
                rotate_left
                · intro w' hSw
                  (try dsimp only at hSw)
                  (try simp only [List.getElem_toArray]); (try simp only [List.getElem_cons_succ]); (try simp only [List.getElem_cons_zero])
                  go_simp
                  try with_reducible rfl
                (try simp only [Act.put]); (try simp only [List.getElem_toArray]); (try simp only [List.getElem_cons_succ]); (try simp only [List.getElem_cons_zero]); (try simp only [List.setIfInBounds_toArray]); (try simp only [List.set_cons_succ]); (try simp only [List.set_cons_zero])
                refine wpAnyH_take (i := 8) (v := ?_) rfl (by kernel_rfl) (by kernel_rfl) (by kernel_rfl) (fun _ _ _ h => h) (Or.inl ⟨by kernel_rfl, ?_⟩) hHeld ?_
                rotate_left
                · intro w' hSw
                  (try dsimp only at hSw)
                  (try simp only [List.getElem_toArray]); (try simp only [List.getElem_cons_succ]); (try simp only [List.getElem_cons_zero])
                  go_simp
                  try with_reducible rfl
                (try simp only [Act.put]); (try simp only [List.getElem_toArray]); (try simp only [List.getElem_cons_succ]); (try simp only [List.getElem_cons_zero]); (try simp only [List.setIfInBounds_toArray]); (try simp only [List.set_cons_succ]); (try simp only [List.set_cons_zero])
                refine wpAnyH_take (i := 9) (v := ?_) rfl (by kernel_rfl) (by kernel_rfl) (by kernel_rfl) (fun _ _ _ h => h) (Or.inl ⟨by kernel_rfl, ?_⟩) hHeld ?_
                rotate_left
                · intro w' hSw
                  (try dsimp only at hSw)
                  (try simp only [List.getElem_toArray]); (try simp only [List.getElem_cons_succ]); (try simp only [List.getElem_cons_zero])
                  go_simp
                  try with_reducible rfl
                (try simp only [Act.put]); (try simp only [List.getElem_toArray]); (try simp only [List.getElem_cons_succ]); (try simp only [List.getElem_cons_zero]); (try simp only [List.setIfInBounds_toArray]); (try simp only [List.set_cons_succ]); (try simp only [List.set_cons_zero])
                refine wpAnyH_take (i := 10) (v := undef) rfl (by kernel_rfl) (by kernel_rfl) (by kernel_rfl) (fun _ _ _ h => h) (Or.inr ⟨by kernel_rfl, rfl⟩) hHeld ?_
                (try simp only [Act.put]); (try simp only [List.getElem_toArray]); (try simp only [List.getElem_cons_succ]); (try simp only [List.getElem_cons_zero]); (try simp only [List.setIfInBounds_toArray]); (try simp only [List.set_cons_succ]); (try simp only [List.set_cons_zero])
                refine wpAnyH_take (i := 11) (v := undef) rfl (by kernel_rfl) (by kernel_rfl) (by kernel_rfl) (fun _ _ _ h => h) (Or.inr ⟨by kernel_rfl, rfl⟩) hHeld ?_
                (try simp only [Act.put]); (try simp only [List.getElem_toArray]); (try simp only [List.getElem_cons_succ]); (try simp only [List.getElem_cons_zero]); (try simp only [List.setIfInBounds_toArray]); (try simp only [List.set_cons_succ]); (try simp only [List.set_cons_zero])
                refine wpAnyH_take (i := 12) (v := undef) rfl (by kernel_rfl) (by kernel_rfl) (by kernel_rfl) (fun _ _ _ h => h) (Or.inr ⟨by kernel_rfl, rfl⟩) hHeld ?_
                (try simp only [Act.put]); (try simp only [List.getElem_toArray]); (try simp only [List.getElem_cons_succ]); (try simp only [List.getElem_cons_zero]); (try simp only [List.setIfInBounds_toArray]); (try simp only [List.set_cons_succ]); (try simp only [List.set_cons_zero])
                refine wpAnyH_take (i := 13) (v := undef) rfl (by kernel_rfl) (by kernel_rfl) (by kernel_rfl) (fun _ _ _ h => h) (Or.inr ⟨by kernel_rfl, rfl⟩) hHeld ?_
                (try simp only [Act.put]); (try simp only [List.getElem_toArray]); (try simp only [List.getElem_cons_succ]); (try simp only [List.getElem_cons_zero]); (try simp only [List.setIfInBounds_toArray]); (try simp only [List.set_cons_succ]); (try simp only [List.set_cons_zero])
                refine wpAnyH_take (i := 14) (v := undef) rfl (by kernel_rfl) (by kernel_rfl) (by kernel_rfl) (fun _ _ _ h => h) (Or.inr ⟨by kernel_rfl, rfl⟩) hHeld ?_
                (try simp only [Act.put]); (try simp only [List.getElem_toArray]); (try simp only [List.getElem_cons_succ]); (try simp only [List.getElem_cons_zero]); (try simp only [List.setIfInBounds_toArray]); (try simp only [List.set_cons_succ]); (try simp only [List.set_cons_zero])
                refine wpAnyH_take (i := 15) (v := undef) rfl (by kernel_rfl) (by kernel_rfl) (by kernel_rfl) (fun _ _ _ h => h) (Or.inr ⟨by kernel_rfl, rfl⟩) hHeld ?_
                (try simp only [Act.put]); (try simp only [List.getElem_toArray]); (try simp only [List.getElem_cons_succ]); (try simp only [List.getElem_cons_zero]); (try simp only [List.setIfInBounds_toArray]); (try simp only [List.set_cons_succ]); (try simp only [List.set_cons_zero])
                refine wpAnyH_take (i := 16) (v := ?_) rfl (by kernel_rfl) (by kernel_rfl) (by kernel_rfl) (fun _ _ _ h => h) (Or.inl ⟨by kernel_rfl, ?_⟩) hHeld ?_
                rotate_left
                · intro w' hSw
                  (try dsimp only at hSw)
                  (try simp only [List.getElem_toArray]); (try simp only [List.getElem_cons_succ]); (try simp only [List.getElem_cons_zero])
                  go_simp
                  try with_reducible rfl
                (try simp only [Act.put]); (try simp only [List.getElem_toArray]); (try simp only [List.getElem_cons_succ]); (try simp only [List.getElem_cons_zero]); (try simp only [List.setIfInBounds_toArray]); (try simp only [List.set_cons_succ]); (try simp only [List.set_cons_zero])
                refine wpAnyH_take (i := 17) (v := ?_) rfl (by kernel_rfl) (by kernel_rfl) (by kernel_rfl) (fun _ _ _ h => h) (Or.inl ⟨by kernel_rfl, ?_⟩) hHeld ?_
                rotate_left
                · intro w' hSw
                  (try dsimp only at hSw)
                  (try simp only [List.getElem_toArray]); (try simp only [List.getElem_cons_succ]); (try simp only [List.getElem_cons_zero])
                  go_simp
                  try with_reducible rfl
                (try simp only [Act.put]); (try simp only [List.getElem_toArray]); (try simp only [List.getElem_cons_succ]); (try simp only [List.getElem_cons_zero]); (try simp only [List.setIfInBounds_toArray]); (try simp only [List.set_cons_succ]); (try simp only [List.set_cons_zero])
                refine wpAnyH_done (by kernel_rfl) ?_ _
                clear hHeld
                have c1x := rowC.cell 1
                (try simp only [List.getElem?_cons_succ] at c1x); (try simp only [List.getElem?_cons_zero] at c1x)
                go_wp2_with fail
                go_fit (told_c Q1 bD W.heap.size (n1 + 1 + 1) A.1 A.2.1 3 c.fSeq _ m1 hC3 hcs)
                rintro e w8 ⟨a8, c8, rfl, -, k8⟩
                replace m1 := m1.keep k8 (fun _ _ => id)
                replace m2 := m2.keep k8 (fun _ _ => id)
                replace rowC := rowC.keep k8 id
                replace kk := kk.trans k8
                clear c1x k8
                have c1x := rowC.cell 1
                (try simp only [List.getElem?_cons_succ] at c1x); (try simp only [List.getElem?_cons_zero] at c1x)
                rw [HT.out]
                go_wp2_with fail
                go_fit (told_c Q2 bF bU (n2 + 1) B.1 B.2.1 3 c.fSeq _ m2 hC3 hcs)
                rintro e w9 ⟨a9, c9, rfl, -, k9⟩
                replace m1 := m1.keep k9 (fun _ _ => id)
                replace m2 := m2.keep k9 (fun _ _ => id)
                replace kk := kk.trans k9
                clear c1x k9 rowC
                obtain ⟨t, ht⟩ : ∃ t, Hid ((toldS B.2.1 3 c.fSeq).2 = t) := ⟨_, rfl⟩
                rw [ht.out]
                clear ht HT
                cases t
                · go_wp2_with fail
                  go_roundw
                  case rel => exact ⟨k + 1, n1 + 1 + 1, n2 + 1, Q1, Q2, A.1, B.1, A.2.1, B.2.1, congrArg _ (Int.natCast_succ k).symm, h20, up2 hn1, up1 hn2, upl2 hlA hl1 ht1, upl hlB ht2, m1, m2, fun b hb => (gQ.out b hb).1, gQ2, gd2, SM, kk⟩
                  case measure => simp [intOf]; omega
                · go_wp2_with fail
                  go_roundw
                  case rel => exact ⟨k + 1, n1 + 1 + 1, n2 + 1, Q1, Q2, A.1, B.1, A.2.1, B.2.1, congrArg _ (Int.natCast_succ k).symm, h20, up2 hn1, up1 hn2, upl2 hlA hl1 ht1, upl hlB ht2, m1, m2, fun b hb => (gQ.out b hb).1, gQ2, gd2, SM, kk⟩
                  case measure => simp [intOf]; omega
            · have hlx' : 200 < x.fData.length := by omega
              go_wp2_with fail
              go_roundw
              case rel => exact ⟨k + 1, n1, n2, O1, O2, tp1, tp2, last1, last2, by go_num, by omega, by omega, by omega, by omega, by omega, m1, m2, g1, g2, gd, sim, kk⟩
              case measure => simp [intOf]; omega
          · have hlc' : 200 < c.fData.length := by omega
            go_wp2_with fail
            go_roundw
            case rel => exact ⟨k + 1, n1, n2, O1, O2, tp1, tp2, last1, last2, by go_num, by omega, by omega, by omega, by omega, by omega, m1, m2, g1, g2, gd, sim, kk⟩
            case measure => simp [intOf]; omega
        · have hj1 : ¬ (k : Int) < (ys.length : Int) := by omega
          have c2 := rowC.cell 2
          (try simp only [List.getElem?_cons_succ] at c2); (try simp only [List.getElem?_cons_zero] at c2)
          have x2 := rowX.cell 2
          (try simp only [List.getElem?_cons_succ] at x2); (try simp only [List.getElem?_cons_zero] at x2)
          by_cases hlc : c.fData.length ≤ 200
          · go_wp2_with fail
            clear c2 x2
            generalize ((wb.alloc (.cells #[.int .u64 0, .int .u64 0, .slice none 0 0] 35)).setRow (bc + 1) [.int .u64 0, .int .u64 0, .slice none 0 0].toArray) = wx at *
            obtain ⟨ax, cx, X, rX, hX3, hXc, hXs, hXl, lX, hXx⟩ : ∃ (ax : Option Addr) (cx : Nat) (X : GCall), RowIs wx (bc + 1) 35 [.int .u64 X.fClient, .int .u64 X.fSeq, .slice ax X.fData.length cx] ∧ X.fClient ≠ 3 ∧ isU64 X.fClient ∧ isU64 X.fSeq ∧ X.fData.length ≤ 200 ∧ Lies wx (· < W.heap.size) ax (X.fData.map bv) ∧ X.fData.length ≤ cx :=
              ⟨none, 0, ⟨0, 0, []⟩, rowX, (by decide : (0 : Int) ≠ 3), (⟨by decide, by decide⟩ : isU64 0), (⟨by decide, by decide⟩ : isU64 0), Nat.zero_le _, Lies.nil _ _ _, Nat.le_refl _⟩
            clear rowX
            have hbx := rX.lt
            have ldx := Whole.row (P := Try.prog) (T := 35) S_Call rfl rX
            unfold Whole at ldx
            have hXr : rGCall wx (· < wx.heap.size) [.int .u64 X.fClient, .int .u64 X.fSeq, .slice ax X.fData.length cx] X :=
              ⟨[_], [_], [_], rfl, ⟨rfl, wf_of_u64 hXc⟩, ⟨rfl, wf_of_u64 hXs⟩, ax, cx, rfl, lX.mono (fun b hb => Nat.lt_of_lt_of_le hb kk.size), hXx, by unfold far; omega⟩
            have HEX := Lib.hid (enc_small X (by omega))
            have HCX := oTCall_c wx (· < wx.heap.size) (fun b hb => hb) X _ hXr (by have := HEX.out; unfold far; omega)
            have HCX := Lib.hid HCX
            have HTX := Lib.hid (takeCall X (ok_call hXc hXs (by show _ ≤ _; omega)))
            have HXn := Lib.hid hX3
            have hl3 := Lib.hid hlc
            clear hXr hXc hXs hXl hXx lX rX hX3
            go_simp
            clear ldx
            go_wp2_with fail
            go_fit HCX.out
            rintro e w1 ⟨a1, c1, rfl, own1, k1⟩
            replace m1 := m1.keep k1 (fun _ _ => id)
            replace m2 := m2.keep k1 (fun _ _ => id)
            replace rowC := rowC.keep k1 id
            replace lcW := lcW.keep k1 (fun _ _ => id)
            replace kk := kk.trans k1
            have hd1 := do_ok O1 bD W.heap.size n1 tp1 last1 a1 _ c1 (encGCall X) X w1 rfl (Lies.of_owned own1) (by have := HEX.out; omega) m1 (by omega) (by omega) HTX.out
            have hd1 := Lib.hid hd1
            clear HCX own1 k1 hbx
            go_wp2_with fail
            go_fit hd1.out
            rintro e w2 ⟨a2, c2, mm2, P1, rfl, -, -, -, m1', k2, hP1, -⟩
            have e3 := Lib.hid (do_other (tp := tp1) (l := last1) (c := X) (fun e => HXn.out e.symm) : (doS tp1 last1 X).2.1 3 = last1 3)
            have hl1 := do_len tp1 last1 X
            have hbc1 := rowC.lt
            clear m1 hd1
            generalize doS tp1 last1 X = Y at *
            replace m2 := m2.keep k2 (fun b hb h => gd.out b h hb)
            replace rowC := rowC.keep k2 (fun h => by have := gc.out bc (.inl h); omega)
            replace lcW := lcW.keep k2 (fun b hb h => by have : b < W.heap.size := hb; have := g1.out b h; omega)
            have kk2 := kk.then k2 (fun i hi h => by have := g1.out i h; omega)
            have gP : Hid (∀ b, P1 b → W.heap.size ≤ b ∧ b ≠ bc ∧ ¬ O2 b) := fun b hb => (hP1 b hb).1.elim (fun h => ⟨g1.out b h, by have := gc.out b (.inl h); omega, gd.out b h⟩) (fun h => ⟨Nat.le_trans kk.size h, by omega, fun h2 => by have := gc.out b (.inr h2); omega⟩)
            have gO2 : Hid (∀ b, O2 b → b < bc) := fun b hb => gc.out b (.inr hb)
            clear hP1 k2 kk gd g1 gc HEX HTX
            have hC3 : isU64 3 := ⟨by decide, by decide⟩
            obtain ⟨C, hC⟩ : ∃ C : GCall, C = ⟨3, c.fSeq, c.fData⟩ := ⟨_, rfl⟩
            have rC : ∀ w', Lies w' (· < W.heap.size) ac (c.fData.map bv) → W.heap.size ≤ w'.heap.size → rGCall w' (· < w'.heap.size) [.int .u64 3, .int .u64 c.fSeq, .slice ac c.fData.length cd] C := fun w' hl hs => by
              subst hC
              exact ⟨[_], [_], [_], rfl, ⟨rfl, wf_of_u64 hC3⟩, ⟨rfl, wf_of_u64 hcs⟩, ac, cd, rfl, hl.mono (fun b hb => Nat.lt_of_lt_of_le hb hs), hcc, hcf⟩
            have HEC := Lib.hid (enc_small C (by subst hC; show c.fData.length ≤ 400; have := hl3.out; omega))
            have HTC := Lib.hid (takeCall C (by subst hC; exact ok_call hC3 hcs (by show _ ≤ _; have := hl3.out; omega)))
            have hcl : C.fClient = 3 := by subst hC; rfl
            have HRC := Lib.hid rC
            clear hC rC
            go_wp2_with fail
            have m1 := m1'.keep (Keep.drew (Keep.refl Nix w2)) (fun _ _ => id)
            have m2 := m2.keep (Keep.drew (Keep.refl Nix w2)) (fun _ _ => id)
            have rowC := rowC.same (w' := w2.drew)
            have lcW := lcW.same (w' := w2.drew)
            have kk := kk2.drew
            clear m1' kk2
            have ldc := Whole.row (P := Try.prog) (T := 35) S_Call rfl rowC
            unfold Whole at ldc
            refine wp_region_held_drew (S := (fun w' => (wholeSem 35 (.pointer (some ⟨bc, 0, none⟩))).run Try.prog w' = .ok (.value (.agg #[.int .u64 3, .int .u64 c.fSeq, .slice ac c.fData.length cd])) w')) (by kernel_rfl) (ldc) (fun hHeld => ?_)
            refine wpAnyH_take (i := 0) (v := ?_) rfl (by kernel_rfl) (by kernel_rfl) (by kernel_rfl) (fun _ _ _ h => h) (Or.inl ⟨by kernel_rfl, ?_⟩) hHeld ?_
            rotate_left
            · intro w' hSw
              (try dsimp only at hSw)
              (try simp only [List.getElem_toArray]); (try simp only [List.getElem_cons_succ]); (try simp only [List.getElem_cons_zero])
              go_simp
              try with_reducible rfl
            (try simp only [Act.put]); (try simp only [List.getElem_toArray]); (try simp only [List.getElem_cons_succ]); (try simp only [List.getElem_cons_zero]); (try simp only [List.setIfInBounds_toArray]); (try simp only [List.set_cons_succ]); (try simp only [List.set_cons_zero])
            refine wpAnyH_take (i := 1) (v := ?_) rfl (by kernel_rfl) (by kernel_rfl) (by kernel_rfl) (fun _ _ _ h => h) (Or.inl ⟨by kernel_rfl, ?_⟩) hHeld ?_
            rotate_left
            · intro w' hSw
              (try dsimp only at hSw)
              (try simp only [List.getElem_toArray]); (try simp only [List.getElem_cons_succ]); (try simp only [List.getElem_cons_zero])
              go_simp
              try with_reducible rfl
            (try simp only [Act.put]); (try simp only [List.getElem_toArray]); (try simp only [List.getElem_cons_succ]); (try simp only [List.getElem_cons_zero]); (try simp only [List.setIfInBounds_toArray]); (try simp only [List.set_cons_succ]); (try simp only [List.set_cons_zero])
            refine wpAnyH_take (i := 4) (v := ?_) rfl (by kernel_rfl) (by kernel_rfl) (by kernel_rfl) (fun _ _ _ h => h) (Or.inl ⟨by kernel_rfl, ?_⟩) hHeld ?_
            rotate_left
            · intro w' hSw
              (try dsimp only at hSw)
              (try simp only [List.getElem_toArray]); (try simp only [List.getElem_cons_succ]); (try simp only [List.getElem_cons_zero])
              go_simp
              try with_reducible rfl
            (try simp only [Act.put]); (try simp only [List.getElem_toArray]); (try simp only [List.getElem_cons_succ]); (try simp only [List.getElem_cons_zero]); (try simp only [List.setIfInBounds_toArray]); (try simp only [List.set_cons_succ]); (try simp only [List.set_cons_zero])
            refine wpAnyH_take (i := 5) (v := ?_) rfl (by kernel_rfl) (by kernel_rfl) (by kernel_rfl) (fun _ _ _ h => h) (Or.inl ⟨by kernel_rfl, ?_⟩) hHeld ?_
            rotate_left
            · intro w' hSw
              (try dsimp only at hSw)
              (try simp only [List.getElem_toArray]); (try simp only [List.getElem_cons_succ]); (try simp only [List.getElem_cons_zero])
              go_simp
              try with_reducible rfl
            (try simp only [Act.put]); (try simp only [List.getElem_toArray]); (try simp only [List.getElem_cons_succ]); (try simp only [List.getElem_cons_zero]); (try simp only [List.setIfInBounds_toArray]); (try simp only [List.set_cons_succ]); (try simp only [List.set_cons_zero])
            have HC2 := oTCall_c w2.drew (· < w2.drew.heap.size) (fun b hb => hb) C _ (HRC.out _ lcW kk.size) (by have := HEC.out; unfold far; omega)
            have HC2 := Lib.hid HC2
            refine wpAnyH_ready (rs := [2]) (by kernel_rfl) (by simp) ?_
            refine AllReadyH.cons rfl (fun K hK => ?_) AllReadyH.nil
            go_simp
            go_fit HC2.out
            rintro e w3 ⟨a3, c3, rfl, own3, k3⟩
            replace m1 := m1.keep k3 (fun _ _ => id)
            replace m2 := m2.keep k3 (fun _ _ => id)
            replace rowC := rowC.keep k3 id
            replace lcW := lcW.keep k3 (fun _ _ => id)
            replace kk := kk.trans k3
            clear ldc HC2 k3
            have ldc := Whole.row (P := Try.prog) (T := 35) S_Call rfl rowC
            unfold Whole at ldc
            have hd3 := do_ok P1 bD W.heap.size (n1 + 1) Y.1 Y.2.1 a3 _ c3 (encGCall C) C w3 rfl (Lies.of_owned own3) (by have := HEC.out; omega) m1 (by omega) (by omega) HTC.out
            have hd3 := Lib.hid hd3
            clear own3
            go_wp2_with fail
            refine hK.out _ _ (ldc) (fun hHeld => ?_)
            clear hK K
            (try simp only [Act.put]); (try simp only [List.getElem_toArray]); (try simp only [List.getElem_cons_succ]); (try simp only [List.getElem_cons_zero]); (try simp only [List.setIfInBounds_toArray]); (try simp only [List.set_cons_succ]); (try simp only [List.set_cons_zero])
            refine wpAnyH_ready (rs := [3]) (by kernel_rfl) (by simp) ?_
            refine AllReadyH.cons rfl (fun K hK => ?_) AllReadyH.nil
            go_simp
            go_fit hd3.out
            rintro e w4 ⟨a4, c4, mm4, Q1, rfl, hmm4, -, own4, m1', k4, hQ1, -⟩
            have hbc3 := rowC.lt
            have ho4 := own4.lt
            replace m2 := m2.keep k4 (fun b hb h => (gP.out b h).2.2 hb)
            replace rowC := rowC.keep k4 (fun h => (gP.out bc h).2.1 rfl)
            replace lcW := lcW.keep k4 (fun b hb h => by have : b < W.heap.size := hb; have := (gP.out b h).1; omega)
            have gQ : Hid (∀ b, Q1 b → W.heap.size ≤ b ∧ ¬ O2 b) := fun b hb => (hQ1 b hb).1.elim (fun h => ⟨(gP.out b h).1, (gP.out b h).2.2⟩) (fun h => ⟨Nat.le_trans kk.size h, fun h2 => by have := gO2.out b h2; omega⟩)
            replace kk := kk.then k4 (fun i hi h => by have := (gP.out i h).1; omega)
            clear hd3 m1 k4 ldc hQ1
            have ldc := Whole.row (P := Try.prog) (T := 35) S_Call rfl rowC
            unfold Whole at ldc
            have HC4 := oTCall_c w4 (· < w4.heap.size) (fun b hb => hb) C _ (HRC.out _ lcW kk.size) (by have := HEC.out; unfold far; omega)
            have HC4 := Lib.hid HC4
            go_wp2_with fail
            refine hK.out _ _ (ldc) (fun hHeld => ?_)
            clear hK K
            (try simp only [Act.put]); (try simp only [List.getElem_toArray]); (try simp only [List.getElem_cons_succ]); (try simp only [List.getElem_cons_zero]); (try simp only [List.setIfInBounds_toArray]); (try simp only [List.set_cons_succ]); (try simp only [List.set_cons_zero])
            refine wpAnyH_ready (rs := [6]) (by kernel_rfl) (by simp) ?_
            refine AllReadyH.cons rfl (fun K hK => ?_) AllReadyH.nil
            go_simp
            go_fit HC4.out
            rintro e w5 ⟨a5, c5, rfl, own5, k5⟩
            have hlo5 := own5.lt
            replace m1' := m1'.keep k5 (fun _ _ => id)
            replace m2 := m2.keep k5 (fun _ _ => id)
            replace rowC := rowC.keep k5 id
            replace own4 := owned_keep own4 k5 (fun _ _ => id)
            replace kk := kk.trans k5
            clear ldc HC4
            have ldc := Whole.row (P := Try.prog) (T := 35) S_Call rfl rowC
            unfold Whole at ldc
            have hd5 := do_ok O2 bF bU n2 tp2 last2 a5 _ c5 (encGCall C) C w5 rfl (Lies.of_owned own5) (by have := HEC.out; omega) m2 (by omega) (by omega) HTC.out
            have hd5 := Lib.hid hd5
            clear own5 k5
            go_wp2_with fail
            refine hK.out _ _ (ldc) (fun hHeld => ?_)
            clear hK K
            (try simp only [Act.put]); (try simp only [List.getElem_toArray]); (try simp only [List.getElem_cons_succ]); (try simp only [List.getElem_cons_zero]); (try simp only [List.setIfInBounds_toArray]); (try simp only [List.set_cons_succ]); (try simp only [List.set_cons_zero])
            refine wpAnyH_ready (rs := [7]) (by kernel_rfl) (by simp) ?_
            refine AllReadyH.cons rfl (fun K hK => ?_) AllReadyH.nil
            go_simp
            go_fit hd5.out
            rintro e w6 ⟨a6, c6, mm6, Q2, rfl, hmm6, -, own6, m2', k6, hQ2, -⟩
            have hb5 := rowC.lt
            have gQ2 : Hid (∀ b, Q2 b → W.heap.size ≤ b) := fun b hb => (hQ2 b hb).1.elim (g2.out b) (fun h => Nat.le_trans kk.size h)
            have gd2 : Hid (∀ b, Q1 b → ¬ Q2 b) := fun b h1 h2 => (hQ2 b h2).1.elim ((gQ.out b h1).2) (fun h => by have := m1'.lt b h1; omega)
            have m1 := m1'.keep k6 (fun b hb h => (gQ.out b hb).2 h)
            replace rowC := rowC.keep k6 (fun h => by have := gO2.out bc h; omega)
            replace own4 := owned_keep own4 k6 (fun b hb h => by have := (ho4 b hb).1; have := gO2.out b h; omega)
            replace kk := kk.then k6 (fun i hi h => by have := g2.out i h; omega)
            clear hd5 m2 ldc k6 hQ2 m1'
            have ldc := Whole.row (P := Try.prog) (T := 35) S_Call rfl rowC
            unfold Whole at ldc
            go_wp2_with fail
            refine hK.out _ _ (ldc) (fun hHeld => ?_)
            clear hK K
            (try simp only [Act.put]); (try simp only [List.getElem_toArray]); (try simp only [List.getElem_cons_succ]); (try simp only [List.getElem_cons_zero]); (try simp only [List.setIfInBounds_toArray]); (try simp only [List.set_cons_succ]); (try simp only [List.set_cons_zero])
            refine wpAnyH_take (i := 8) (v := ?_) rfl (by kernel_rfl) (by kernel_rfl) (by kernel_rfl) (fun _ _ _ h => h) (Or.inl ⟨by kernel_rfl, ?_⟩) hHeld ?_
            rotate_left
            · intro w' hSw
              (try dsimp only at hSw)
              (try simp only [List.getElem_toArray]); (try simp only [List.getElem_cons_succ]); (try simp only [List.getElem_cons_zero])
              go_simp
              try with_reducible rfl
            (try simp only [Act.put]); (try simp only [List.getElem_toArray]); (try simp only [List.getElem_cons_succ]); (try simp only [List.getElem_cons_zero]); (try simp only [List.setIfInBounds_toArray]); (try simp only [List.set_cons_succ]); (try simp only [List.set_cons_zero])
            refine wpAnyH_take (i := 9) (v := ?_) rfl (by kernel_rfl) (by kernel_rfl) (by kernel_rfl) (fun _ _ _ h => h) (Or.inl ⟨by kernel_rfl, ?_⟩) hHeld ?_
            rotate_left
            · intro w' hSw
              (try dsimp only at hSw)
              (try simp only [List.getElem_toArray]); (try simp only [List.getElem_cons_succ]); (try simp only [List.getElem_cons_zero])
              go_simp
              try with_reducible rfl
            (try simp only [Act.put]); (try simp only [List.getElem_toArray]); (try simp only [List.getElem_cons_succ]); (try simp only [List.getElem_cons_zero]); (try simp only [List.setIfInBounds_toArray]); (try simp only [List.set_cons_succ]); (try simp only [List.set_cons_zero])
            refine wpAnyH_done (by kernel_rfl) ?_ _
            clear hHeld ldc HRC HEC HTC lcW
            have hsd := sim_do (tp1 := Y.1) (tp2 := tp2) (l1 := Y.2.1) (l2 := last2) (c := C) (by rw [hcl, e3.out]; exact sim.out)
            rw [hcl] at hsd
            obtain ⟨sm, hPQ, hdr⟩ := hsd
            have hlA := do_len Y.1 Y.2.1 C
            have hlB := do_len tp2 last2 C
            generalize doS Y.1 Y.2.1 C = A at *
            generalize doS tp2 last2 C = B at *
            obtain ⟨_, hcA, _⟩ := owned_bounds own4
            obtain ⟨_, hcB, _⟩ := owned_bounds own6
            have SM := Lib.hid sm
            have HT := Lib.hid (told_sim (s := c.fSeq) sm)
            clear sm sim e3 hcl
            rw [← hPQ] at own6 hcB ⊢
            have HPQ := Lib.hid hPQ
            have HDR := Lib.hid hdr
            clear hPQ hdr
            generalize A.2.2 = pl at *
            generalize B.2.2 = ql at *
            go_wp2_with fail
            have kk := kk.drew
            have m1 := m1.keep (Keep.drew (Keep.refl Nix w6)) (fun _ _ => id)
            have m2 := m2'.keep (Keep.drew (Keep.refl Nix w6)) (fun _ _ => id)
            have rowC := rowC.same (w' := w6.drew)
            have lp := (Lies.of_owned own4).same (w' := w6.drew)
            have lq := (Lies.of_owned own6).same (w' := w6.drew)
            clear own4 own6 m2'
            by_cases h2 : 2 < pl.length
            · have h2' : (2 : Int) < (pl.length : Int) := by omega
              have hc4 : (pl.length : Int) ≤ (c4 : Int) := by omega
              have hc6 : (pl.length : Int) ≤ (c6 : Int) := by omega
              have h22 : (2 : Int) ≤ (pl.length : Int) := by omega
              refine wp_region_held_drew (S := (fun _ => True)) (by kernel_rfl) (trivial) (fun hHeld => ?_)
              refine wpAnyH_take (i := 0) (v := ?_) rfl (by kernel_rfl) (by kernel_rfl) (by kernel_rfl) (fun _ _ _ h => h) (Or.inl ⟨by kernel_rfl, ?_⟩) hHeld ?_
              rotate_left
              · intro w' hSw
                (try dsimp only at hSw)
                (try simp only [List.getElem_toArray]); (try simp only [List.getElem_cons_succ]); (try simp only [List.getElem_cons_zero])
                go_simp
                try with_reducible rfl
              (try simp only [Act.put]); (try simp only [List.getElem_toArray]); (try simp only [List.getElem_cons_succ]); (try simp only [List.getElem_cons_zero]); (try simp only [List.setIfInBounds_toArray]); (try simp only [List.set_cons_succ]); (try simp only [List.set_cons_zero])
              refine wpAnyH_take (i := 1) (v := ?_) rfl (by kernel_rfl) (by kernel_rfl) (by kernel_rfl) (fun _ _ _ h => h) (Or.inl ⟨by kernel_rfl, ?_⟩) hHeld ?_
              rotate_left
              · intro w' hSw
                (try dsimp only at hSw)
                (try simp only [List.getElem_toArray]); (try simp only [List.getElem_cons_succ]); (try simp only [List.getElem_cons_zero])
                go_simp
                try with_reducible rfl
              (try simp only [Act.put]); (try simp only [List.getElem_toArray]); (try simp only [List.getElem_cons_succ]); (try simp only [List.getElem_cons_zero]); (try simp only [List.setIfInBounds_toArray]); (try simp only [List.set_cons_succ]); (try simp only [List.set_cons_zero])
              refine wpAnyH_take (i := 2) (v := ?_) rfl (by kernel_rfl) (by kernel_rfl) (by kernel_rfl) (fun _ _ _ h => h) (Or.inl ⟨by kernel_rfl, ?_⟩) hHeld ?_
              rotate_left
              · intro w' hSw
                (try dsimp only at hSw)
                (try simp only [List.getElem_toArray]); (try simp only [List.getElem_cons_succ]); (try simp only [List.getElem_cons_zero])
                go_simp
                try with_reducible rfl
              (try simp only [Act.put]); (try simp only [List.getElem_toArray]); (try simp only [List.getElem_cons_succ]); (try simp only [List.getElem_cons_zero]); (try simp only [List.setIfInBounds_toArray]); (try simp only [List.set_cons_succ]); (try simp only [List.set_cons_zero])
              refine wpAnyH_take (i := 3) (v := ?_) rfl (by kernel_rfl) (by kernel_rfl) (by kernel_rfl) (fun _ _ _ h => h) (Or.inl ⟨by kernel_rfl, ?_⟩) hHeld ?_
              rotate_left
              · intro w' hSw
                (try dsimp only at hSw)
                (try simp only [List.getElem_toArray]); (try simp only [List.getElem_cons_succ]); (try simp only [List.getElem_cons_zero])
                go_simp
                try with_reducible rfl
              (try simp only [Act.put]); (try simp only [List.getElem_toArray]); (try simp only [List.getElem_cons_succ]); (try simp only [List.getElem_cons_zero]); (try simp only [List.setIfInBounds_toArray]); (try simp only [List.set_cons_succ]); (try simp only [List.set_cons_zero])
              refine wpAnyH_take (i := 4) (v := ?_) rfl (by kernel_rfl) (by kernel_rfl) (by kernel_rfl) (fun _ _ _ h => h) (Or.inl ⟨by kernel_rfl, ?_⟩) hHeld ?_
              rotate_left
              · intro w' hSw
                (try dsimp only at hSw)
                (try simp only [List.getElem_toArray]); (try simp only [List.getElem_cons_succ]); (try simp only [List.getElem_cons_zero])
                go_simp
                try with_reducible rfl
              (try simp only [Act.put]); (try simp only [List.getElem_toArray]); (try simp only [List.getElem_cons_succ]); (try simp only [List.getElem_cons_zero]); (try simp only [List.setIfInBounds_toArray]); (try simp only [List.set_cons_succ]); (try simp only [List.set_cons_zero])
              refine wpAnyH_take (i := 5) (v := ?_) rfl (by kernel_rfl) (by kernel_rfl) (by kernel_rfl) (fun _ _ _ h => h) (Or.inl ⟨by kernel_rfl, ?_⟩) hHeld ?_
              rotate_left
              · intro w' hSw
                (try dsimp only at hSw)
                (try simp only [List.getElem_toArray]); (try simp only [List.getElem_cons_succ]); (try simp only [List.getElem_cons_zero])
                go_simp
                try with_reducible rfl
              (try simp only [Act.put]); (try simp only [List.getElem_toArray]); (try simp only [List.getElem_cons_succ]); (try simp only [List.getElem_cons_zero]); (try simp only [List.setIfInBounds_toArray]); (try simp only [List.set_cons_succ]); (try simp only [List.set_cons_zero])
              refine wpAnyH_take (i := 6) (v := ?_) rfl (by kernel_rfl) (by kernel_rfl) (by kernel_rfl) (fun _ _ _ h => h) (Or.inl ⟨by kernel_rfl, ?_⟩) hHeld ?_
              rotate_left
              · intro w' hSw
                (try dsimp only at hSw)
                (try simp only [List.getElem_toArray]); (try simp only [List.getElem_cons_succ]); (try simp only [List.getElem_cons_zero])
                go_simp
                try with_reducible rfl
              (try simp only [Act.put]); (try simp only [List.getElem_toArray]); (try simp only [List.getElem_cons_succ]); (try simp only [List.getElem_cons_zero]); (try simp only [List.setIfInBounds_toArray]); (try simp only [List.set_cons_succ]); (try simp only [List.set_cons_zero])
              refine wpAnyH_take (i := 7) (v := ?_) rfl (by kernel_rfl) (by kernel_rfl) (by kernel_rfl) (fun _ _ _ h => h) (Or.inl ⟨by kernel_rfl, ?_⟩) hHeld ?_
              rotate_left
              · intro w' hSw
                (try dsimp only at hSw)
                (try simp only [List.getElem_toArray]); (try simp only [List.getElem_cons_succ]); (try simp only [List.getElem_cons_zero])
                go_simp
                try with_reducible rfl
              (try simp only [Act.put]); (try simp only [List.getElem_toArray]); (try simp only [List.getElem_cons_succ]); (try simp only [List.getElem_cons_zero]); (try simp only [List.setIfInBounds_toArray]); (try simp only [List.set_cons_succ]); (try simp only [List.set_cons_zero])
              refine wpAnyH_take (i := 8) (v := ?_) rfl (by kernel_rfl) (by kernel_rfl) (by kernel_rfl) (fun _ _ _ h => h) (Or.inl ⟨by kernel_rfl, ?_⟩) hHeld ?_
              rotate_left
              · intro w' hSw
                (try dsimp only at hSw)
                (try simp only [List.getElem_toArray]); (try simp only [List.getElem_cons_succ]); (try simp only [List.getElem_cons_zero])
                go_simp
                try with_reducible rfl
              (try simp only [Act.put]); (try simp only [List.getElem_toArray]); (try simp only [List.getElem_cons_succ]); (try simp only [List.getElem_cons_zero]); (try simp only [List.setIfInBounds_toArray]); (try simp only [List.set_cons_succ]); (try simp only [List.set_cons_zero])
              refine wpAnyH_take (i := 9) (v := ?_) rfl (by kernel_rfl) (by kernel_rfl) (by kernel_rfl) (fun _ _ _ h => h) (Or.inl ⟨by kernel_rfl, ?_⟩) hHeld ?_
              rotate_left
              · intro w' hSw
                (try dsimp only at hSw)
                (try simp only [List.getElem_toArray]); (try simp only [List.getElem_cons_succ]); (try simp only [List.getElem_cons_zero])
                go_simp
                try with_reducible rfl
              (try simp only [Act.put]); (try simp only [List.getElem_toArray]); (try simp only [List.getElem_cons_succ]); (try simp only [List.getElem_cons_zero]); (try simp only [List.setIfInBounds_toArray]); (try simp only [List.set_cons_succ]); (try simp only [List.set_cons_zero])
              refine wpAnyH_take (i := 10) (v := ?_) rfl (by kernel_rfl) (by kernel_rfl) (by kernel_rfl) (fun _ _ _ h => h) (Or.inl ⟨by kernel_rfl, ?_⟩) hHeld ?_
              rotate_left
              · intro w' hSw
                (try dsimp only at hSw)
                (try simp only [List.getElem_toArray]); (try simp only [List.getElem_cons_succ]); (try simp only [List.getElem_cons_zero])
                go_simp
                try with_reducible rfl
              (try simp only [Act.put]); (try simp only [List.getElem_toArray]); (try simp only [List.getElem_cons_succ]); (try simp only [List.getElem_cons_zero]); (try simp only [List.setIfInBounds_toArray]); (try simp only [List.set_cons_succ]); (try simp only [List.set_cons_zero])
              refine wpAnyH_take (i := 11) (v := ?_) rfl (by kernel_rfl) (by kernel_rfl) (by kernel_rfl) (fun _ _ _ h => h) (Or.inl ⟨by kernel_rfl, ?_⟩) hHeld ?_
              rotate_left
              · intro w' hSw
                (try dsimp only at hSw)
                (try simp only [List.getElem_toArray]); (try simp only [List.getElem_cons_succ]); (try simp only [List.getElem_cons_zero])
                go_simp
                try with_reducible rfl
              (try simp only [Act.put]); (try simp only [List.getElem_toArray]); (try simp only [List.getElem_cons_succ]); (try simp only [List.getElem_cons_zero]); (try simp only [List.setIfInBounds_toArray]); (try simp only [List.set_cons_succ]); (try simp only [List.set_cons_zero])
              refine wpAnyH_take (i := 12) (v := ?_) rfl (by kernel_rfl) (by kernel_rfl) (by kernel_rfl) (fun _ _ _ h => h) (Or.inl ⟨by kernel_rfl, ?_⟩) hHeld ?_
              rotate_left
              · intro w' hSw
                (try dsimp only at hSw)
                (try simp only [List.getElem_toArray]); (try simp only [List.getElem_cons_succ]); (try simp only [List.getElem_cons_zero])
                go_simp
                try with_reducible rfl
              (try simp only [Act.put]); (try simp only [List.getElem_toArray]); (try simp only [List.getElem_cons_succ]); (try simp only [List.getElem_cons_zero]); (try simp only [List.setIfInBounds_toArray]); (try simp only [List.set_cons_succ]); (try simp only [List.set_cons_zero])
              refine wpAnyH_take (i := 13) (v := ?_) rfl (by kernel_rfl) (by kernel_rfl) (by kernel_rfl) (fun _ _ _ h => h) (Or.inl ⟨by kernel_rfl, ?_⟩) hHeld ?_
              rotate_left
              · intro w' hSw
                (try dsimp only at hSw)
                (try simp only [List.getElem_toArray]); (try simp only [List.getElem_cons_succ]); (try simp only [List.getElem_cons_zero])
                go_simp
                try with_reducible rfl
              (try simp only [Act.put]); (try simp only [List.getElem_toArray]); (try simp only [List.getElem_cons_succ]); (try simp only [List.getElem_cons_zero]); (try simp only [List.setIfInBounds_toArray]); (try simp only [List.set_cons_succ]); (try simp only [List.set_cons_zero])
              refine wpAnyH_ready (rs := [14]) (by kernel_rfl) (by simp) ?_
              refine AllReadyH.cons rfl (fun K hK => ?_) AllReadyH.nil
              go_simp
              go_fit (bytes_c (if c4 = 2 then a4 else Option.map (fun x => x.add 2) a4) (if c6 = 2 then a6 else Option.map (fun x => x.add 2) a6) (pl.length - 2) (c4 - 2) (pl.length - 2) (c6 - 2) (pl.drop 2) (ql.drop 2) w6.drew (by simp) (by have := HPQ.out; simp; omega) (by rw [List.map_drop]; exact lp.cut c4 2 1 (by simpa using hcA)) (by rw [List.map_drop]; exact lq.cut c6 2 1 (by have := HPQ.out; simp; omega)))
              rintro e w7 ⟨rfl, rfl⟩
              rw [HDR.out]
              go_wp2_with fail
              refine hK.out _ _ (trivial) (fun hHeld => ?_)
              clear hK K
              (try simp only [Act.put]); (try simp only [List.getElem_toArray]); (try simp only [List.getElem_cons_succ]); (try simp only [List.getElem_cons_zero]); (try simp only [List.setIfInBounds_toArray]); (try simp only [List.set_cons_succ]); (try simp only [List.set_cons_zero])
              refine wpAnyH_take (i := 15) (v := ?_) rfl (by kernel_rfl) (by kernel_rfl) (by kernel_rfl) (fun _ _ _ h => h) (Or.inl ⟨by kernel_rfl, ?_⟩) hHeld ?_
              rotate_left
              · intro w' hSw
                (try dsimp only at hSw)
                (try simp only [List.getElem_toArray]); (try simp only [List.getElem_cons_succ]); (try simp only [List.getElem_cons_zero])
                go_simp
                try with_reducible rfl
              (try simp only [Act.put]); (try simp only [List.getElem_toArray]); (try simp only [List.getElem_cons_succ]); (try simp only [List.getElem_cons_zero]); (try simp only [List.setIfInBounds_toArray]); (try simp only [List.set_cons_succ]); (try simp only [List.set_cons_zero])
              refine wpAnyH_take (i := 16) (v := ?_) rfl (by kernel_rfl) (by kernel_rfl) (by kernel_rfl) (fun _ _ _ h => h) (Or.inl ⟨by kernel_rfl, ?_⟩) hHeld ?_
              rotate_left
              · intro w' hSw
                (try dsimp only at hSw)
                (try simp only [List.getElem_toArray]); (try simp only [List.getElem_cons_succ]); (try simp only [List.getElem_cons_zero])
                go_simp
                try with_reducible rfl
              (try simp only [Act.put]); (try simp only [List.getElem_toArray]); (try simp only [List.getElem_cons_succ]); (try simp only [List.getElem_cons_zero]); (try simp only [List.setIfInBounds_toArray]); (try simp only [List.set_cons_succ]); (try simp only [List.set_cons_zero])
              refine wpAnyH_take (i := 17) (v := ?_) rfl (by kernel_rfl) (by kernel_rfl) (by kernel_rfl) (fun _ _ _ h => h) (Or.inl ⟨by kernel_rfl, ?_⟩) hHeld ?_
              rotate_left
              · intro w' hSw
                (try dsimp only at hSw)
                (try simp only [List.getElem_toArray]); (try simp only [List.getElem_cons_succ]); (try simp only [List.getElem_cons_zero])
                go_simp
                try with_reducible rfl
              (try simp only [Act.put]); (try simp only [List.getElem_toArray]); (try simp only [List.getElem_cons_succ]); (try simp only [List.getElem_cons_zero]); (try simp only [List.setIfInBounds_toArray]); (try simp only [List.set_cons_succ]); (try simp only [List.set_cons_zero])
              refine wpAnyH_done (by kernel_rfl) ?_ _
              clear hHeld
              have c1x := rowC.cell 1
              (try simp only [List.getElem?_cons_succ] at c1x); (try simp only [List.getElem?_cons_zero] at c1x)
              go_wp2_with fail
              go_fit (told_c Q1 bD W.heap.size (n1 + 1 + 1) A.1 A.2.1 3 c.fSeq _ m1 hC3 hcs)
              rintro e w8 ⟨a8, c8, rfl, -, k8⟩
              replace m1 := m1.keep k8 (fun _ _ => id)
              replace m2 := m2.keep k8 (fun _ _ => id)
              replace rowC := rowC.keep k8 id
              replace kk := kk.trans k8
              clear c1x k8
              have c1x := rowC.cell 1
              (try simp only [List.getElem?_cons_succ] at c1x); (try simp only [List.getElem?_cons_zero] at c1x)
              rw [HT.out]
              go_wp2_with fail
              go_fit (told_c Q2 bF bU (n2 + 1) B.1 B.2.1 3 c.fSeq _ m2 hC3 hcs)
              rintro e w9 ⟨a9, c9, rfl, -, k9⟩
              replace m1 := m1.keep k9 (fun _ _ => id)
              replace m2 := m2.keep k9 (fun _ _ => id)
              replace kk := kk.trans k9
              clear c1x k9 rowC
              obtain ⟨t, ht⟩ : ∃ t, Hid ((toldS B.2.1 3 c.fSeq).2 = t) := ⟨_, rfl⟩
              rw [ht.out]
              clear ht HT
              cases t
              · go_wp2_with fail
                go_roundw
                case rel => exact ⟨k + 1, n1 + 1 + 1, n2 + 1, Q1, Q2, A.1, B.1, A.2.1, B.2.1, congrArg _ (Int.natCast_succ k).symm, h20, up2 hn1, up1 hn2, upl2 hlA hl1 ht1, upl hlB ht2, m1, m2, fun b hb => (gQ.out b hb).1, gQ2, gd2, SM, kk⟩
                case measure => simp [intOf]; omega
              · go_wp2_with fail
                go_roundw
                case rel => exact ⟨k + 1, n1 + 1 + 1, n2 + 1, Q1, Q2, A.1, B.1, A.2.1, B.2.1, congrArg _ (Int.natCast_succ k).symm, h20, up2 hn1, up1 hn2, upl2 hlA hl1 ht1, upl hlB ht2, m1, m2, fun b hb => (gQ.out b hb).1, gQ2, gd2, SM, kk⟩
                case measure => simp [intOf]; omega
            · have h2' : ¬ (2 : Int) < (pl.length : Int) := by omega
              refine wp_region_held_drew (S := (fun _ => True)) (by kernel_rfl) (trivial) (fun hHeld => ?_)
              refine wpAnyH_take (i := 0) (v := ?_) rfl (by kernel_rfl) (by kernel_rfl) (by kernel_rfl) (fun _ _ _ h => h) (Or.inl ⟨by kernel_rfl, ?_⟩) hHeld ?_
              rotate_left
              · intro w' hSw
                (try dsimp only at hSw)
                (try simp only [List.getElem_toArray]); (try simp only [List.getElem_cons_succ]); (try simp only [List.getElem_cons_zero])
                go_simp
                try with_reducible rfl
              (try simp only [Act.put]); (try simp only [List.getElem_toArray]); (try simp only [List.getElem_cons_succ]); (try simp only [List.getElem_cons_zero]); (try simp only [List.setIfInBounds_toArray]); (try simp only [List.set_cons_succ]); (try simp only [List.set_cons_zero])
              refine wpAnyH_take (i := 1) (v := ?_) rfl (by kernel_rfl) (by kernel_rfl) (by kernel_rfl) (fun _ _ _ h => h) (Or.inl ⟨by kernel_rfl, ?_⟩) hHeld ?_
              rotate_left
              · intro w' hSw
                (try dsimp only at hSw)
                (try simp only [List.getElem_toArray]); (try simp only [List.getElem_cons_succ]); (try simp only [List.getElem_cons_zero])
                go_simp
                try with_reducible rfl
              (try simp only [Act.put]); (try simp only [List.getElem_toArray]); (try simp only [List.getElem_cons_succ]); (try simp only [List.getElem_cons_zero]); (try simp only [List.setIfInBounds_toArray]); (try simp only [List.set_cons_succ]); (try simp only [List.set_cons_zero])
              refine wpAnyH_take (i := 2) (v := ?_) rfl (by kernel_rfl) (by kernel_rfl) (by kernel_rfl) (fun _ _ _ h => h) (Or.inl ⟨by kernel_rfl, ?_⟩) hHeld ?_
              rotate_left
              · intro w' hSw
                (try dsimp only at hSw)
                (try simp only [List.getElem_toArray]); (try simp only [List.getElem_cons_succ]); (try simp only [List.getElem_cons_zero])
                go_simp
                try with_reducible rfl
              (try simp only [Act.put]); (try simp only [List.getElem_toArray]); (try simp only [List.getElem_cons_succ]); (try simp only [List.getElem_cons_zero]); (try simp only [List.setIfInBounds_toArray]); (try simp only [List.set_cons_succ]); (try simp only [List.set_cons_zero])
              refine wpAnyH_take (i := 3) (v := ?_) rfl (by kernel_rfl) (by kernel_rfl) (by kernel_rfl) (fun _ _ _ h => h) (Or.inl ⟨by kernel_rfl, ?_⟩) hHeld ?_
              rotate_left
              · intro w' hSw
                (try dsimp only at hSw)
                (try simp only [List.getElem_toArray]); (try simp only [List.getElem_cons_succ]); (try simp only [List.getElem_cons_zero])
                go_simp
                try with_reducible rfl
              (try simp only [Act.put]); (try simp only [List.getElem_toArray]); (try simp only [List.getElem_cons_succ]); (try simp only [List.getElem_cons_zero]); (try simp only [List.setIfInBounds_toArray]); (try simp only [List.set_cons_succ]); (try simp only [List.set_cons_zero])
              refine wpAnyH_take (i := 4) (v := ?_) rfl (by kernel_rfl) (by kernel_rfl) (by kernel_rfl) (fun _ _ _ h => h) (Or.inl ⟨by kernel_rfl, ?_⟩) hHeld ?_
              rotate_left
              · intro w' hSw
                (try dsimp only at hSw)
                (try simp only [List.getElem_toArray]); (try simp only [List.getElem_cons_succ]); (try simp only [List.getElem_cons_zero])
                go_simp
                try with_reducible rfl
              (try simp only [Act.put]); (try simp only [List.getElem_toArray]); (try simp only [List.getElem_cons_succ]); (try simp only [List.getElem_cons_zero]); (try simp only [List.setIfInBounds_toArray]); (try simp only [List.set_cons_succ]); (try simp only [List.set_cons_zero])
              refine wpAnyH_take (i := 5) (v := ?_) rfl (by kernel_rfl) (by kernel_rfl) (by kernel_rfl) (fun _ _ _ h => h) (Or.inl ⟨by kernel_rfl, ?_⟩) hHeld ?_
              rotate_left
              · intro w' hSw
                (try dsimp only at hSw)
                (try simp only [List.getElem_toArray]); (try simp only [List.getElem_cons_succ]); (try simp only [List.getElem_cons_zero])
                go_simp
                try with_reducible rfl
              (try simp only [Act.put]); (try simp only [List.getElem_toArray]); (try simp only [List.getElem_cons_succ]); (try simp only [List.getElem_cons_zero]); (try simp only [List.setIfInBounds_toArray]); (try simp only [List.set_cons_succ]); (try simp only [List.set_cons_zero])
              refine wpAnyH_take (i := 6) (v := ?_) rfl (by kernel_rfl) (by kernel_rfl) (by kernel_rfl) (fun _ _ _ h => h) (Or.inl ⟨by kernel_rfl, ?_⟩) hHeld ?_
              rotate_left
              · intro w' hSw
                (try dsimp only at hSw)
                (try simp only [List.getElem_toArray]); (try simp only [List.getElem_cons_succ]); (try simp only [List.getElem_cons_zero])
                go_simp
                try with_reducible rfl
              (try simp only [Act.put]); (try simp only [List.getElem_toArray]); (try simp only [List.getElem_cons_succ]); (try simp only [List.getElem_cons_zero]); (try simp only [List.setIfInBounds_toArray]); (try simp only [List.set_cons_succ]); (try simp only [List.set_cons_zero])
              refine wpAnyH_take (i := 7) (v := ?_) rfl (by kernel_rfl) (by kernel_rfl) (by kernel_rfl) (fun _ _ _ h => h) (Or.inl ⟨by kernel_rfl, ?_⟩) hHeld ?_
              rotate_left
              · intro w' hSw
                (try dsimp only at hSw)
                (try simp only [List.getElem_toArray]); (try simp only [List.getElem_cons_succ]); (try simp only [List.getElem_cons_zero])
                go_simp
                try with_reducible rfl
              (try simp only [Act.put]); (try simp only [List.getElem_toArray]); (try simp only [List.getElem_cons_succ]); (try simp only [List.getElem_cons_zero]); (try simp only [List.setIfInBounds_toArray]); (try simp only [List.set_cons_succ]); (try simp only [List.set_cons_zero])
              refine wpAnyH_take (i := 8) (v := ?_) rfl (by kernel_rfl) (by kernel_rfl) (by kernel_rfl) (fun _ _ _ h => h) (Or.inl ⟨by kernel_rfl, ?_⟩) hHeld ?_
              rotate_left
              · intro w' hSw
                (try dsimp only at hSw)
                (try simp only [List.getElem_toArray]); (try simp only [List.getElem_cons_succ]); (try simp only [List.getElem_cons_zero])
                go_simp
                try with_reducible rfl
              (try simp only [Act.put]); (try simp only [List.getElem_toArray]); (try simp only [List.getElem_cons_succ]); (try simp only [List.getElem_cons_zero]); (try simp only [List.setIfInBounds_toArray]); (try simp only [List.set_cons_succ]); (try simp only [List.set_cons_zero])
              refine wpAnyH_take (i := 9) (v := ?_) rfl (by kernel_rfl) (by kernel_rfl) (by kernel_rfl) (fun _ _ _ h => h) (Or.inl ⟨by kernel_rfl, ?_⟩) hHeld ?_
              rotate_left
              · intro w' hSw
                (try dsimp only at hSw)
                (try simp only [List.getElem_toArray]); (try simp only [List.getElem_cons_succ]); (try simp only [List.getElem_cons_zero])
                go_simp
                try with_reducible rfl
              (try simp only [Act.put]); (try simp only [List.getElem_toArray]); (try simp only [List.getElem_cons_succ]); (try simp only [List.getElem_cons_zero]); (try simp only [List.setIfInBounds_toArray]); (try simp only [List.set_cons_succ]); (try simp only [List.set_cons_zero])
              refine wpAnyH_take (i := 10) (v := undef) rfl (by kernel_rfl) (by kernel_rfl) (by kernel_rfl) (fun _ _ _ h => h) (Or.inr ⟨by kernel_rfl, rfl⟩) hHeld ?_
              (try simp only [Act.put]); (try simp only [List.getElem_toArray]); (try simp only [List.getElem_cons_succ]); (try simp only [List.getElem_cons_zero]); (try simp only [List.setIfInBounds_toArray]); (try simp only [List.set_cons_succ]); (try simp only [List.set_cons_zero])
              refine wpAnyH_take (i := 11) (v := undef) rfl (by kernel_rfl) (by kernel_rfl) (by kernel_rfl) (fun _ _ _ h => h) (Or.inr ⟨by kernel_rfl, rfl⟩) hHeld ?_
              (try simp only [Act.put]); (try simp only [List.getElem_toArray]); (try simp only [List.getElem_cons_succ]); (try simp only [List.getElem_cons_zero]); (try simp only [List.setIfInBounds_toArray]); (try simp only [List.set_cons_succ]); (try simp only [List.set_cons_zero])
              refine wpAnyH_take (i := 12) (v := undef) rfl (by kernel_rfl) (by kernel_rfl) (by kernel_rfl) (fun _ _ _ h => h) (Or.inr ⟨by kernel_rfl, rfl⟩) hHeld ?_
              (try simp only [Act.put]); (try simp only [List.getElem_toArray]); (try simp only [List.getElem_cons_succ]); (try simp only [List.getElem_cons_zero]); (try simp only [List.setIfInBounds_toArray]); (try simp only [List.set_cons_succ]); (try simp only [List.set_cons_zero])
              refine wpAnyH_take (i := 13) (v := undef) rfl (by kernel_rfl) (by kernel_rfl) (by kernel_rfl) (fun _ _ _ h => h) (Or.inr ⟨by kernel_rfl, rfl⟩) hHeld ?_
              (try simp only [Act.put]); (try simp only [List.getElem_toArray]); (try simp only [List.getElem_cons_succ]); (try simp only [List.getElem_cons_zero]); (try simp only [List.setIfInBounds_toArray]); (try simp only [List.set_cons_succ]); (try simp only [List.set_cons_zero])
              refine wpAnyH_take (i := 14) (v := undef) rfl (by kernel_rfl) (by kernel_rfl) (by kernel_rfl) (fun _ _ _ h => h) (Or.inr ⟨by kernel_rfl, rfl⟩) hHeld ?_
              (try simp only [Act.put]); (try simp only [List.getElem_toArray]); (try simp only [List.getElem_cons_succ]); (try simp only [List.getElem_cons_zero]); (try simp only [List.setIfInBounds_toArray]); (try simp only [List.set_cons_succ]); (try simp only [List.set_cons_zero])
              refine wpAnyH_take (i := 15) (v := undef) rfl (by kernel_rfl) (by kernel_rfl) (by kernel_rfl) (fun _ _ _ h => h) (Or.inr ⟨by kernel_rfl, rfl⟩) hHeld ?_
              (try simp only [Act.put]); (try simp only [List.getElem_toArray]); (try simp only [List.getElem_cons_succ]); (try simp only [List.getElem_cons_zero]); (try simp only [List.setIfInBounds_toArray]); (try simp only [List.set_cons_succ]); (try simp only [List.set_cons_zero])
              refine wpAnyH_take (i := 16) (v := ?_) rfl (by kernel_rfl) (by kernel_rfl) (by kernel_rfl) (fun _ _ _ h => h) (Or.inl ⟨by kernel_rfl, ?_⟩) hHeld ?_
              rotate_left
              · intro w' hSw
                (try dsimp only at hSw)
                (try simp only [List.getElem_toArray]); (try simp only [List.getElem_cons_succ]); (try simp only [List.getElem_cons_zero])
                go_simp
                try with_reducible rfl
              (try simp only [Act.put]); (try simp only [List.getElem_toArray]); (try simp only [List.getElem_cons_succ]); (try simp only [List.getElem_cons_zero]); (try simp only [List.setIfInBounds_toArray]); (try simp only [List.set_cons_succ]); (try simp only [List.set_cons_zero])
              refine wpAnyH_take (i := 17) (v := ?_) rfl (by kernel_rfl) (by kernel_rfl) (by kernel_rfl) (fun _ _ _ h => h) (Or.inl ⟨by kernel_rfl, ?_⟩) hHeld ?_
              rotate_left
              · intro w' hSw
                (try dsimp only at hSw)
                (try simp only [List.getElem_toArray]); (try simp only [List.getElem_cons_succ]); (try simp only [List.getElem_cons_zero])
                go_simp
                try with_reducible rfl
              (try simp only [Act.put]); (try simp only [List.getElem_toArray]); (try simp only [List.getElem_cons_succ]); (try simp only [List.getElem_cons_zero]); (try simp only [List.setIfInBounds_toArray]); (try simp only [List.set_cons_succ]); (try simp only [List.set_cons_zero])
              refine wpAnyH_done (by kernel_rfl) ?_ _
              clear hHeld
              have c1x := rowC.cell 1
              (try simp only [List.getElem?_cons_succ] at c1x); (try simp only [List.getElem?_cons_zero] at c1x)
              go_wp2_with fail
              go_fit (told_c Q1 bD W.heap.size (n1 + 1 + 1) A.1 A.2.1 3 c.fSeq _ m1 hC3 hcs)
              rintro e w8 ⟨a8, c8, rfl, -, k8⟩
              replace m1 := m1.keep k8 (fun _ _ => id)
              replace m2 := m2.keep k8 (fun _ _ => id)
              replace rowC := rowC.keep k8 id
              replace kk := kk.trans k8
              clear c1x k8
              have c1x := rowC.cell 1
              (try simp only [List.getElem?_cons_succ] at c1x); (try simp only [List.getElem?_cons_zero] at c1x)
              rw [HT.out]
              go_wp2_with fail
              go_fit (told_c Q2 bF bU (n2 + 1) B.1 B.2.1 3 c.fSeq _ m2 hC3 hcs)
              rintro e w9 ⟨a9, c9, rfl, -, k9⟩
              replace m1 := m1.keep k9 (fun _ _ => id)
              replace m2 := m2.keep k9 (fun _ _ => id)
              replace kk := kk.trans k9
              clear c1x k9 rowC
              obtain ⟨t, ht⟩ : ∃ t, Hid ((toldS B.2.1 3 c.fSeq).2 = t) := ⟨_, rfl⟩
              rw [ht.out]
              clear ht HT
              cases t
              · go_wp2_with fail
                go_roundw
                case rel => exact ⟨k + 1, n1 + 1 + 1, n2 + 1, Q1, Q2, A.1, B.1, A.2.1, B.2.1, congrArg _ (Int.natCast_succ k).symm, h20, up2 hn1, up1 hn2, upl2 hlA hl1 ht1, upl hlB ht2, m1, m2, fun b hb => (gQ.out b hb).1, gQ2, gd2, SM, kk⟩
                case measure => simp [intOf]; omega
              · go_wp2_with fail
                go_roundw
                case rel => exact ⟨k + 1, n1 + 1 + 1, n2 + 1, Q1, Q2, A.1, B.1, A.2.1, B.2.1, congrArg _ (Int.natCast_succ k).symm, h20, up2 hn1, up1 hn2, upl2 hlA hl1 ht1, upl hlB ht2, m1, m2, fun b hb => (gQ.out b hb).1, gQ2, gd2, SM, kk⟩
                case measure => simp [intOf]; omega
          · have hlc' : 200 < c.fData.length := by omega
            go_wp2_with fail
            go_roundw
            case rel => exact ⟨k + 1, n1, n2, O1, O2, tp1, tp2, last1, last2, by go_num, by omega, by omega, by omega, by omega, by omega, m1, m2, g1, g2, gd, sim, kk⟩
            case measure => simp [intOf]; omega
      · obtain rfl : k = 20 := by omega
        go_wp2_with fail
        go_ret
        exact ⟨rfl, kk⟩
    · have hx' : ¬ (k : Int) < (xs.length : Int) := by omega
      clear hx
      go_wp2_with fail
      go_ret
      exact ⟨rfl, kk⟩
end
theorem walk {m0 m1 : Nat} (W : World) (v0 v1 : Value) (h0 : Arg Try.prog W m0 40 v0) (h1 : Arg Try.prog W m1 40 v1) :
    Calls Try.prog 4 #[v0, v1] W fun e w' => e = .returned (.bool true) ∧ Keep Nix W w' := by
  obtain ⟨a, n, ca, rfl, h2⟩ := h0.slice Try.underlying40
  obtain ⟨b, m, cb, rfl, h3⟩ := h1.slice Try.underlying40
  obtain ⟨xs, hx, -⟩ := h2.toList (R := rGCall) (sz := 3) (by' := 40) GCall.size Try.underlying40 (by kernel_rfl) (by kernel_rfl) (by decide) (by decide) redGCall
  obtain ⟨ys, hy, -⟩ := h3.toList (R := rGCall) (sz := 3) (by' := 40) GCall.size Try.underlying40 (by kernel_rfl) (by kernel_rfl) (by decide) (by decide) redGCall
  obtain ⟨rfl, -, -⟩ := rList_len hx
  obtain ⟨rfl, -, -⟩ := rList_len hy
  exact walk' W xs ys a ca b cb hx hy
end dedupApart
end Go.Proofs.Ythchpdflnpfjkaa
