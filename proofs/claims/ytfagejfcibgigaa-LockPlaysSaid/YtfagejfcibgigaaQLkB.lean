/- LOCK: Own: a lock in memory of its own. Printed by mac.py. -/
import Derived.Test.YtfagejfcibgigaaQLkW
import Derived.Deep.DeepCutAuto
import Derived.Deep.CutBlock
namespace Go.Proofs.Ytfagejfcibgigaa
open Go.RowKit

def smallF (h : GHeld) : Prop := h.fKeys.length ≤ 1000 ∧ h.fSpans.length ≤ 1000 ∧ h.fWrites.length ≤ 1000
def OwnPost (w : World) (h : GHeld) (e : Ending) (w' : World) : Prop := ∃ cs : List Value, e = .returned (.agg cs.toArray) ∧ rGHeld w' (NewIn w w') cs h ∧ Keep Nix w w'
def OwnWPost (w : World) (h : GHeld) (e : Ending) (w' : World) : Prop := ∃ cs : List Value, e = .returned (.agg cs.toArray) ∧ wGHeld w' (NewIn w w') cs h ∧ Keep Nix w w'
set_option maxRecDepth 100000 in
set_option maxHeartbeats 4000000 in
theorem ownW_c {p : Nat → Prop} (h : GHeld) (csh : List Value) (w : World) (hh : rGHeld w p csh h) (hs : smallF h) (hp : ∀ b, p b → b < w.heap.size) :
    Calls Try.prog 35 #[.agg csh.toArray] w (OwnWPost w h) := by
  have hh2 := hh
  obtain ⟨aK, cK, aS, cS, aW, cW, rfl, ht, -⟩ := rGHeld_open hh
  have kC : Keep Nix w (((((w.alloc (.cells #[.int .u64 h.fTxn, .slice aK h.fKeys.length cK, .slice aS h.fSpans.length cS, .slice aW h.fWrites.length cW] 28))).alloc (.cells #[.int .u64 0, .slice none 0 0, .slice none 0 0, .slice none 0 0] 28))).alloc (.cells #[.int .u64 h.fTxn, .slice none 0 0, .slice none 0 0, .slice none 0 0] 28)) := (((Keep.refl Nix w).alloc _).alloc _).alloc _
  have rowH : RowIs (((((w.alloc (.cells #[.int .u64 h.fTxn, .slice aK h.fKeys.length cK, .slice aS h.fSpans.length cS, .slice aW h.fWrites.length cW] 28))).alloc (.cells #[.int .u64 0, .slice none 0 0, .slice none 0 0, .slice none 0 0] 28))).alloc (.cells #[.int .u64 h.fTxn, .slice none 0 0, .slice none 0 0, .slice none 0 0] 28)) w.heap.size 28 [.int .u64 h.fTxn, .slice aK h.fKeys.length cK, .slice aS h.fSpans.length cS, .slice aW h.fWrites.length cW] := ((RowIs.alloc w #[.int .u64 h.fTxn, .slice aK h.fKeys.length cK, .slice aS h.fSpans.length cS, .slice aW h.fWrites.length cW] 28).keep ((Keep.refl Nix _).alloc _) id).keep ((Keep.refl Nix _).alloc _) id
  have rowZ : RowIs (((((w.alloc (.cells #[.int .u64 h.fTxn, .slice aK h.fKeys.length cK, .slice aS h.fSpans.length cS, .slice aW h.fWrites.length cW] 28))).alloc (.cells #[.int .u64 0, .slice none 0 0, .slice none 0 0, .slice none 0 0] 28))).alloc (.cells #[.int .u64 h.fTxn, .slice none 0 0, .slice none 0 0, .slice none 0 0] 28)) (w.heap.size + 1) 28 [.int .u64 0, .slice none 0 0, .slice none 0 0, .slice none 0 0] := by
    have h := (RowIs.alloc (w.alloc (.cells #[.int .u64 h.fTxn, .slice aK h.fKeys.length cK, .slice aS h.fSpans.length cS, .slice aW h.fWrites.length cW] 28)) #[.int .u64 0, .slice none 0 0, .slice none 0 0, .slice none 0 0] 28).keep ((Keep.refl Nix _).alloc (.cells #[.int .u64 h.fTxn, .slice none 0 0, .slice none 0 0, .slice none 0 0] 28)) id
    simpa using h
  have rowO : RowIs (((((w.alloc (.cells #[.int .u64 h.fTxn, .slice aK h.fKeys.length cK, .slice aS h.fSpans.length cS, .slice aW h.fWrites.length cW] 28))).alloc (.cells #[.int .u64 0, .slice none 0 0, .slice none 0 0, .slice none 0 0] 28))).alloc (.cells #[.int .u64 h.fTxn, .slice none 0 0, .slice none 0 0, .slice none 0 0] 28)) (w.heap.size + 1 + 1) 28 [.int .u64 h.fTxn, .slice none 0 0, .slice none 0 0, .slice none 0 0] := by
    have h := RowIs.alloc (((w.alloc (.cells #[.int .u64 h.fTxn, .slice aK h.fKeys.length cK, .slice aS h.fSpans.length cS, .slice aW h.fWrites.length cW] 28))).alloc (.cells #[.int .u64 0, .slice none 0 0, .slice none 0 0, .slice none 0 0] 28)) #[.int .u64 h.fTxn, .slice none 0 0, .slice none 0 0, .slice none 0 0] 28
    simpa using h
  have hsz : Hid (((((((w.alloc (.cells #[.int .u64 h.fTxn, .slice aK h.fKeys.length cK, .slice aS h.fSpans.length cS, .slice aW h.fWrites.length cW] 28))).alloc (.cells #[.int .u64 0, .slice none 0 0, .slice none 0 0, .slice none 0 0] 28))).alloc (.cells #[.int .u64 h.fTxn, .slice none 0 0, .slice none 0 0, .slice none 0 0] 28))).heap.size = w.heap.size + 3) := by show _ = _; simp
  have hb1 : h.fKeys.length ≤ 1000 := hs.1
  have hb2 : h.fSpans.length ≤ 1000 := hs.2.1
  have hb3 : h.fWrites.length ≤ 1000 := hs.2.2
  have hinfo : (Try.prog.info? 28).map (·.size) = some 4 := by kernel_rfl
  have y0 := (RowIs.alloc w #[.int .u64 h.fTxn, .slice aK h.fKeys.length cK, .slice aS h.fSpans.length cS, .slice aW h.fWrites.length cW] 28).cell 0
  (try simp only [List.getElem?_cons_zero] at y0)
  have hp0 : ∀ b, p b → b ≠ w.heap.size + 1 + 1 := fun b hb => by have := hp b hb; omega
  have h3 := ((rGHeld_lawful.nix hh2 kC))
  obtain ⟨aK', cK', aS', cS', aW', cW', e, -, hK, hS, hW, -⟩ := rGHeld_open h3
  obtain ⟨rfl, rfl, rfl, rfl, rfl, rfl⟩ : aK = aK' ∧ cK = cK' ∧ aS = aS' ∧ cS = cS' ∧ aW = aW' ∧ cW = cW' := by
    simp only [List.cons.injEq, Value.slice.injEq, and_true, true_and] at e
    exact ⟨e.1.1, e.1.2, e.2.1.1, e.2.1.2, e.2.2.1, e.2.2.2⟩
  have HK := Lib.hid hK
  have HS := Lib.hid hS
  have HW := Lib.hid hW
  clear hK hS hW e h3 hh hh2 hs
  go_enter Try.func35, Try.ntmps35
  go_upto_region 3 with fail
  clear y0
  generalize (((((w.alloc (.cells #[.int .u64 h.fTxn, .slice aK h.fKeys.length cK, .slice aS h.fSpans.length cS, .slice aW h.fWrites.length cW] 28))).alloc (.cells #[.int .u64 0, .slice none 0 0, .slice none 0 0, .slice none 0 0] 28))).alloc (.cells #[.int .u64 h.fTxn, .slice none 0 0, .slice none 0 0, .slice none 0 0] 28)) = w0 at *
  have hgl : w.heap.size + 1 + 1 < w0.heap.size := by have := hsz.out; omega
  obtain ⟨g, HG⟩ : ∃ g, w.heap.size + 1 + 1 = g := ⟨_, rfl⟩
  rw [HG] at rowO hgl hp0 ⊢
  have HG2 := Lib.hid HG
  have HH := Lib.hid rowH
  have HZ := Lib.hid rowZ
  have hDg : w.heap.size < g ∧ w.heap.size + 1 ≠ g := by omega
  clear HG rowH rowZ
  go_loopw [16] (fun i wr => ∃ (k : Nat) (a : Option Addr) (c : Nat) (css : List (List Value)), k ≤ h.fKeys.length ∧ i = .int .i64 k ∧ RowIs wr g 28 [.int .u64 h.fTxn, .slice a k c, .slice none 0 0, .slice none 0 0] ∧ wr.ownsRow w0.heap.size 42 1 (.slice a k c) k css.flatten ∧ Els rBytesW wr (fun b => NewIn w0 wr b ∧ ¬ OwnB (.slice a k c) b) css (h.fKeys.take k) ∧ Keep (· = g) w0 wr) (fun i _ => h.fKeys.length - (intOf i).toNat)
  case atStart => exact ⟨0, none, 0, [], by omega, rfl, rowO, World.ownsRow_nil _ _ _ _, Els.nil _ _ _, Keep.refl _ _⟩
  case round =>
    clear rowO
    obtain ⟨k, a, c, css, hk, rfl, row, own, els, kx⟩ := hrel
    have hsx := kx.size
    by_cases hlt : k < h.fKeys.length
    · have hi0 : (0 : Int) ≤ (k : Int) := by omega
      have hi1 : (k : Int) < (h.fKeys.length : Int) := by omega
      obtain ⟨b, o, _, cs, e1, hpb, hb, rB, hcl⟩ := rList_at rBytes_lawful (by decide) HK.out k hlt
      simp only [List.cons.injEq, Value.slice.injEq, and_true] at e1
      obtain ⟨rfl, -, -⟩ := e1
      have HTK : Hid (h.fKeys.take (k + 1) = h.fKeys.take k ++ [h.fKeys[k]]) := List.take_succ_eq_append_getElem hlt
      generalize h.fKeys[k] = x at *
      obtain ⟨aX, cX, rfl, lX, -, fX⟩ := rB
      have y0 := hcl 0 _ rfl
      (try simp only [Nat.add_zero, Nat.mul_one] at y0)
      replace y0 := (kx.cell (p := ⟨b, o + k, none⟩) hb (hp0 b hpb)).trans y0
      have LX := Lib.hid (lX.keep kx hp0)
      clear hcl lX
      have hfX : x.length ≤ 140737488355328 := by have := fX; unfold far at this; omega
      have kd : Keep Nix wr wr.drew := (Keep.refl Nix wr).drew
      have HSS : Hid (∀ w', Keep (· < wr.heap.size) wr w' → True) := fun _ _ => trivial
      go_upto_region 5 with fail
      clear y0
      refine wp_region_held_drew (S := (fun _ => True)) (by kernel_rfl) (trivial) (fun hHeld => ?_)
      have rowR := row.keep kd id
      have kr := kd
      have kX : Keep (· < wr.heap.size) wr wr.drew := kd.nix
      generalize wr.drew = wd at *
      clear kd
      refine wpAnyH_take (i := 0) (v := ?_) rfl (by kernel_rfl) (by kernel_rfl) (by kernel_rfl) (fun _ _ _ h => h) (Or.inl ⟨by kernel_rfl, ?_⟩) hHeld ?_
      rotate_left
      · intro w' hSw
        (try dsimp only at hSw)
        (try simp only [List.getElem_toArray]); (try simp only [List.getElem_cons_succ]); (try simp only [List.getElem_cons_zero])
        go_simp
        try with_reducible rfl
      (try simp only [Act.put]); (try simp only [List.getElem_toArray]); (try simp only [List.getElem_cons_succ]); (try simp only [List.getElem_cons_zero]); (try simp only [List.setIfInBounds_toArray]); (try simp only [List.set_cons_succ]); (try simp only [List.set_cons_zero])
      refine wpAnyH_take (i := 2) (v := ?_) rfl (by kernel_rfl) (by kernel_rfl) (by kernel_rfl) (fun _ _ _ h => h) (Or.inl ⟨by kernel_rfl, ?_⟩) hHeld ?_
      rotate_left
      · intro w' hSw
        (try dsimp only at hSw)
        (try simp only [List.getElem_toArray]); (try simp only [List.getElem_cons_succ]); (try simp only [List.getElem_cons_zero])
        go_simp
        try with_reducible rfl
      (try simp only [Act.put]); (try simp only [List.getElem_toArray]); (try simp only [List.getElem_cons_succ]); (try simp only [List.getElem_cons_zero]); (try simp only [List.setIfInBounds_toArray]); (try simp only [List.set_cons_succ]); (try simp only [List.set_cons_zero])
      refine wpAnyH_ready (rs := [1, 3]) (by kernel_rfl) (by simp) ?_
      refine AllReadyH.cons rfl (fun K hK => ?_) (AllReadyH.cons rfl (fun K hK => ?_) AllReadyH.nil)
      · have z1 := rowR.cell 1
        (try simp only [List.getElem?_cons_succ] at z1); (try simp only [List.getElem?_cons_zero] at z1)
        (try simp only [List.getElem_toArray]); (try simp only [List.getElem_cons_succ]); (try simp only [List.getElem_cons_zero])
        go_simp
        clear z1
        refine hK.out _ _ ((HSS.out _ kX)) (fun hHeld => ?_)
        clear hK K
        (try simp only [Act.put]); (try simp only [List.getElem_toArray]); (try simp only [List.getElem_cons_succ]); (try simp only [List.getElem_cons_zero]); (try simp only [List.setIfInBounds_toArray]); (try simp only [List.set_cons_succ]); (try simp only [List.set_cons_zero])
        refine wpAnyH_ready (rs := [3]) (by kernel_rfl) (by simp) ?_
        refine AllReadyH.cons rfl (fun K hK => ?_) AllReadyH.nil
        (try simp only [List.getElem_toArray]); (try simp only [List.getElem_cons_succ]); (try simp only [List.getElem_cons_zero])
        go_simp
        go_fit (cl_c aX x.length cX x _ rfl (LX.out.keep kr (fun _ _ h => h)) hfX)
        rintro e w1 ⟨nX, mX, rfl, ownX, k1⟩
        go_wp2_with fail
        replace rowR := rowR.keep k1 id
        have hsX := kr.size
        have kfX := k1
        replace kr := kr.trans k1
        replace kX := kX.trans k1.nix
        refine hK.out _ _ ((HSS.out _ kX)) (fun hHeld => ?_)
        clear hK K
        (try simp only [Act.put]); (try simp only [List.getElem_toArray]); (try simp only [List.getElem_cons_succ]); (try simp only [List.getElem_cons_zero]); (try simp only [List.setIfInBounds_toArray]); (try simp only [List.set_cons_succ]); (try simp only [List.set_cons_zero])
        refine wpAnyH_ready (rs := [4]) (by kernel_rfl) (by simp) ?_
        refine AllReadyH.cons rfl (fun K hK => ?_) AllReadyH.nil
        (try simp only [List.getElem_toArray]); (try simp only [List.getElem_cons_succ]); (try simp only [List.getElem_cons_zero])
        go_simp
        have rowP := rowR
        have kXP := kX
        replace rowR := rowR.keep ((Keep.refl Nix w1).alloc (.cells #[.slice nX x.length mX] 42)) id
        replace kX := kX.trans ((Keep.refl Nix w1).alloc (.cells #[.slice nX x.length mX] 42)).nix
        refine hK.out _ _ ((HSS.out _ kX)) (fun hHeld => ?_)
        clear hK K
        (try simp only [Act.put]); (try simp only [List.getElem_toArray]); (try simp only [List.getElem_cons_succ]); (try simp only [List.getElem_cons_zero]); (try simp only [List.setIfInBounds_toArray]); (try simp only [List.set_cons_succ]); (try simp only [List.set_cons_zero])
        refine wpAnyH_ready (rs := [5]) (by kernel_rfl) (by simp) ?_
        refine AllReadyH.cons rfl (fun K hK => ?_) AllReadyH.nil
        have e6 : rBytesW w1 (NewIn wr w1) [.slice nX x.length mX] x := ⟨nX, mX, rfl, (LiesW.of_owned2 ownX).mono (fun b hb => ⟨Nat.le_trans hsX hb.1, (ownX.lt b hb.2).2⟩), (owned_bounds ownX).2.1, fX⟩
        refine step_append1 (w := w1) (cs := [.slice nX x.length mX]) T_lB (by rfl) (.tmp 21) (.tmp 24) (by rfl) w0.heap.size (by rfl) (by rfl) (owned_keep own kr (fun _ _ h => h)) (by rfl) (by rfl) (by unfold maxLen; omega) (by omega) (Nat.le_trans hsx kr.size) ?_
        intro a' cap' w6 own6 k6 hfresh
        have hge : ∀ b, OwnB (.slice a k c) b → w0.heap.size ≤ b ∧ b < wr.heap.size := fun b hb => own.lt b hb
        have row6 := rowP.keep k6 (fun h => by have := hge _ h; omega)
        have els6 := els.push0 rBytesW_lawful e6 kr k6 hsx (fun b hb => (hge b hb).2) hfresh
        have kk6 := (kx.trans kr.nix).then k6 (fun i hi hb => by have := hge _ hb; omega)
        have kX6 := kXP.then k6 (fun i hi hb => (hge _ hb).2)
        refine hK.out _ _ ((HSS.out _ kX6)) (fun hHeld => ?_)
        clear hK K
        (try simp only [Act.put]); (try simp only [List.getElem_toArray]); (try simp only [List.getElem_cons_succ]); (try simp only [List.getElem_cons_zero]); (try simp only [List.setIfInBounds_toArray]); (try simp only [List.set_cons_succ]); (try simp only [List.set_cons_zero])
        refine wpAnyH_take (i := 6) (v := ?_) rfl (by kernel_rfl) (by kernel_rfl) (by kernel_rfl) (fun _ _ _ h => h) (Or.inl ⟨by kernel_rfl, ?_⟩) hHeld ?_
        rotate_left
        · intro w' hSw
          (try dsimp only at hSw)
          (try simp only [List.getElem_toArray]); (try simp only [List.getElem_cons_succ]); (try simp only [List.getElem_cons_zero])
          go_simp
          try with_reducible rfl
        (try simp only [Act.put]); (try simp only [List.getElem_toArray]); (try simp only [List.getElem_cons_succ]); (try simp only [List.getElem_cons_zero]); (try simp only [List.setIfInBounds_toArray]); (try simp only [List.set_cons_succ]); (try simp only [List.set_cons_zero])
        refine wpAnyH_ready (rs := [7]) (by kernel_rfl) (by simp) ?_
        refine AllReadyH.cons rfl (fun K hK => ?_) AllReadyH.nil
        have z1 := row6.cell 1
        have zf := row6.frozen 1
        (try simp only [List.getElem?_cons_succ] at z1); (try simp only [List.getElem?_cons_zero] at z1)
        (try simp only [List.getElem_toArray]); (try simp only [List.getElem_cons_succ]); (try simp only [List.getElem_cons_zero])
        go_simp
        clear z1 zf
        have hsS : Hid ((w6.setCell ⟨g, 1, none⟩ (.slice a' (k + 1) cap')).heap.size = w6.heap.size) := by show _ = _; simp [World.setCell]
        have kS : Keep (· = g) w6 (w6.setCell ⟨g, 1, none⟩ (.slice a' (k + 1) cap')) := (Keep.refl (· = g) w6).setCell (p := ⟨g, 1, none⟩) (fun _ => rfl) _
        have row7 := row6.set 1 (.slice a' (k + 1) cap')
        (try simp only [List.set_cons_succ] at row7); (try simp only [List.set_cons_zero] at row7)
        have hnw : ∀ b, OwnB (.slice a' (k + 1) cap') b → b ≠ g := fun b hb => by
          rcases hfresh b hb with h | h
          · have := hge _ h; omega
          · have := kr.size; omega
        have own7 := owned_keep own6 kS hnw
        have els7 := (els6.keep rBytesW_lawful kS (fun b hb e => by have := hb.1.1; omega)).mono (q := fun b => NewIn w0 (w6.setCell ⟨g, 1, none⟩ (.slice a' (k + 1) cap')) b ∧ ¬ OwnB (.slice a' (k + 1) cap') b) rBytesW_lawful (fun b hb => ⟨⟨hb.1.1, by rw [hsS.out]; exact hb.1.2⟩, hb.2⟩)
        have kk7 := kk6.trans kS
        have kX7 := kX6.then kS (fun i hi e => by omega)
        refine hK.out _ _ ((HSS.out _ kX7)) (fun hHeld => ?_)
        clear hK K
        (try simp only [Act.put]); (try simp only [List.getElem_toArray]); (try simp only [List.getElem_cons_succ]); (try simp only [List.getElem_cons_zero]); (try simp only [List.setIfInBounds_toArray]); (try simp only [List.set_cons_succ]); (try simp only [List.set_cons_zero])
        refine wpAnyH_done (by kernel_rfl) ?_ _
        clear hHeld
        have HR := Lib.hid row7
        have HO := Lib.hid own7
        have HE := Lib.hid els7
        have HQ := Lib.hid kk7
        clear row7 own7 els7 kk7 row6 own6 els6 kk6 kS kr rowR rowP own els kX kX6 kX7 kXP
        go_wp2_with fail
        go_roundw
        case rel => exact ⟨k + 1, a', cap', css ++ [[.slice nX x.length mX]], by omega, by go_num, HR.out, by simpa using HO.out, by rw [HTK.out]; exact HE.out, HQ.out⟩
        case measure => simp [intOf]; omega
      · (try simp only [List.getElem_toArray]); (try simp only [List.getElem_cons_succ]); (try simp only [List.getElem_cons_zero])
        go_simp
        go_fit (cl_c aX x.length cX x _ rfl (LX.out.keep kr (fun _ _ h => h)) hfX)
        rintro e w1 ⟨nX, mX, rfl, ownX, k1⟩
        go_wp2_with fail
        replace rowR := rowR.keep k1 id
        have hsX := kr.size
        have kfX := k1
        replace kr := kr.trans k1
        replace kX := kX.trans k1.nix
        refine hK.out _ _ ((HSS.out _ kX)) (fun hHeld => ?_)
        clear hK K
        (try simp only [Act.put]); (try simp only [List.getElem_toArray]); (try simp only [List.getElem_cons_succ]); (try simp only [List.getElem_cons_zero]); (try simp only [List.setIfInBounds_toArray]); (try simp only [List.set_cons_succ]); (try simp only [List.set_cons_zero])
        refine wpAnyH_ready (rs := [1, 4]) (by kernel_rfl) (by simp) ?_
        refine AllReadyH.cons rfl (fun K hK => ?_) (AllReadyH.cons rfl (fun K hK => ?_) AllReadyH.nil)
        · have z1 := rowR.cell 1
          (try simp only [List.getElem?_cons_succ] at z1); (try simp only [List.getElem?_cons_zero] at z1)
          (try simp only [List.getElem_toArray]); (try simp only [List.getElem_cons_succ]); (try simp only [List.getElem_cons_zero])
          go_simp
          clear z1
          refine hK.out _ _ ((HSS.out _ kX)) (fun hHeld => ?_)
          clear hK K
          (try simp only [Act.put]); (try simp only [List.getElem_toArray]); (try simp only [List.getElem_cons_succ]); (try simp only [List.getElem_cons_zero]); (try simp only [List.setIfInBounds_toArray]); (try simp only [List.set_cons_succ]); (try simp only [List.set_cons_zero])
          refine wpAnyH_ready (rs := [4]) (by kernel_rfl) (by simp) ?_
          refine AllReadyH.cons rfl (fun K hK => ?_) AllReadyH.nil
          (try simp only [List.getElem_toArray]); (try simp only [List.getElem_cons_succ]); (try simp only [List.getElem_cons_zero])
          go_simp
          have rowP := rowR
          have kXP := kX
          replace rowR := rowR.keep ((Keep.refl Nix w1).alloc (.cells #[.slice nX x.length mX] 42)) id
          replace kX := kX.trans ((Keep.refl Nix w1).alloc (.cells #[.slice nX x.length mX] 42)).nix
          refine hK.out _ _ ((HSS.out _ kX)) (fun hHeld => ?_)
          clear hK K
          (try simp only [Act.put]); (try simp only [List.getElem_toArray]); (try simp only [List.getElem_cons_succ]); (try simp only [List.getElem_cons_zero]); (try simp only [List.setIfInBounds_toArray]); (try simp only [List.set_cons_succ]); (try simp only [List.set_cons_zero])
          refine wpAnyH_ready (rs := [5]) (by kernel_rfl) (by simp) ?_
          refine AllReadyH.cons rfl (fun K hK => ?_) AllReadyH.nil
          have e6 : rBytesW w1 (NewIn wr w1) [.slice nX x.length mX] x := ⟨nX, mX, rfl, (LiesW.of_owned2 ownX).mono (fun b hb => ⟨Nat.le_trans hsX hb.1, (ownX.lt b hb.2).2⟩), (owned_bounds ownX).2.1, fX⟩
          refine step_append1 (w := w1) (cs := [.slice nX x.length mX]) T_lB (by rfl) (.tmp 21) (.tmp 24) (by rfl) w0.heap.size (by rfl) (by rfl) (owned_keep own kr (fun _ _ h => h)) (by rfl) (by rfl) (by unfold maxLen; omega) (by omega) (Nat.le_trans hsx kr.size) ?_
          intro a' cap' w6 own6 k6 hfresh
          have hge : ∀ b, OwnB (.slice a k c) b → w0.heap.size ≤ b ∧ b < wr.heap.size := fun b hb => own.lt b hb
          have row6 := rowP.keep k6 (fun h => by have := hge _ h; omega)
          have els6 := els.push0 rBytesW_lawful e6 kr k6 hsx (fun b hb => (hge b hb).2) hfresh
          have kk6 := (kx.trans kr.nix).then k6 (fun i hi hb => by have := hge _ hb; omega)
          have kX6 := kXP.then k6 (fun i hi hb => (hge _ hb).2)
          refine hK.out _ _ ((HSS.out _ kX6)) (fun hHeld => ?_)
          clear hK K
          (try simp only [Act.put]); (try simp only [List.getElem_toArray]); (try simp only [List.getElem_cons_succ]); (try simp only [List.getElem_cons_zero]); (try simp only [List.setIfInBounds_toArray]); (try simp only [List.set_cons_succ]); (try simp only [List.set_cons_zero])
          refine wpAnyH_take (i := 6) (v := ?_) rfl (by kernel_rfl) (by kernel_rfl) (by kernel_rfl) (fun _ _ _ h => h) (Or.inl ⟨by kernel_rfl, ?_⟩) hHeld ?_
          rotate_left
          · intro w' hSw
            (try dsimp only at hSw)
            (try simp only [List.getElem_toArray]); (try simp only [List.getElem_cons_succ]); (try simp only [List.getElem_cons_zero])
            go_simp
            try with_reducible rfl
          (try simp only [Act.put]); (try simp only [List.getElem_toArray]); (try simp only [List.getElem_cons_succ]); (try simp only [List.getElem_cons_zero]); (try simp only [List.setIfInBounds_toArray]); (try simp only [List.set_cons_succ]); (try simp only [List.set_cons_zero])
          refine wpAnyH_ready (rs := [7]) (by kernel_rfl) (by simp) ?_
          refine AllReadyH.cons rfl (fun K hK => ?_) AllReadyH.nil
          have z1 := row6.cell 1
          have zf := row6.frozen 1
          (try simp only [List.getElem?_cons_succ] at z1); (try simp only [List.getElem?_cons_zero] at z1)
          (try simp only [List.getElem_toArray]); (try simp only [List.getElem_cons_succ]); (try simp only [List.getElem_cons_zero])
          go_simp
          clear z1 zf
          have hsS : Hid ((w6.setCell ⟨g, 1, none⟩ (.slice a' (k + 1) cap')).heap.size = w6.heap.size) := by show _ = _; simp [World.setCell]
          have kS : Keep (· = g) w6 (w6.setCell ⟨g, 1, none⟩ (.slice a' (k + 1) cap')) := (Keep.refl (· = g) w6).setCell (p := ⟨g, 1, none⟩) (fun _ => rfl) _
          have row7 := row6.set 1 (.slice a' (k + 1) cap')
          (try simp only [List.set_cons_succ] at row7); (try simp only [List.set_cons_zero] at row7)
          have hnw : ∀ b, OwnB (.slice a' (k + 1) cap') b → b ≠ g := fun b hb => by
            rcases hfresh b hb with h | h
            · have := hge _ h; omega
            · have := kr.size; omega
          have own7 := owned_keep own6 kS hnw
          have els7 := (els6.keep rBytesW_lawful kS (fun b hb e => by have := hb.1.1; omega)).mono (q := fun b => NewIn w0 (w6.setCell ⟨g, 1, none⟩ (.slice a' (k + 1) cap')) b ∧ ¬ OwnB (.slice a' (k + 1) cap') b) rBytesW_lawful (fun b hb => ⟨⟨hb.1.1, by rw [hsS.out]; exact hb.1.2⟩, hb.2⟩)
          have kk7 := kk6.trans kS
          have kX7 := kX6.then kS (fun i hi e => by omega)
          refine hK.out _ _ ((HSS.out _ kX7)) (fun hHeld => ?_)
          clear hK K
          (try simp only [Act.put]); (try simp only [List.getElem_toArray]); (try simp only [List.getElem_cons_succ]); (try simp only [List.getElem_cons_zero]); (try simp only [List.setIfInBounds_toArray]); (try simp only [List.set_cons_succ]); (try simp only [List.set_cons_zero])
          refine wpAnyH_done (by kernel_rfl) ?_ _
          clear hHeld
          have HR := Lib.hid row7
          have HO := Lib.hid own7
          have HE := Lib.hid els7
          have HQ := Lib.hid kk7
          clear row7 own7 els7 kk7 row6 own6 els6 kk6 kS kr rowR rowP own els kX kX6 kX7 kXP
          go_wp2_with fail
          go_roundw
          case rel => exact ⟨k + 1, a', cap', css ++ [[.slice nX x.length mX]], by omega, by go_num, HR.out, by simpa using HO.out, by rw [HTK.out]; exact HE.out, HQ.out⟩
          case measure => simp [intOf]; omega
        · (try simp only [List.getElem_toArray]); (try simp only [List.getElem_cons_succ]); (try simp only [List.getElem_cons_zero])
          go_simp
          have rowP := rowR
          have kXP := kX
          replace rowR := rowR.keep ((Keep.refl Nix w1).alloc (.cells #[.slice nX x.length mX] 42)) id
          replace kX := kX.trans ((Keep.refl Nix w1).alloc (.cells #[.slice nX x.length mX] 42)).nix
          refine hK.out _ _ ((HSS.out _ kX)) (fun hHeld => ?_)
          clear hK K
          (try simp only [Act.put]); (try simp only [List.getElem_toArray]); (try simp only [List.getElem_cons_succ]); (try simp only [List.getElem_cons_zero]); (try simp only [List.setIfInBounds_toArray]); (try simp only [List.set_cons_succ]); (try simp only [List.set_cons_zero])
          refine wpAnyH_ready (rs := [1]) (by kernel_rfl) (by simp) ?_
          refine AllReadyH.cons rfl (fun K hK => ?_) AllReadyH.nil
          have z1 := rowR.cell 1
          (try simp only [List.getElem?_cons_succ] at z1); (try simp only [List.getElem?_cons_zero] at z1)
          (try simp only [List.getElem_toArray]); (try simp only [List.getElem_cons_succ]); (try simp only [List.getElem_cons_zero])
          go_simp
          clear z1
          refine hK.out _ _ ((HSS.out _ kX)) (fun hHeld => ?_)
          clear hK K
          (try simp only [Act.put]); (try simp only [List.getElem_toArray]); (try simp only [List.getElem_cons_succ]); (try simp only [List.getElem_cons_zero]); (try simp only [List.setIfInBounds_toArray]); (try simp only [List.set_cons_succ]); (try simp only [List.set_cons_zero])
          refine wpAnyH_ready (rs := [5]) (by kernel_rfl) (by simp) ?_
          refine AllReadyH.cons rfl (fun K hK => ?_) AllReadyH.nil
          have e6 : rBytesW w1 (NewIn wr w1) [.slice nX x.length mX] x := ⟨nX, mX, rfl, (LiesW.of_owned2 ownX).mono (fun b hb => ⟨Nat.le_trans hsX hb.1, (ownX.lt b hb.2).2⟩), (owned_bounds ownX).2.1, fX⟩
          refine step_append1 (w := w1) (cs := [.slice nX x.length mX]) T_lB (by rfl) (.tmp 21) (.tmp 24) (by rfl) w0.heap.size (by rfl) (by rfl) (owned_keep own kr (fun _ _ h => h)) (by rfl) (by rfl) (by unfold maxLen; omega) (by omega) (Nat.le_trans hsx kr.size) ?_
          intro a' cap' w6 own6 k6 hfresh
          have hge : ∀ b, OwnB (.slice a k c) b → w0.heap.size ≤ b ∧ b < wr.heap.size := fun b hb => own.lt b hb
          have row6 := rowP.keep k6 (fun h => by have := hge _ h; omega)
          have els6 := els.push0 rBytesW_lawful e6 kr k6 hsx (fun b hb => (hge b hb).2) hfresh
          have kk6 := (kx.trans kr.nix).then k6 (fun i hi hb => by have := hge _ hb; omega)
          have kX6 := kXP.then k6 (fun i hi hb => (hge _ hb).2)
          refine hK.out _ _ ((HSS.out _ kX6)) (fun hHeld => ?_)
          clear hK K
          (try simp only [Act.put]); (try simp only [List.getElem_toArray]); (try simp only [List.getElem_cons_succ]); (try simp only [List.getElem_cons_zero]); (try simp only [List.setIfInBounds_toArray]); (try simp only [List.set_cons_succ]); (try simp only [List.set_cons_zero])
          refine wpAnyH_take (i := 6) (v := ?_) rfl (by kernel_rfl) (by kernel_rfl) (by kernel_rfl) (fun _ _ _ h => h) (Or.inl ⟨by kernel_rfl, ?_⟩) hHeld ?_
          rotate_left
          · intro w' hSw
            (try dsimp only at hSw)
            (try simp only [List.getElem_toArray]); (try simp only [List.getElem_cons_succ]); (try simp only [List.getElem_cons_zero])
            go_simp
            try with_reducible rfl
          (try simp only [Act.put]); (try simp only [List.getElem_toArray]); (try simp only [List.getElem_cons_succ]); (try simp only [List.getElem_cons_zero]); (try simp only [List.setIfInBounds_toArray]); (try simp only [List.set_cons_succ]); (try simp only [List.set_cons_zero])
          refine wpAnyH_ready (rs := [7]) (by kernel_rfl) (by simp) ?_
          refine AllReadyH.cons rfl (fun K hK => ?_) AllReadyH.nil
          have z1 := row6.cell 1
          have zf := row6.frozen 1
          (try simp only [List.getElem?_cons_succ] at z1); (try simp only [List.getElem?_cons_zero] at z1)
          (try simp only [List.getElem_toArray]); (try simp only [List.getElem_cons_succ]); (try simp only [List.getElem_cons_zero])
          go_simp
          clear z1 zf
          have hsS : Hid ((w6.setCell ⟨g, 1, none⟩ (.slice a' (k + 1) cap')).heap.size = w6.heap.size) := by show _ = _; simp [World.setCell]
          have kS : Keep (· = g) w6 (w6.setCell ⟨g, 1, none⟩ (.slice a' (k + 1) cap')) := (Keep.refl (· = g) w6).setCell (p := ⟨g, 1, none⟩) (fun _ => rfl) _
          have row7 := row6.set 1 (.slice a' (k + 1) cap')
          (try simp only [List.set_cons_succ] at row7); (try simp only [List.set_cons_zero] at row7)
          have hnw : ∀ b, OwnB (.slice a' (k + 1) cap') b → b ≠ g := fun b hb => by
            rcases hfresh b hb with h | h
            · have := hge _ h; omega
            · have := kr.size; omega
          have own7 := owned_keep own6 kS hnw
          have els7 := (els6.keep rBytesW_lawful kS (fun b hb e => by have := hb.1.1; omega)).mono (q := fun b => NewIn w0 (w6.setCell ⟨g, 1, none⟩ (.slice a' (k + 1) cap')) b ∧ ¬ OwnB (.slice a' (k + 1) cap') b) rBytesW_lawful (fun b hb => ⟨⟨hb.1.1, by rw [hsS.out]; exact hb.1.2⟩, hb.2⟩)
          have kk7 := kk6.trans kS
          have kX7 := kX6.then kS (fun i hi e => by omega)
          refine hK.out _ _ ((HSS.out _ kX7)) (fun hHeld => ?_)
          clear hK K
          (try simp only [Act.put]); (try simp only [List.getElem_toArray]); (try simp only [List.getElem_cons_succ]); (try simp only [List.getElem_cons_zero]); (try simp only [List.setIfInBounds_toArray]); (try simp only [List.set_cons_succ]); (try simp only [List.set_cons_zero])
          refine wpAnyH_done (by kernel_rfl) ?_ _
          clear hHeld
          have HR := Lib.hid row7
          have HO := Lib.hid own7
          have HE := Lib.hid els7
          have HQ := Lib.hid kk7
          clear row7 own7 els7 kk7 row6 own6 els6 kk6 kS kr rowR rowP own els kX kX6 kX7 kXP
          go_wp2_with fail
          go_roundw
          case rel => exact ⟨k + 1, a', cap', css ++ [[.slice nX x.length mX]], by omega, by go_num, HR.out, by simpa using HO.out, by rw [HTK.out]; exact HE.out, HQ.out⟩
          case measure => simp [intOf]; omega
    · obtain rfl : k = h.fKeys.length := by omega
      rw [List.take_length] at els
      have RK := Lib.hid (Els.list (Nat.le_refl _) own els rBytesW_lawful rfl (by unfold far; omega))
      have rowH := HH.out.keep kx (by omega)
      have y2 := rowH.cell 2
      (try simp only [List.getElem?_cons_succ] at y2); (try simp only [List.getElem?_cons_zero] at y2)
      clear own els rowH
      go_upto_region 8 with fail
      clear y2
      obtain ⟨v0, HV0⟩ : ∃ v, v = wr := ⟨_, rfl⟩
      rw [← HV0]
      rw [← HV0] at RK row hsx
      rw [← HV0] at kx
      have kA1 := kx
      have hg0 := row.lt
      clear HV0 kx hlt hk
      obtain ⟨a1, Ha1⟩ : ∃ v, v = a := ⟨_, rfl⟩
      obtain ⟨c1, Hc1⟩ : ∃ v, v = c := ⟨_, rfl⟩
      rw [← Ha1, ← Hc1] at RK row
      clear Ha1 Hc1
      have rowO2 := row
      clear row
      go_loopw [31] (fun i wr => ∃ (k : Nat) (a : Option Addr) (c : Nat) (css : List (List Value)), k ≤ h.fSpans.length ∧ i = .int .i64 k ∧ RowIs wr g 28 [.int .u64 h.fTxn, .slice a1 h.fKeys.length c1, .slice a k c, .slice none 0 0] ∧ wr.ownsRow v0.heap.size 46 2 (.slice a k c) k css.flatten ∧ Els rGSpan wr (fun b => NewIn v0 wr b ∧ ¬ OwnB (.slice a k c) b) css (h.fSpans.take k) ∧ Keep (· = g) v0 wr) (fun i _ => h.fSpans.length - (intOf i).toNat)
      case atStart => exact ⟨0, none, 0, [], by omega, rfl, rowO2, World.ownsRow_nil _ _ _ _, Els.nil _ _ _, Keep.refl _ _⟩
      case round =>
        clear rowO2
        obtain ⟨k, a, c, css, hk, rfl, row, own, els, kx⟩ := hrel
        have hsx := kx.size
        by_cases hlt : k < h.fSpans.length
        · have hi0 : (0 : Int) ≤ (k : Int) := by omega
          have hi1 : (k : Int) < (h.fSpans.length : Int) := by omega
          obtain ⟨b, o, _, cs, e1, hpb, hb, rB, hcl⟩ := rList_at rGSpan_lawful (by decide) HS.out k hlt
          simp only [List.cons.injEq, Value.slice.injEq, and_true] at e1
          obtain ⟨rfl, -, -⟩ := e1
          have HTK : Hid (h.fSpans.take (k + 1) = h.fSpans.take k ++ [h.fSpans[k]]) := List.take_succ_eq_append_getElem hlt
          generalize h.fSpans[k] = x at *
          obtain ⟨aX, cX, aY, cY, rfl, ⟨lX, -, fX⟩, ⟨lY, -, fY⟩, -⟩ := rGSpan_open rB
          have kw := kA1.trans kx
          have y0 := hcl 0 _ rfl
          have y1 := hcl 1 _ rfl
          (try simp only [Nat.add_zero] at y0)
          replace y0 := (kw.cell (p := ⟨b, o + k * 2, none⟩) hb (hp0 b hpb)).trans y0
          replace y1 := (kw.cell (p := ⟨b, o + k * 2 + 1, none⟩) hb (hp0 b hpb)).trans y1
          have LX := Lib.hid (lX.keep kw hp0)
          have LY := Lib.hid (lY.keep kw hp0)
          clear hcl lX lY rB
          have hfX : x.fFrom.length ≤ 140737488355328 := by have := fX; unfold far at this; omega
          have hfY : x.fTo.length ≤ 140737488355328 := by have := fY; unfold far at this; omega
          have kd : Keep Nix wr (wr.alloc (.cells #[.slice aX x.fFrom.length cX, .slice aY x.fTo.length cY] 46)) := (Keep.refl Nix wr).alloc _
          have rowX := RowIs.alloc wr #[.slice aX x.fFrom.length cX, .slice aY x.fTo.length cY] 46
          have rowR := row.keep kd id
          have hlX : wr.heap.size < ((wr.alloc (.cells #[.slice aX x.fFrom.length cX, .slice aY x.fTo.length cY] 46))).heap.size := rowX.lt
          go_upto_region 10 with fail
          clear y0 y1
          have HSS : Hid (∀ w', Keep (· < wr.heap.size) (wr.alloc (.cells #[.slice aX x.fFrom.length cX, .slice aY x.fTo.length cY] 46)) w' → w'.cell? ⟨wr.heap.size, 0, none⟩ = some (.slice aX x.fFrom.length cX) ∧ w'.cell? ⟨wr.heap.size, 1, none⟩ = some (.slice aY x.fTo.length cY)) := fun w' kk => by
            have rw' := rowX.keep kk (Nat.lt_irrefl _)
            exact ⟨by simpa using rw'.cell 0, by simpa using rw'.cell 1⟩
          have kX : Keep (· < wr.heap.size) (wr.alloc (.cells #[.slice aX x.fFrom.length cX, .slice aY x.fTo.length cY] 46)) ((wr.alloc (.cells #[.slice aX x.fFrom.length cX, .slice aY x.fTo.length cY] 46))).drew := (Keep.refl _ _).drew
          have HS0 := HSS.out _ kX
          replace rowR := rowR.keep ((Keep.refl Nix (wr.alloc (.cells #[.slice aX x.fFrom.length cX, .slice aY x.fTo.length cY] 46))).drew) id
          have kr : Keep Nix wr ((wr.alloc (.cells #[.slice aX x.fFrom.length cX, .slice aY x.fTo.length cY] 46))).drew := kd.drew
          generalize (wr.alloc (.cells #[.slice aX x.fFrom.length cX, .slice aY x.fTo.length cY] 46)) = wa at *
          clear kd rowX
          refine wp_region_held_drew (S := (fun w' => w'.cell? ⟨wr.heap.size, 0, none⟩ = some (.slice aX x.fFrom.length cX) ∧ w'.cell? ⟨wr.heap.size, 1, none⟩ = some (.slice aY x.fTo.length cY))) (by kernel_rfl) (HS0) (fun hHeld => ?_)
          generalize wa.drew = wd at *
          clear HS0
          refine wpAnyH_take (i := 0) (v := ?_) rfl (by kernel_rfl) (by kernel_rfl) (by kernel_rfl) (fun _ _ _ h => h) (Or.inl ⟨by kernel_rfl, ?_⟩) hHeld ?_
          rotate_left
          · intro w' hSw
            (try dsimp only at hSw)
            (try simp only [List.getElem_toArray]); (try simp only [List.getElem_cons_succ]); (try simp only [List.getElem_cons_zero])
            go_simp
            try with_reducible rfl
          (try simp only [Act.put]); (try simp only [List.getElem_toArray]); (try simp only [List.getElem_cons_succ]); (try simp only [List.getElem_cons_zero]); (try simp only [List.setIfInBounds_toArray]); (try simp only [List.set_cons_succ]); (try simp only [List.set_cons_zero])
          refine wpAnyH_take (i := 2) (v := ?_) rfl (by kernel_rfl) (by kernel_rfl) (by kernel_rfl) (fun _ _ _ h => h) (Or.inl ⟨by kernel_rfl, ?_⟩) hHeld ?_
          rotate_left
          · intro w' hSw
            (try dsimp only at hSw)
            (try simp only [List.getElem_toArray]); (try simp only [List.getElem_cons_succ]); (try simp only [List.getElem_cons_zero])
            go_simp
            try with_reducible rfl
          (try simp only [Act.put]); (try simp only [List.getElem_toArray]); (try simp only [List.getElem_cons_succ]); (try simp only [List.getElem_cons_zero]); (try simp only [List.setIfInBounds_toArray]); (try simp only [List.set_cons_succ]); (try simp only [List.set_cons_zero])
          refine wpAnyH_take (i := 3) (v := ?_) rfl (by kernel_rfl) (by kernel_rfl) (by kernel_rfl) (fun _ _ _ h => h) (Or.inl ⟨by kernel_rfl, ?_⟩) hHeld ?_
          rotate_left
          · intro w' hSw
            (try dsimp only at hSw)
            (try simp only [List.getElem_toArray]); (try simp only [List.getElem_cons_succ]); (try simp only [List.getElem_cons_zero])
            go_simp
            try with_reducible rfl
          (try simp only [Act.put]); (try simp only [List.getElem_toArray]); (try simp only [List.getElem_cons_succ]); (try simp only [List.getElem_cons_zero]); (try simp only [List.setIfInBounds_toArray]); (try simp only [List.set_cons_succ]); (try simp only [List.set_cons_zero])
          refine wpAnyH_take (i := 5) (v := ?_) rfl (by kernel_rfl) (by kernel_rfl) (by kernel_rfl) (fun _ _ _ h => h) (Or.inl ⟨by kernel_rfl, ?_⟩) hHeld ?_
          rotate_left
          · intro w' hSw
            (try dsimp only at hSw)
            (try simp only [List.getElem_toArray]); (try simp only [List.getElem_cons_succ]); (try simp only [List.getElem_cons_zero])
            go_simp
            try with_reducible rfl
          (try simp only [Act.put]); (try simp only [List.getElem_toArray]); (try simp only [List.getElem_cons_succ]); (try simp only [List.getElem_cons_zero]); (try simp only [List.setIfInBounds_toArray]); (try simp only [List.set_cons_succ]); (try simp only [List.set_cons_zero])
          refine wpAnyH_take (i := 6) (v := ?_) rfl (by kernel_rfl) (by kernel_rfl) (by kernel_rfl) (fun _ _ _ h => h) (Or.inl ⟨by kernel_rfl, ?_⟩) hHeld ?_
          rotate_left
          · intro w' hSw
            (try dsimp only at hSw)
            (try simp only [List.getElem_toArray]); (try simp only [List.getElem_cons_succ]); (try simp only [List.getElem_cons_zero])
            go_simp
            try with_reducible rfl
          (try simp only [Act.put]); (try simp only [List.getElem_toArray]); (try simp only [List.getElem_cons_succ]); (try simp only [List.getElem_cons_zero]); (try simp only [List.setIfInBounds_toArray]); (try simp only [List.set_cons_succ]); (try simp only [List.set_cons_zero])
          refine wpAnyH_ready (rs := [1, 4]) (by kernel_rfl) (by simp) ?_
          refine AllReadyH.cons rfl (fun K hK => ?_) (AllReadyH.cons rfl (fun K hK => ?_) AllReadyH.nil)
          · have z1 := rowR.cell 2
            (try simp only [List.getElem?_cons_succ] at z1); (try simp only [List.getElem?_cons_zero] at z1)
            (try simp only [List.getElem_toArray]); (try simp only [List.getElem_cons_succ]); (try simp only [List.getElem_cons_zero])
            go_simp
            clear z1
            refine hK.out _ _ ((HSS.out _ kX)) (fun hHeld => ?_)
            clear hK K
            (try simp only [Act.put]); (try simp only [List.getElem_toArray]); (try simp only [List.getElem_cons_succ]); (try simp only [List.getElem_cons_zero]); (try simp only [List.setIfInBounds_toArray]); (try simp only [List.set_cons_succ]); (try simp only [List.set_cons_zero])
            refine wpAnyH_ready (rs := [4]) (by kernel_rfl) (by simp) ?_
            refine AllReadyH.cons rfl (fun K hK => ?_) AllReadyH.nil
            (try simp only [List.getElem_toArray]); (try simp only [List.getElem_cons_succ]); (try simp only [List.getElem_cons_zero])
            go_simp
            go_fit (cl_c aX x.fFrom.length cX x.fFrom _ rfl (LX.out.keep kr (fun _ _ h => h)) hfX)
            rintro e w1 ⟨nX, mX, rfl, ownX, k1⟩
            go_wp2_with fail
            replace rowR := rowR.keep k1 id
            have hsX := kr.size
            have kfX := k1
            replace kr := kr.trans k1
            replace kX := kX.trans k1.nix
            refine hK.out _ _ ((HSS.out _ kX)) (fun hHeld => ?_)
            clear hK K
            (try simp only [Act.put]); (try simp only [List.getElem_toArray]); (try simp only [List.getElem_cons_succ]); (try simp only [List.getElem_cons_zero]); (try simp only [List.setIfInBounds_toArray]); (try simp only [List.set_cons_succ]); (try simp only [List.set_cons_zero])
            refine wpAnyH_ready (rs := [7]) (by kernel_rfl) (by simp) ?_
            refine AllReadyH.cons rfl (fun K hK => ?_) AllReadyH.nil
            (try simp only [List.getElem_toArray]); (try simp only [List.getElem_cons_succ]); (try simp only [List.getElem_cons_zero])
            go_simp
            go_fit (cl_c aY x.fTo.length cY x.fTo _ rfl (LY.out.keep kr (fun _ _ h => h)) hfY)
            rintro e w2 ⟨nY, mY, rfl, ownY, k1⟩
            go_wp2_with fail
            replace rowR := rowR.keep k1 id
            have hsY := kr.size
            have kfY := k1
            replace kr := kr.trans k1
            replace kX := kX.trans k1.nix
            refine hK.out _ _ ((HSS.out _ kX)) (fun hHeld => ?_)
            clear hK K
            (try simp only [Act.put]); (try simp only [List.getElem_toArray]); (try simp only [List.getElem_cons_succ]); (try simp only [List.getElem_cons_zero]); (try simp only [List.setIfInBounds_toArray]); (try simp only [List.set_cons_succ]); (try simp only [List.set_cons_zero])
            replace ownX := owned_keep ownX kfY (fun _ _ h => h)
            refine wpAnyH_take (i := 8) (v := ?_) rfl (by kernel_rfl) (by kernel_rfl) (by kernel_rfl) (fun _ _ _ h => h) (Or.inl ⟨by kernel_rfl, ?_⟩) hHeld ?_
            rotate_left
            · intro w' hSw
              (try dsimp only at hSw)
              (try simp only [List.getElem_toArray]); (try simp only [List.getElem_cons_succ]); (try simp only [List.getElem_cons_zero])
              go_simp
              try with_reducible rfl
            (try simp only [Act.put]); (try simp only [List.getElem_toArray]); (try simp only [List.getElem_cons_succ]); (try simp only [List.getElem_cons_zero]); (try simp only [List.setIfInBounds_toArray]); (try simp only [List.set_cons_succ]); (try simp only [List.set_cons_zero])
            refine wpAnyH_ready (rs := [9]) (by kernel_rfl) (by simp) ?_
            refine AllReadyH.cons rfl (fun K hK => ?_) AllReadyH.nil
            (try simp only [List.getElem_toArray]); (try simp only [List.getElem_cons_succ]); (try simp only [List.getElem_cons_zero])
            go_simp
            have rowP := rowR
            have kXP := kX
            replace rowR := rowR.keep ((Keep.refl Nix w2).alloc (.cells #[.slice nX x.fFrom.length mX, .slice nY x.fTo.length mY] 46)) id
            replace kX := kX.trans ((Keep.refl Nix w2).alloc (.cells #[.slice nX x.fFrom.length mX, .slice nY x.fTo.length mY] 46)).nix
            refine hK.out _ _ ((HSS.out _ kX)) (fun hHeld => ?_)
            clear hK K
            (try simp only [Act.put]); (try simp only [List.getElem_toArray]); (try simp only [List.getElem_cons_succ]); (try simp only [List.getElem_cons_zero]); (try simp only [List.setIfInBounds_toArray]); (try simp only [List.set_cons_succ]); (try simp only [List.set_cons_zero])
            refine wpAnyH_ready (rs := [10]) (by kernel_rfl) (by simp) ?_
            refine AllReadyH.cons rfl (fun K hK => ?_) AllReadyH.nil
            have e6 : rGSpan w2 (NewIn wr w2) [.slice nX x.fFrom.length mX, .slice nY x.fTo.length mY] x := rGSpan_mk w2 _ ⟨(Lies.of_owned ownX).mono (fun b hb => ⟨Nat.le_trans hsX hb.1, (ownX.lt b hb.2).2⟩), (owned_bounds ownX).2.1, fX⟩ ⟨(Lies.of_owned ownY).mono (fun b hb => ⟨Nat.le_trans hsY hb.1, (ownY.lt b hb.2).2⟩), (owned_bounds ownY).2.1, fY⟩
            refine step_append1 (w := w2) (cs := [.slice nX x.fFrom.length mX, .slice nY x.fTo.length mY]) T_lSpan (by rfl) (.tmp 36) (.tmp 44) (by rfl) v0.heap.size (by rfl) (by rfl) (owned_keep own kr (fun _ _ h => h)) (by rfl) (by rfl) (by unfold maxLen; omega) (by omega) (Nat.le_trans hsx kr.size) ?_
            intro a' cap' w6 own6 k6 hfresh
            have hge : ∀ b, OwnB (.slice a k c) b → v0.heap.size ≤ b ∧ b < wr.heap.size := fun b hb => own.lt b hb
            have row6 := rowP.keep k6 (fun h => by have := hge _ h; omega)
            have els6 := els.push0 rGSpan_lawful e6 kr k6 hsx (fun b hb => (hge b hb).2) hfresh
            have kk6 := (kx.trans kr.nix).then k6 (fun i hi hb => by have := hge _ hb; omega)
            have kX6 := kXP.then k6 (fun i hi hb => (hge _ hb).2)
            refine hK.out _ _ ((HSS.out _ kX6)) (fun hHeld => ?_)
            clear hK K
            (try simp only [Act.put]); (try simp only [List.getElem_toArray]); (try simp only [List.getElem_cons_succ]); (try simp only [List.getElem_cons_zero]); (try simp only [List.setIfInBounds_toArray]); (try simp only [List.set_cons_succ]); (try simp only [List.set_cons_zero])
            refine wpAnyH_take (i := 11) (v := ?_) rfl (by kernel_rfl) (by kernel_rfl) (by kernel_rfl) (fun _ _ _ h => h) (Or.inl ⟨by kernel_rfl, ?_⟩) hHeld ?_
            rotate_left
            · intro w' hSw
              (try dsimp only at hSw)
              (try simp only [List.getElem_toArray]); (try simp only [List.getElem_cons_succ]); (try simp only [List.getElem_cons_zero])
              go_simp
              try with_reducible rfl
            (try simp only [Act.put]); (try simp only [List.getElem_toArray]); (try simp only [List.getElem_cons_succ]); (try simp only [List.getElem_cons_zero]); (try simp only [List.setIfInBounds_toArray]); (try simp only [List.set_cons_succ]); (try simp only [List.set_cons_zero])
            refine wpAnyH_ready (rs := [12]) (by kernel_rfl) (by simp) ?_
            refine AllReadyH.cons rfl (fun K hK => ?_) AllReadyH.nil
            have z1 := row6.cell 2
            have zf := row6.frozen 2
            (try simp only [List.getElem?_cons_succ] at z1); (try simp only [List.getElem?_cons_zero] at z1)
            (try simp only [List.getElem_toArray]); (try simp only [List.getElem_cons_succ]); (try simp only [List.getElem_cons_zero])
            go_simp
            clear z1 zf
            have hsS : Hid ((w6.setCell ⟨g, 2, none⟩ (.slice a' (k + 1) cap')).heap.size = w6.heap.size) := by show _ = _; simp [World.setCell]
            have kS : Keep (· = g) w6 (w6.setCell ⟨g, 2, none⟩ (.slice a' (k + 1) cap')) := (Keep.refl (· = g) w6).setCell (p := ⟨g, 2, none⟩) (fun _ => rfl) _
            have row7 := row6.set 2 (.slice a' (k + 1) cap')
            (try simp only [List.set_cons_succ] at row7); (try simp only [List.set_cons_zero] at row7)
            have hnw : ∀ b, OwnB (.slice a' (k + 1) cap') b → b ≠ g := fun b hb => by
              rcases hfresh b hb with h | h
              · have := hge _ h; omega
              · have := kr.size; omega
            have own7 := owned_keep own6 kS hnw
            have els7 := (els6.keep rGSpan_lawful kS (fun b hb e => by have := hb.1.1; omega)).mono (q := fun b => NewIn v0 (w6.setCell ⟨g, 2, none⟩ (.slice a' (k + 1) cap')) b ∧ ¬ OwnB (.slice a' (k + 1) cap') b) rGSpan_lawful (fun b hb => ⟨⟨hb.1.1, by rw [hsS.out]; exact hb.1.2⟩, hb.2⟩)
            have kk7 := kk6.trans kS
            have kX7 := kX6.then kS (fun i hi e => by omega)
            refine hK.out _ _ ((HSS.out _ kX7)) (fun hHeld => ?_)
            clear hK K
            (try simp only [Act.put]); (try simp only [List.getElem_toArray]); (try simp only [List.getElem_cons_succ]); (try simp only [List.getElem_cons_zero]); (try simp only [List.setIfInBounds_toArray]); (try simp only [List.set_cons_succ]); (try simp only [List.set_cons_zero])
            refine wpAnyH_done (by kernel_rfl) ?_ _
            clear hHeld
            have HR := Lib.hid row7
            have HO := Lib.hid own7
            have HE := Lib.hid els7
            have HQ := Lib.hid kk7
            clear row7 own7 els7 kk7 row6 own6 els6 kk6 kS kr rowR rowP own els kX kX6 kX7 kXP
            go_wp2_with fail
            go_roundw
            case rel => exact ⟨k + 1, a', cap', css ++ [[.slice nX x.fFrom.length mX, .slice nY x.fTo.length mY]], by omega, by go_num, HR.out, by simpa using HO.out, by rw [HTK.out]; exact HE.out, HQ.out⟩
            case measure => simp [intOf]; omega
          · (try simp only [List.getElem_toArray]); (try simp only [List.getElem_cons_succ]); (try simp only [List.getElem_cons_zero])
            go_simp
            go_fit (cl_c aX x.fFrom.length cX x.fFrom _ rfl (LX.out.keep kr (fun _ _ h => h)) hfX)
            rintro e w1 ⟨nX, mX, rfl, ownX, k1⟩
            go_wp2_with fail
            replace rowR := rowR.keep k1 id
            have hsX := kr.size
            have kfX := k1
            replace kr := kr.trans k1
            replace kX := kX.trans k1.nix
            refine hK.out _ _ ((HSS.out _ kX)) (fun hHeld => ?_)
            clear hK K
            (try simp only [Act.put]); (try simp only [List.getElem_toArray]); (try simp only [List.getElem_cons_succ]); (try simp only [List.getElem_cons_zero]); (try simp only [List.setIfInBounds_toArray]); (try simp only [List.set_cons_succ]); (try simp only [List.set_cons_zero])
            refine wpAnyH_ready (rs := [1, 7]) (by kernel_rfl) (by simp) ?_
            refine AllReadyH.cons rfl (fun K hK => ?_) (AllReadyH.cons rfl (fun K hK => ?_) AllReadyH.nil)
            · have z1 := rowR.cell 2
              (try simp only [List.getElem?_cons_succ] at z1); (try simp only [List.getElem?_cons_zero] at z1)
              (try simp only [List.getElem_toArray]); (try simp only [List.getElem_cons_succ]); (try simp only [List.getElem_cons_zero])
              go_simp
              clear z1
              refine hK.out _ _ ((HSS.out _ kX)) (fun hHeld => ?_)
              clear hK K
              (try simp only [Act.put]); (try simp only [List.getElem_toArray]); (try simp only [List.getElem_cons_succ]); (try simp only [List.getElem_cons_zero]); (try simp only [List.setIfInBounds_toArray]); (try simp only [List.set_cons_succ]); (try simp only [List.set_cons_zero])
              refine wpAnyH_ready (rs := [7]) (by kernel_rfl) (by simp) ?_
              refine AllReadyH.cons rfl (fun K hK => ?_) AllReadyH.nil
              (try simp only [List.getElem_toArray]); (try simp only [List.getElem_cons_succ]); (try simp only [List.getElem_cons_zero])
              go_simp
              go_fit (cl_c aY x.fTo.length cY x.fTo _ rfl (LY.out.keep kr (fun _ _ h => h)) hfY)
              rintro e w2 ⟨nY, mY, rfl, ownY, k1⟩
              go_wp2_with fail
              replace rowR := rowR.keep k1 id
              have hsY := kr.size
              have kfY := k1
              replace kr := kr.trans k1
              replace kX := kX.trans k1.nix
              refine hK.out _ _ ((HSS.out _ kX)) (fun hHeld => ?_)
              clear hK K
              (try simp only [Act.put]); (try simp only [List.getElem_toArray]); (try simp only [List.getElem_cons_succ]); (try simp only [List.getElem_cons_zero]); (try simp only [List.setIfInBounds_toArray]); (try simp only [List.set_cons_succ]); (try simp only [List.set_cons_zero])
              replace ownX := owned_keep ownX kfY (fun _ _ h => h)
              refine wpAnyH_take (i := 8) (v := ?_) rfl (by kernel_rfl) (by kernel_rfl) (by kernel_rfl) (fun _ _ _ h => h) (Or.inl ⟨by kernel_rfl, ?_⟩) hHeld ?_
              rotate_left
              · intro w' hSw
                (try dsimp only at hSw)
                (try simp only [List.getElem_toArray]); (try simp only [List.getElem_cons_succ]); (try simp only [List.getElem_cons_zero])
                go_simp
                try with_reducible rfl
              (try simp only [Act.put]); (try simp only [List.getElem_toArray]); (try simp only [List.getElem_cons_succ]); (try simp only [List.getElem_cons_zero]); (try simp only [List.setIfInBounds_toArray]); (try simp only [List.set_cons_succ]); (try simp only [List.set_cons_zero])
              refine wpAnyH_ready (rs := [9]) (by kernel_rfl) (by simp) ?_
              refine AllReadyH.cons rfl (fun K hK => ?_) AllReadyH.nil
              (try simp only [List.getElem_toArray]); (try simp only [List.getElem_cons_succ]); (try simp only [List.getElem_cons_zero])
              go_simp
              have rowP := rowR
              have kXP := kX
              replace rowR := rowR.keep ((Keep.refl Nix w2).alloc (.cells #[.slice nX x.fFrom.length mX, .slice nY x.fTo.length mY] 46)) id
              replace kX := kX.trans ((Keep.refl Nix w2).alloc (.cells #[.slice nX x.fFrom.length mX, .slice nY x.fTo.length mY] 46)).nix
              refine hK.out _ _ ((HSS.out _ kX)) (fun hHeld => ?_)
              clear hK K
              (try simp only [Act.put]); (try simp only [List.getElem_toArray]); (try simp only [List.getElem_cons_succ]); (try simp only [List.getElem_cons_zero]); (try simp only [List.setIfInBounds_toArray]); (try simp only [List.set_cons_succ]); (try simp only [List.set_cons_zero])
              refine wpAnyH_ready (rs := [10]) (by kernel_rfl) (by simp) ?_
              refine AllReadyH.cons rfl (fun K hK => ?_) AllReadyH.nil
              have e6 : rGSpan w2 (NewIn wr w2) [.slice nX x.fFrom.length mX, .slice nY x.fTo.length mY] x := rGSpan_mk w2 _ ⟨(Lies.of_owned ownX).mono (fun b hb => ⟨Nat.le_trans hsX hb.1, (ownX.lt b hb.2).2⟩), (owned_bounds ownX).2.1, fX⟩ ⟨(Lies.of_owned ownY).mono (fun b hb => ⟨Nat.le_trans hsY hb.1, (ownY.lt b hb.2).2⟩), (owned_bounds ownY).2.1, fY⟩
              refine step_append1 (w := w2) (cs := [.slice nX x.fFrom.length mX, .slice nY x.fTo.length mY]) T_lSpan (by rfl) (.tmp 36) (.tmp 44) (by rfl) v0.heap.size (by rfl) (by rfl) (owned_keep own kr (fun _ _ h => h)) (by rfl) (by rfl) (by unfold maxLen; omega) (by omega) (Nat.le_trans hsx kr.size) ?_
              intro a' cap' w6 own6 k6 hfresh
              have hge : ∀ b, OwnB (.slice a k c) b → v0.heap.size ≤ b ∧ b < wr.heap.size := fun b hb => own.lt b hb
              have row6 := rowP.keep k6 (fun h => by have := hge _ h; omega)
              have els6 := els.push0 rGSpan_lawful e6 kr k6 hsx (fun b hb => (hge b hb).2) hfresh
              have kk6 := (kx.trans kr.nix).then k6 (fun i hi hb => by have := hge _ hb; omega)
              have kX6 := kXP.then k6 (fun i hi hb => (hge _ hb).2)
              refine hK.out _ _ ((HSS.out _ kX6)) (fun hHeld => ?_)
              clear hK K
              (try simp only [Act.put]); (try simp only [List.getElem_toArray]); (try simp only [List.getElem_cons_succ]); (try simp only [List.getElem_cons_zero]); (try simp only [List.setIfInBounds_toArray]); (try simp only [List.set_cons_succ]); (try simp only [List.set_cons_zero])
              refine wpAnyH_take (i := 11) (v := ?_) rfl (by kernel_rfl) (by kernel_rfl) (by kernel_rfl) (fun _ _ _ h => h) (Or.inl ⟨by kernel_rfl, ?_⟩) hHeld ?_
              rotate_left
              · intro w' hSw
                (try dsimp only at hSw)
                (try simp only [List.getElem_toArray]); (try simp only [List.getElem_cons_succ]); (try simp only [List.getElem_cons_zero])
                go_simp
                try with_reducible rfl
              (try simp only [Act.put]); (try simp only [List.getElem_toArray]); (try simp only [List.getElem_cons_succ]); (try simp only [List.getElem_cons_zero]); (try simp only [List.setIfInBounds_toArray]); (try simp only [List.set_cons_succ]); (try simp only [List.set_cons_zero])
              refine wpAnyH_ready (rs := [12]) (by kernel_rfl) (by simp) ?_
              refine AllReadyH.cons rfl (fun K hK => ?_) AllReadyH.nil
              have z1 := row6.cell 2
              have zf := row6.frozen 2
              (try simp only [List.getElem?_cons_succ] at z1); (try simp only [List.getElem?_cons_zero] at z1)
              (try simp only [List.getElem_toArray]); (try simp only [List.getElem_cons_succ]); (try simp only [List.getElem_cons_zero])
              go_simp
              clear z1 zf
              have hsS : Hid ((w6.setCell ⟨g, 2, none⟩ (.slice a' (k + 1) cap')).heap.size = w6.heap.size) := by show _ = _; simp [World.setCell]
              have kS : Keep (· = g) w6 (w6.setCell ⟨g, 2, none⟩ (.slice a' (k + 1) cap')) := (Keep.refl (· = g) w6).setCell (p := ⟨g, 2, none⟩) (fun _ => rfl) _
              have row7 := row6.set 2 (.slice a' (k + 1) cap')
              (try simp only [List.set_cons_succ] at row7); (try simp only [List.set_cons_zero] at row7)
              have hnw : ∀ b, OwnB (.slice a' (k + 1) cap') b → b ≠ g := fun b hb => by
                rcases hfresh b hb with h | h
                · have := hge _ h; omega
                · have := kr.size; omega
              have own7 := owned_keep own6 kS hnw
              have els7 := (els6.keep rGSpan_lawful kS (fun b hb e => by have := hb.1.1; omega)).mono (q := fun b => NewIn v0 (w6.setCell ⟨g, 2, none⟩ (.slice a' (k + 1) cap')) b ∧ ¬ OwnB (.slice a' (k + 1) cap') b) rGSpan_lawful (fun b hb => ⟨⟨hb.1.1, by rw [hsS.out]; exact hb.1.2⟩, hb.2⟩)
              have kk7 := kk6.trans kS
              have kX7 := kX6.then kS (fun i hi e => by omega)
              refine hK.out _ _ ((HSS.out _ kX7)) (fun hHeld => ?_)
              clear hK K
              (try simp only [Act.put]); (try simp only [List.getElem_toArray]); (try simp only [List.getElem_cons_succ]); (try simp only [List.getElem_cons_zero]); (try simp only [List.setIfInBounds_toArray]); (try simp only [List.set_cons_succ]); (try simp only [List.set_cons_zero])
              refine wpAnyH_done (by kernel_rfl) ?_ _
              clear hHeld
              have HR := Lib.hid row7
              have HO := Lib.hid own7
              have HE := Lib.hid els7
              have HQ := Lib.hid kk7
              clear row7 own7 els7 kk7 row6 own6 els6 kk6 kS kr rowR rowP own els kX kX6 kX7 kXP
              go_wp2_with fail
              go_roundw
              case rel => exact ⟨k + 1, a', cap', css ++ [[.slice nX x.fFrom.length mX, .slice nY x.fTo.length mY]], by omega, by go_num, HR.out, by simpa using HO.out, by rw [HTK.out]; exact HE.out, HQ.out⟩
              case measure => simp [intOf]; omega
            · (try simp only [List.getElem_toArray]); (try simp only [List.getElem_cons_succ]); (try simp only [List.getElem_cons_zero])
              go_simp
              go_fit (cl_c aY x.fTo.length cY x.fTo _ rfl (LY.out.keep kr (fun _ _ h => h)) hfY)
              rintro e w2 ⟨nY, mY, rfl, ownY, k1⟩
              go_wp2_with fail
              replace rowR := rowR.keep k1 id
              have hsY := kr.size
              have kfY := k1
              replace kr := kr.trans k1
              replace kX := kX.trans k1.nix
              refine hK.out _ _ ((HSS.out _ kX)) (fun hHeld => ?_)
              clear hK K
              (try simp only [Act.put]); (try simp only [List.getElem_toArray]); (try simp only [List.getElem_cons_succ]); (try simp only [List.getElem_cons_zero]); (try simp only [List.setIfInBounds_toArray]); (try simp only [List.set_cons_succ]); (try simp only [List.set_cons_zero])
              replace ownX := owned_keep ownX kfY (fun _ _ h => h)
              refine wpAnyH_take (i := 8) (v := ?_) rfl (by kernel_rfl) (by kernel_rfl) (by kernel_rfl) (fun _ _ _ h => h) (Or.inl ⟨by kernel_rfl, ?_⟩) hHeld ?_
              rotate_left
              · intro w' hSw
                (try dsimp only at hSw)
                (try simp only [List.getElem_toArray]); (try simp only [List.getElem_cons_succ]); (try simp only [List.getElem_cons_zero])
                go_simp
                try with_reducible rfl
              (try simp only [Act.put]); (try simp only [List.getElem_toArray]); (try simp only [List.getElem_cons_succ]); (try simp only [List.getElem_cons_zero]); (try simp only [List.setIfInBounds_toArray]); (try simp only [List.set_cons_succ]); (try simp only [List.set_cons_zero])
              refine wpAnyH_ready (rs := [1, 9]) (by kernel_rfl) (by simp) ?_
              refine AllReadyH.cons rfl (fun K hK => ?_) (AllReadyH.cons rfl (fun K hK => ?_) AllReadyH.nil)
              · have z1 := rowR.cell 2
                (try simp only [List.getElem?_cons_succ] at z1); (try simp only [List.getElem?_cons_zero] at z1)
                (try simp only [List.getElem_toArray]); (try simp only [List.getElem_cons_succ]); (try simp only [List.getElem_cons_zero])
                go_simp
                clear z1
                refine hK.out _ _ ((HSS.out _ kX)) (fun hHeld => ?_)
                clear hK K
                (try simp only [Act.put]); (try simp only [List.getElem_toArray]); (try simp only [List.getElem_cons_succ]); (try simp only [List.getElem_cons_zero]); (try simp only [List.setIfInBounds_toArray]); (try simp only [List.set_cons_succ]); (try simp only [List.set_cons_zero])
                refine wpAnyH_ready (rs := [9]) (by kernel_rfl) (by simp) ?_
                refine AllReadyH.cons rfl (fun K hK => ?_) AllReadyH.nil
                (try simp only [List.getElem_toArray]); (try simp only [List.getElem_cons_succ]); (try simp only [List.getElem_cons_zero])
                go_simp
                have rowP := rowR
                have kXP := kX
                replace rowR := rowR.keep ((Keep.refl Nix w2).alloc (.cells #[.slice nX x.fFrom.length mX, .slice nY x.fTo.length mY] 46)) id
                replace kX := kX.trans ((Keep.refl Nix w2).alloc (.cells #[.slice nX x.fFrom.length mX, .slice nY x.fTo.length mY] 46)).nix
                refine hK.out _ _ ((HSS.out _ kX)) (fun hHeld => ?_)
                clear hK K
                (try simp only [Act.put]); (try simp only [List.getElem_toArray]); (try simp only [List.getElem_cons_succ]); (try simp only [List.getElem_cons_zero]); (try simp only [List.setIfInBounds_toArray]); (try simp only [List.set_cons_succ]); (try simp only [List.set_cons_zero])
                refine wpAnyH_ready (rs := [10]) (by kernel_rfl) (by simp) ?_
                refine AllReadyH.cons rfl (fun K hK => ?_) AllReadyH.nil
                have e6 : rGSpan w2 (NewIn wr w2) [.slice nX x.fFrom.length mX, .slice nY x.fTo.length mY] x := rGSpan_mk w2 _ ⟨(Lies.of_owned ownX).mono (fun b hb => ⟨Nat.le_trans hsX hb.1, (ownX.lt b hb.2).2⟩), (owned_bounds ownX).2.1, fX⟩ ⟨(Lies.of_owned ownY).mono (fun b hb => ⟨Nat.le_trans hsY hb.1, (ownY.lt b hb.2).2⟩), (owned_bounds ownY).2.1, fY⟩
                refine step_append1 (w := w2) (cs := [.slice nX x.fFrom.length mX, .slice nY x.fTo.length mY]) T_lSpan (by rfl) (.tmp 36) (.tmp 44) (by rfl) v0.heap.size (by rfl) (by rfl) (owned_keep own kr (fun _ _ h => h)) (by rfl) (by rfl) (by unfold maxLen; omega) (by omega) (Nat.le_trans hsx kr.size) ?_
                intro a' cap' w6 own6 k6 hfresh
                have hge : ∀ b, OwnB (.slice a k c) b → v0.heap.size ≤ b ∧ b < wr.heap.size := fun b hb => own.lt b hb
                have row6 := rowP.keep k6 (fun h => by have := hge _ h; omega)
                have els6 := els.push0 rGSpan_lawful e6 kr k6 hsx (fun b hb => (hge b hb).2) hfresh
                have kk6 := (kx.trans kr.nix).then k6 (fun i hi hb => by have := hge _ hb; omega)
                have kX6 := kXP.then k6 (fun i hi hb => (hge _ hb).2)
                refine hK.out _ _ ((HSS.out _ kX6)) (fun hHeld => ?_)
                clear hK K
                (try simp only [Act.put]); (try simp only [List.getElem_toArray]); (try simp only [List.getElem_cons_succ]); (try simp only [List.getElem_cons_zero]); (try simp only [List.setIfInBounds_toArray]); (try simp only [List.set_cons_succ]); (try simp only [List.set_cons_zero])
                refine wpAnyH_take (i := 11) (v := ?_) rfl (by kernel_rfl) (by kernel_rfl) (by kernel_rfl) (fun _ _ _ h => h) (Or.inl ⟨by kernel_rfl, ?_⟩) hHeld ?_
                rotate_left
                · intro w' hSw
                  (try dsimp only at hSw)
                  (try simp only [List.getElem_toArray]); (try simp only [List.getElem_cons_succ]); (try simp only [List.getElem_cons_zero])
                  go_simp
                  try with_reducible rfl
                (try simp only [Act.put]); (try simp only [List.getElem_toArray]); (try simp only [List.getElem_cons_succ]); (try simp only [List.getElem_cons_zero]); (try simp only [List.setIfInBounds_toArray]); (try simp only [List.set_cons_succ]); (try simp only [List.set_cons_zero])
                refine wpAnyH_ready (rs := [12]) (by kernel_rfl) (by simp) ?_
                refine AllReadyH.cons rfl (fun K hK => ?_) AllReadyH.nil
                have z1 := row6.cell 2
                have zf := row6.frozen 2
                (try simp only [List.getElem?_cons_succ] at z1); (try simp only [List.getElem?_cons_zero] at z1)
                (try simp only [List.getElem_toArray]); (try simp only [List.getElem_cons_succ]); (try simp only [List.getElem_cons_zero])
                go_simp
                clear z1 zf
                have hsS : Hid ((w6.setCell ⟨g, 2, none⟩ (.slice a' (k + 1) cap')).heap.size = w6.heap.size) := by show _ = _; simp [World.setCell]
                have kS : Keep (· = g) w6 (w6.setCell ⟨g, 2, none⟩ (.slice a' (k + 1) cap')) := (Keep.refl (· = g) w6).setCell (p := ⟨g, 2, none⟩) (fun _ => rfl) _
                have row7 := row6.set 2 (.slice a' (k + 1) cap')
                (try simp only [List.set_cons_succ] at row7); (try simp only [List.set_cons_zero] at row7)
                have hnw : ∀ b, OwnB (.slice a' (k + 1) cap') b → b ≠ g := fun b hb => by
                  rcases hfresh b hb with h | h
                  · have := hge _ h; omega
                  · have := kr.size; omega
                have own7 := owned_keep own6 kS hnw
                have els7 := (els6.keep rGSpan_lawful kS (fun b hb e => by have := hb.1.1; omega)).mono (q := fun b => NewIn v0 (w6.setCell ⟨g, 2, none⟩ (.slice a' (k + 1) cap')) b ∧ ¬ OwnB (.slice a' (k + 1) cap') b) rGSpan_lawful (fun b hb => ⟨⟨hb.1.1, by rw [hsS.out]; exact hb.1.2⟩, hb.2⟩)
                have kk7 := kk6.trans kS
                have kX7 := kX6.then kS (fun i hi e => by omega)
                refine hK.out _ _ ((HSS.out _ kX7)) (fun hHeld => ?_)
                clear hK K
                (try simp only [Act.put]); (try simp only [List.getElem_toArray]); (try simp only [List.getElem_cons_succ]); (try simp only [List.getElem_cons_zero]); (try simp only [List.setIfInBounds_toArray]); (try simp only [List.set_cons_succ]); (try simp only [List.set_cons_zero])
                refine wpAnyH_done (by kernel_rfl) ?_ _
                clear hHeld
                have HR := Lib.hid row7
                have HO := Lib.hid own7
                have HE := Lib.hid els7
                have HQ := Lib.hid kk7
                clear row7 own7 els7 kk7 row6 own6 els6 kk6 kS kr rowR rowP own els kX kX6 kX7 kXP
                go_wp2_with fail
                go_roundw
                case rel => exact ⟨k + 1, a', cap', css ++ [[.slice nX x.fFrom.length mX, .slice nY x.fTo.length mY]], by omega, by go_num, HR.out, by simpa using HO.out, by rw [HTK.out]; exact HE.out, HQ.out⟩
                case measure => simp [intOf]; omega
              · (try simp only [List.getElem_toArray]); (try simp only [List.getElem_cons_succ]); (try simp only [List.getElem_cons_zero])
                go_simp
                have rowP := rowR
                have kXP := kX
                replace rowR := rowR.keep ((Keep.refl Nix w2).alloc (.cells #[.slice nX x.fFrom.length mX, .slice nY x.fTo.length mY] 46)) id
                replace kX := kX.trans ((Keep.refl Nix w2).alloc (.cells #[.slice nX x.fFrom.length mX, .slice nY x.fTo.length mY] 46)).nix
                refine hK.out _ _ ((HSS.out _ kX)) (fun hHeld => ?_)
                clear hK K
                (try simp only [Act.put]); (try simp only [List.getElem_toArray]); (try simp only [List.getElem_cons_succ]); (try simp only [List.getElem_cons_zero]); (try simp only [List.setIfInBounds_toArray]); (try simp only [List.set_cons_succ]); (try simp only [List.set_cons_zero])
                refine wpAnyH_ready (rs := [1]) (by kernel_rfl) (by simp) ?_
                refine AllReadyH.cons rfl (fun K hK => ?_) AllReadyH.nil
                have z1 := rowR.cell 2
                (try simp only [List.getElem?_cons_succ] at z1); (try simp only [List.getElem?_cons_zero] at z1)
                (try simp only [List.getElem_toArray]); (try simp only [List.getElem_cons_succ]); (try simp only [List.getElem_cons_zero])
                go_simp
                clear z1
                refine hK.out _ _ ((HSS.out _ kX)) (fun hHeld => ?_)
                clear hK K
                (try simp only [Act.put]); (try simp only [List.getElem_toArray]); (try simp only [List.getElem_cons_succ]); (try simp only [List.getElem_cons_zero]); (try simp only [List.setIfInBounds_toArray]); (try simp only [List.set_cons_succ]); (try simp only [List.set_cons_zero])
                refine wpAnyH_ready (rs := [10]) (by kernel_rfl) (by simp) ?_
                refine AllReadyH.cons rfl (fun K hK => ?_) AllReadyH.nil
                have e6 : rGSpan w2 (NewIn wr w2) [.slice nX x.fFrom.length mX, .slice nY x.fTo.length mY] x := rGSpan_mk w2 _ ⟨(Lies.of_owned ownX).mono (fun b hb => ⟨Nat.le_trans hsX hb.1, (ownX.lt b hb.2).2⟩), (owned_bounds ownX).2.1, fX⟩ ⟨(Lies.of_owned ownY).mono (fun b hb => ⟨Nat.le_trans hsY hb.1, (ownY.lt b hb.2).2⟩), (owned_bounds ownY).2.1, fY⟩
                refine step_append1 (w := w2) (cs := [.slice nX x.fFrom.length mX, .slice nY x.fTo.length mY]) T_lSpan (by rfl) (.tmp 36) (.tmp 44) (by rfl) v0.heap.size (by rfl) (by rfl) (owned_keep own kr (fun _ _ h => h)) (by rfl) (by rfl) (by unfold maxLen; omega) (by omega) (Nat.le_trans hsx kr.size) ?_
                intro a' cap' w6 own6 k6 hfresh
                have hge : ∀ b, OwnB (.slice a k c) b → v0.heap.size ≤ b ∧ b < wr.heap.size := fun b hb => own.lt b hb
                have row6 := rowP.keep k6 (fun h => by have := hge _ h; omega)
                have els6 := els.push0 rGSpan_lawful e6 kr k6 hsx (fun b hb => (hge b hb).2) hfresh
                have kk6 := (kx.trans kr.nix).then k6 (fun i hi hb => by have := hge _ hb; omega)
                have kX6 := kXP.then k6 (fun i hi hb => (hge _ hb).2)
                refine hK.out _ _ ((HSS.out _ kX6)) (fun hHeld => ?_)
                clear hK K
                (try simp only [Act.put]); (try simp only [List.getElem_toArray]); (try simp only [List.getElem_cons_succ]); (try simp only [List.getElem_cons_zero]); (try simp only [List.setIfInBounds_toArray]); (try simp only [List.set_cons_succ]); (try simp only [List.set_cons_zero])
                refine wpAnyH_take (i := 11) (v := ?_) rfl (by kernel_rfl) (by kernel_rfl) (by kernel_rfl) (fun _ _ _ h => h) (Or.inl ⟨by kernel_rfl, ?_⟩) hHeld ?_
                rotate_left
                · intro w' hSw
                  (try dsimp only at hSw)
                  (try simp only [List.getElem_toArray]); (try simp only [List.getElem_cons_succ]); (try simp only [List.getElem_cons_zero])
                  go_simp
                  try with_reducible rfl
                (try simp only [Act.put]); (try simp only [List.getElem_toArray]); (try simp only [List.getElem_cons_succ]); (try simp only [List.getElem_cons_zero]); (try simp only [List.setIfInBounds_toArray]); (try simp only [List.set_cons_succ]); (try simp only [List.set_cons_zero])
                refine wpAnyH_ready (rs := [12]) (by kernel_rfl) (by simp) ?_
                refine AllReadyH.cons rfl (fun K hK => ?_) AllReadyH.nil
                have z1 := row6.cell 2
                have zf := row6.frozen 2
                (try simp only [List.getElem?_cons_succ] at z1); (try simp only [List.getElem?_cons_zero] at z1)
                (try simp only [List.getElem_toArray]); (try simp only [List.getElem_cons_succ]); (try simp only [List.getElem_cons_zero])
                go_simp
                clear z1 zf
                have hsS : Hid ((w6.setCell ⟨g, 2, none⟩ (.slice a' (k + 1) cap')).heap.size = w6.heap.size) := by show _ = _; simp [World.setCell]
                have kS : Keep (· = g) w6 (w6.setCell ⟨g, 2, none⟩ (.slice a' (k + 1) cap')) := (Keep.refl (· = g) w6).setCell (p := ⟨g, 2, none⟩) (fun _ => rfl) _
                have row7 := row6.set 2 (.slice a' (k + 1) cap')
                (try simp only [List.set_cons_succ] at row7); (try simp only [List.set_cons_zero] at row7)
                have hnw : ∀ b, OwnB (.slice a' (k + 1) cap') b → b ≠ g := fun b hb => by
                  rcases hfresh b hb with h | h
                  · have := hge _ h; omega
                  · have := kr.size; omega
                have own7 := owned_keep own6 kS hnw
                have els7 := (els6.keep rGSpan_lawful kS (fun b hb e => by have := hb.1.1; omega)).mono (q := fun b => NewIn v0 (w6.setCell ⟨g, 2, none⟩ (.slice a' (k + 1) cap')) b ∧ ¬ OwnB (.slice a' (k + 1) cap') b) rGSpan_lawful (fun b hb => ⟨⟨hb.1.1, by rw [hsS.out]; exact hb.1.2⟩, hb.2⟩)
                have kk7 := kk6.trans kS
                have kX7 := kX6.then kS (fun i hi e => by omega)
                refine hK.out _ _ ((HSS.out _ kX7)) (fun hHeld => ?_)
                clear hK K
                (try simp only [Act.put]); (try simp only [List.getElem_toArray]); (try simp only [List.getElem_cons_succ]); (try simp only [List.getElem_cons_zero]); (try simp only [List.setIfInBounds_toArray]); (try simp only [List.set_cons_succ]); (try simp only [List.set_cons_zero])
                refine wpAnyH_done (by kernel_rfl) ?_ _
                clear hHeld
                have HR := Lib.hid row7
                have HO := Lib.hid own7
                have HE := Lib.hid els7
                have HQ := Lib.hid kk7
                clear row7 own7 els7 kk7 row6 own6 els6 kk6 kS kr rowR rowP own els kX kX6 kX7 kXP
                go_wp2_with fail
                go_roundw
                case rel => exact ⟨k + 1, a', cap', css ++ [[.slice nX x.fFrom.length mX, .slice nY x.fTo.length mY]], by omega, by go_num, HR.out, by simpa using HO.out, by rw [HTK.out]; exact HE.out, HQ.out⟩
                case measure => simp [intOf]; omega
        · obtain rfl : k = h.fSpans.length := by omega
          rw [List.take_length] at els
          have RS := Lib.hid (Els.list (Nat.le_refl _) own els rGSpan_lawful rfl (by unfold far; omega))
          have kw := kA1.trans kx
          have rowH := HH.out.keep kw (by omega)
          have y3 := rowH.cell 3
          (try simp only [List.getElem?_cons_succ] at y3); (try simp only [List.getElem?_cons_zero] at y3)
          clear own els rowH
          go_upto_region 13 with fail
          clear y3
          have RK2 := Lib.hid ((rList_lawful rBytesW_lawful).keep RK.out kx (fun b hb e => by have := hb.1; omega))
          obtain ⟨v1, HV1⟩ : ∃ v, v = wr := ⟨_, rfl⟩
          rw [← HV1]
          rw [← HV1] at RS row hsx RK2
          rw [← HV1] at kw kx
          have kA2 := kw
          have kA12 := kx
          have hg1 := row.lt
          clear HV1 kx hlt hk kw RK
          obtain ⟨a2, Ha2⟩ : ∃ v, v = a := ⟨_, rfl⟩
          obtain ⟨c2, Hc2⟩ : ∃ v, v = c := ⟨_, rfl⟩
          rw [← Ha2, ← Hc2] at RS row
          clear Ha2 Hc2
          have rowO3 := row
          clear row
          go_loopw [51] (fun i wr => ∃ (k : Nat) (a : Option Addr) (c : Nat) (css : List (List Value)), k ≤ h.fWrites.length ∧ i = .int .i64 k ∧ RowIs wr g 28 [.int .u64 h.fTxn, .slice a1 h.fKeys.length c1, .slice a2 h.fSpans.length c2, .slice a k c] ∧ wr.ownsRow v1.heap.size 48 3 (.slice a k c) k css.flatten ∧ Els wGWrite wr (fun b => NewIn v1 wr b ∧ ¬ OwnB (.slice a k c) b) css (h.fWrites.take k) ∧ Keep (· = g) v1 wr) (fun i _ => h.fWrites.length - (intOf i).toNat)
          case atStart => exact ⟨0, none, 0, [], by omega, rfl, rowO3, World.ownsRow_nil _ _ _ _, Els.nil _ _ _, Keep.refl _ _⟩
          case round =>
            clear rowO3
            obtain ⟨k, a, c, css, hk, rfl, row, own, els, kx⟩ := hrel
            have hsx := kx.size
            by_cases hlt : k < h.fWrites.length
            · have hi0 : (0 : Int) ≤ (k : Int) := by omega
              have hi1 : (k : Int) < (h.fWrites.length : Int) := by omega
              obtain ⟨b, o, _, cs, e1, hpb, hb, rB, hcl⟩ := rList_at rGWrite_lawful (by decide) HW.out k hlt
              simp only [List.cons.injEq, Value.slice.injEq, and_true] at e1
              obtain ⟨rfl, -, -⟩ := e1
              have HTK : Hid (h.fWrites.take (k + 1) = h.fWrites.take k ++ [h.fWrites[k]]) := List.take_succ_eq_append_getElem hlt
              generalize h.fWrites[k] = x at *
              obtain ⟨aX, cX, aY, cY, rfl, ⟨lX, -, fX⟩, ⟨lY, -, fY⟩, -⟩ := rGWrite_open rB
              have kw := kA2.trans kx
              have y0 := hcl 0 _ rfl
              have y1 := hcl 1 _ rfl
              have y2 := hcl 2 _ rfl
              (try simp only [Nat.add_zero] at y0)
              replace y0 := (kw.cell (p := ⟨b, o + k * 3, none⟩) hb (hp0 b hpb)).trans y0
              replace y1 := (kw.cell (p := ⟨b, o + k * 3 + 1, none⟩) hb (hp0 b hpb)).trans y1
              replace y2 := (kw.cell (p := ⟨b, o + k * 3 + 2, none⟩) hb (hp0 b hpb)).trans y2
              have LX := Lib.hid (lX.keep kw hp0)
              have LY := Lib.hid (lY.keep kw hp0)
              clear hcl lX lY rB
              have hfX : x.fKey.length ≤ 140737488355328 := by have := fX; unfold far at this; omega
              have hfY : x.fValue.length ≤ 140737488355328 := by have := fY; unfold far at this; omega
              have kd : Keep Nix wr (wr.alloc (.cells #[.slice aX x.fKey.length cX, .slice aY x.fValue.length cY, .bool x.fDrop] 48)) := (Keep.refl Nix wr).alloc _
              have rowX := RowIs.alloc wr #[.slice aX x.fKey.length cX, .slice aY x.fValue.length cY, .bool x.fDrop] 48
              have rowR := row.keep kd id
              have hlX : wr.heap.size < ((wr.alloc (.cells #[.slice aX x.fKey.length cX, .slice aY x.fValue.length cY, .bool x.fDrop] 48))).heap.size := rowX.lt
              go_upto_region 15 with fail
              clear y0 y1 y2
              have HSS : Hid (∀ w', Keep (· < wr.heap.size) (wr.alloc (.cells #[.slice aX x.fKey.length cX, .slice aY x.fValue.length cY, .bool x.fDrop] 48)) w' → w'.cell? ⟨wr.heap.size, 0, none⟩ = some (.slice aX x.fKey.length cX) ∧ w'.cell? ⟨wr.heap.size, 1, none⟩ = some (.slice aY x.fValue.length cY) ∧ w'.cell? ⟨wr.heap.size, 2, none⟩ = some (.bool x.fDrop)) := fun w' kk => by
                have rw' := rowX.keep kk (Nat.lt_irrefl _)
                exact ⟨by simpa using rw'.cell 0, by simpa using rw'.cell 1, by simpa using rw'.cell 2⟩
              have kX : Keep (· < wr.heap.size) (wr.alloc (.cells #[.slice aX x.fKey.length cX, .slice aY x.fValue.length cY, .bool x.fDrop] 48)) ((wr.alloc (.cells #[.slice aX x.fKey.length cX, .slice aY x.fValue.length cY, .bool x.fDrop] 48))).drew := (Keep.refl _ _).drew
              have HS0 := HSS.out _ kX
              replace rowR := rowR.keep ((Keep.refl Nix (wr.alloc (.cells #[.slice aX x.fKey.length cX, .slice aY x.fValue.length cY, .bool x.fDrop] 48))).drew) id
              have kr : Keep Nix wr ((wr.alloc (.cells #[.slice aX x.fKey.length cX, .slice aY x.fValue.length cY, .bool x.fDrop] 48))).drew := kd.drew
              generalize (wr.alloc (.cells #[.slice aX x.fKey.length cX, .slice aY x.fValue.length cY, .bool x.fDrop] 48)) = wa at *
              clear kd rowX
              refine wp_region_held_drew (S := (fun w' => w'.cell? ⟨wr.heap.size, 0, none⟩ = some (.slice aX x.fKey.length cX) ∧ w'.cell? ⟨wr.heap.size, 1, none⟩ = some (.slice aY x.fValue.length cY) ∧ w'.cell? ⟨wr.heap.size, 2, none⟩ = some (.bool x.fDrop))) (by kernel_rfl) (HS0) (fun hHeld => ?_)
              generalize wa.drew = wd at *
              clear HS0
              refine wpAnyH_take (i := 0) (v := ?_) rfl (by kernel_rfl) (by kernel_rfl) (by kernel_rfl) (fun _ _ _ h => h) (Or.inl ⟨by kernel_rfl, ?_⟩) hHeld ?_
              rotate_left
              · intro w' hSw
                (try dsimp only at hSw)
                (try simp only [List.getElem_toArray]); (try simp only [List.getElem_cons_succ]); (try simp only [List.getElem_cons_zero])
                go_simp
                try with_reducible rfl
              (try simp only [Act.put]); (try simp only [List.getElem_toArray]); (try simp only [List.getElem_cons_succ]); (try simp only [List.getElem_cons_zero]); (try simp only [List.setIfInBounds_toArray]); (try simp only [List.set_cons_succ]); (try simp only [List.set_cons_zero])
              refine wpAnyH_take (i := 2) (v := ?_) rfl (by kernel_rfl) (by kernel_rfl) (by kernel_rfl) (fun _ _ _ h => h) (Or.inl ⟨by kernel_rfl, ?_⟩) hHeld ?_
              rotate_left
              · intro w' hSw
                (try dsimp only at hSw)
                (try simp only [List.getElem_toArray]); (try simp only [List.getElem_cons_succ]); (try simp only [List.getElem_cons_zero])
                go_simp
                try with_reducible rfl
              (try simp only [Act.put]); (try simp only [List.getElem_toArray]); (try simp only [List.getElem_cons_succ]); (try simp only [List.getElem_cons_zero]); (try simp only [List.setIfInBounds_toArray]); (try simp only [List.set_cons_succ]); (try simp only [List.set_cons_zero])
              refine wpAnyH_take (i := 3) (v := ?_) rfl (by kernel_rfl) (by kernel_rfl) (by kernel_rfl) (fun _ _ _ h => h) (Or.inl ⟨by kernel_rfl, ?_⟩) hHeld ?_
              rotate_left
              · intro w' hSw
                (try dsimp only at hSw)
                (try simp only [List.getElem_toArray]); (try simp only [List.getElem_cons_succ]); (try simp only [List.getElem_cons_zero])
                go_simp
                try with_reducible rfl
              (try simp only [Act.put]); (try simp only [List.getElem_toArray]); (try simp only [List.getElem_cons_succ]); (try simp only [List.getElem_cons_zero]); (try simp only [List.setIfInBounds_toArray]); (try simp only [List.set_cons_succ]); (try simp only [List.set_cons_zero])
              refine wpAnyH_take (i := 5) (v := ?_) rfl (by kernel_rfl) (by kernel_rfl) (by kernel_rfl) (fun _ _ _ h => h) (Or.inl ⟨by kernel_rfl, ?_⟩) hHeld ?_
              rotate_left
              · intro w' hSw
                (try dsimp only at hSw)
                (try simp only [List.getElem_toArray]); (try simp only [List.getElem_cons_succ]); (try simp only [List.getElem_cons_zero])
                go_simp
                try with_reducible rfl
              (try simp only [Act.put]); (try simp only [List.getElem_toArray]); (try simp only [List.getElem_cons_succ]); (try simp only [List.getElem_cons_zero]); (try simp only [List.setIfInBounds_toArray]); (try simp only [List.set_cons_succ]); (try simp only [List.set_cons_zero])
              refine wpAnyH_take (i := 6) (v := ?_) rfl (by kernel_rfl) (by kernel_rfl) (by kernel_rfl) (fun _ _ _ h => h) (Or.inl ⟨by kernel_rfl, ?_⟩) hHeld ?_
              rotate_left
              · intro w' hSw
                (try dsimp only at hSw)
                (try simp only [List.getElem_toArray]); (try simp only [List.getElem_cons_succ]); (try simp only [List.getElem_cons_zero])
                go_simp
                try with_reducible rfl
              (try simp only [Act.put]); (try simp only [List.getElem_toArray]); (try simp only [List.getElem_cons_succ]); (try simp only [List.getElem_cons_zero]); (try simp only [List.setIfInBounds_toArray]); (try simp only [List.set_cons_succ]); (try simp only [List.set_cons_zero])
              refine wpAnyH_take (i := 8) (v := ?_) rfl (by kernel_rfl) (by kernel_rfl) (by kernel_rfl) (fun _ _ _ h => h) (Or.inl ⟨by kernel_rfl, ?_⟩) hHeld ?_
              rotate_left
              · intro w' hSw
                (try dsimp only at hSw)
                (try simp only [List.getElem_toArray]); (try simp only [List.getElem_cons_succ]); (try simp only [List.getElem_cons_zero])
                go_simp
                try with_reducible rfl
              (try simp only [Act.put]); (try simp only [List.getElem_toArray]); (try simp only [List.getElem_cons_succ]); (try simp only [List.getElem_cons_zero]); (try simp only [List.setIfInBounds_toArray]); (try simp only [List.set_cons_succ]); (try simp only [List.set_cons_zero])
              refine wpAnyH_take (i := 9) (v := ?_) rfl (by kernel_rfl) (by kernel_rfl) (by kernel_rfl) (fun _ _ _ h => h) (Or.inl ⟨by kernel_rfl, ?_⟩) hHeld ?_
              rotate_left
              · intro w' hSw
                (try dsimp only at hSw)
                (try simp only [List.getElem_toArray]); (try simp only [List.getElem_cons_succ]); (try simp only [List.getElem_cons_zero])
                go_simp
                try with_reducible rfl
              (try simp only [Act.put]); (try simp only [List.getElem_toArray]); (try simp only [List.getElem_cons_succ]); (try simp only [List.getElem_cons_zero]); (try simp only [List.setIfInBounds_toArray]); (try simp only [List.set_cons_succ]); (try simp only [List.set_cons_zero])
              refine wpAnyH_ready (rs := [1, 4]) (by kernel_rfl) (by simp) ?_
              refine AllReadyH.cons rfl (fun K hK => ?_) (AllReadyH.cons rfl (fun K hK => ?_) AllReadyH.nil)
              · have z1 := rowR.cell 3
                (try simp only [List.getElem?_cons_succ] at z1); (try simp only [List.getElem?_cons_zero] at z1)
                (try simp only [List.getElem_toArray]); (try simp only [List.getElem_cons_succ]); (try simp only [List.getElem_cons_zero])
                go_simp
                clear z1
                refine hK.out _ _ ((HSS.out _ kX)) (fun hHeld => ?_)
                clear hK K
                (try simp only [Act.put]); (try simp only [List.getElem_toArray]); (try simp only [List.getElem_cons_succ]); (try simp only [List.getElem_cons_zero]); (try simp only [List.setIfInBounds_toArray]); (try simp only [List.set_cons_succ]); (try simp only [List.set_cons_zero])
                refine wpAnyH_ready (rs := [4]) (by kernel_rfl) (by simp) ?_
                refine AllReadyH.cons rfl (fun K hK => ?_) AllReadyH.nil
                (try simp only [List.getElem_toArray]); (try simp only [List.getElem_cons_succ]); (try simp only [List.getElem_cons_zero])
                go_simp
                go_fit (cl_c aX x.fKey.length cX x.fKey _ rfl (LX.out.keep kr (fun _ _ h => h)) hfX)
                rintro e w1 ⟨nX, mX, rfl, ownX, k1⟩
                go_wp2_with fail
                replace rowR := rowR.keep k1 id
                have hsX := kr.size
                have kfX := k1
                replace kr := kr.trans k1
                replace kX := kX.trans k1.nix
                refine hK.out _ _ ((HSS.out _ kX)) (fun hHeld => ?_)
                clear hK K
                (try simp only [Act.put]); (try simp only [List.getElem_toArray]); (try simp only [List.getElem_cons_succ]); (try simp only [List.getElem_cons_zero]); (try simp only [List.setIfInBounds_toArray]); (try simp only [List.set_cons_succ]); (try simp only [List.set_cons_zero])
                refine wpAnyH_ready (rs := [7]) (by kernel_rfl) (by simp) ?_
                refine AllReadyH.cons rfl (fun K hK => ?_) AllReadyH.nil
                (try simp only [List.getElem_toArray]); (try simp only [List.getElem_cons_succ]); (try simp only [List.getElem_cons_zero])
                go_simp
                go_fit (cl_c aY x.fValue.length cY x.fValue _ rfl (LY.out.keep kr (fun _ _ h => h)) hfY)
                rintro e w2 ⟨nY, mY, rfl, ownY, k1⟩
                go_wp2_with fail
                replace rowR := rowR.keep k1 id
                have hsY := kr.size
                have kfY := k1
                replace kr := kr.trans k1
                replace kX := kX.trans k1.nix
                refine hK.out _ _ ((HSS.out _ kX)) (fun hHeld => ?_)
                clear hK K
                (try simp only [Act.put]); (try simp only [List.getElem_toArray]); (try simp only [List.getElem_cons_succ]); (try simp only [List.getElem_cons_zero]); (try simp only [List.setIfInBounds_toArray]); (try simp only [List.set_cons_succ]); (try simp only [List.set_cons_zero])
                replace ownX := owned_keep ownX kfY (fun _ _ h => h)
                refine wpAnyH_take (i := 10) (v := ?_) rfl (by kernel_rfl) (by kernel_rfl) (by kernel_rfl) (fun _ _ _ h => h) (Or.inl ⟨by kernel_rfl, ?_⟩) hHeld ?_
                rotate_left
                · intro w' hSw
                  (try dsimp only at hSw)
                  (try simp only [List.getElem_toArray]); (try simp only [List.getElem_cons_succ]); (try simp only [List.getElem_cons_zero])
                  go_simp
                  try with_reducible rfl
                (try simp only [Act.put]); (try simp only [List.getElem_toArray]); (try simp only [List.getElem_cons_succ]); (try simp only [List.getElem_cons_zero]); (try simp only [List.setIfInBounds_toArray]); (try simp only [List.set_cons_succ]); (try simp only [List.set_cons_zero])
                refine wpAnyH_ready (rs := [11]) (by kernel_rfl) (by simp) ?_
                refine AllReadyH.cons rfl (fun K hK => ?_) AllReadyH.nil
                (try simp only [List.getElem_toArray]); (try simp only [List.getElem_cons_succ]); (try simp only [List.getElem_cons_zero])
                go_simp
                have rowP := rowR
                have kXP := kX
                replace rowR := rowR.keep ((Keep.refl Nix w2).alloc (.cells #[.slice nX x.fKey.length mX, .slice nY x.fValue.length mY, .bool x.fDrop] 48)) id
                replace kX := kX.trans ((Keep.refl Nix w2).alloc (.cells #[.slice nX x.fKey.length mX, .slice nY x.fValue.length mY, .bool x.fDrop] 48)).nix
                refine hK.out _ _ ((HSS.out _ kX)) (fun hHeld => ?_)
                clear hK K
                (try simp only [Act.put]); (try simp only [List.getElem_toArray]); (try simp only [List.getElem_cons_succ]); (try simp only [List.getElem_cons_zero]); (try simp only [List.setIfInBounds_toArray]); (try simp only [List.set_cons_succ]); (try simp only [List.set_cons_zero])
                refine wpAnyH_ready (rs := [12]) (by kernel_rfl) (by simp) ?_
                refine AllReadyH.cons rfl (fun K hK => ?_) AllReadyH.nil
                have e6 : wGWrite w2 (NewIn wr w2) [.slice nX x.fKey.length mX, .slice nY x.fValue.length mY, .bool x.fDrop] x := ⟨nX, mX, nY, mY, rfl, ⟨nX, mX, rfl, (LiesW.of_owned2 ownX).mono (fun b hb => ⟨Nat.le_trans hsX hb.1, (ownX.lt b hb.2).2⟩), (owned_bounds ownX).2.1, fX⟩, ⟨nY, mY, rfl, (Lies.of_owned ownY).mono (fun b hb => ⟨Nat.le_trans hsY hb.1, (ownY.lt b hb.2).2⟩), (owned_bounds ownY).2.1, fY⟩⟩
                refine step_append1 (w := w2) (cs := [.slice nX x.fKey.length mX, .slice nY x.fValue.length mY, .bool x.fDrop]) T_lWrite (by rfl) (.tmp 56) (.tmp 66) (by rfl) v1.heap.size (by rfl) (by rfl) (owned_keep own kr (fun _ _ h => h)) (by rfl) (by rfl) (by unfold maxLen; omega) (by omega) (Nat.le_trans hsx kr.size) ?_
                intro a' cap' w6 own6 k6 hfresh
                have hge : ∀ b, OwnB (.slice a k c) b → v1.heap.size ≤ b ∧ b < wr.heap.size := fun b hb => own.lt b hb
                have row6 := rowP.keep k6 (fun h => by have := hge _ h; omega)
                have els6 := els.push0 wGWrite_lawful e6 kr k6 hsx (fun b hb => (hge b hb).2) hfresh
                have kk6 := (kx.trans kr.nix).then k6 (fun i hi hb => by have := hge _ hb; omega)
                have kX6 := kXP.then k6 (fun i hi hb => (hge _ hb).2)
                refine hK.out _ _ ((HSS.out _ kX6)) (fun hHeld => ?_)
                clear hK K
                (try simp only [Act.put]); (try simp only [List.getElem_toArray]); (try simp only [List.getElem_cons_succ]); (try simp only [List.getElem_cons_zero]); (try simp only [List.setIfInBounds_toArray]); (try simp only [List.set_cons_succ]); (try simp only [List.set_cons_zero])
                refine wpAnyH_take (i := 13) (v := ?_) rfl (by kernel_rfl) (by kernel_rfl) (by kernel_rfl) (fun _ _ _ h => h) (Or.inl ⟨by kernel_rfl, ?_⟩) hHeld ?_
                rotate_left
                · intro w' hSw
                  (try dsimp only at hSw)
                  (try simp only [List.getElem_toArray]); (try simp only [List.getElem_cons_succ]); (try simp only [List.getElem_cons_zero])
                  go_simp
                  try with_reducible rfl
                (try simp only [Act.put]); (try simp only [List.getElem_toArray]); (try simp only [List.getElem_cons_succ]); (try simp only [List.getElem_cons_zero]); (try simp only [List.setIfInBounds_toArray]); (try simp only [List.set_cons_succ]); (try simp only [List.set_cons_zero])
                refine wpAnyH_ready (rs := [14]) (by kernel_rfl) (by simp) ?_
                refine AllReadyH.cons rfl (fun K hK => ?_) AllReadyH.nil
                have z1 := row6.cell 3
                have zf := row6.frozen 3
                (try simp only [List.getElem?_cons_succ] at z1); (try simp only [List.getElem?_cons_zero] at z1)
                (try simp only [List.getElem_toArray]); (try simp only [List.getElem_cons_succ]); (try simp only [List.getElem_cons_zero])
                go_simp
                clear z1 zf
                have hsS : Hid ((w6.setCell ⟨g, 3, none⟩ (.slice a' (k + 1) cap')).heap.size = w6.heap.size) := by show _ = _; simp [World.setCell]
                have kS : Keep (· = g) w6 (w6.setCell ⟨g, 3, none⟩ (.slice a' (k + 1) cap')) := (Keep.refl (· = g) w6).setCell (p := ⟨g, 3, none⟩) (fun _ => rfl) _
                have row7 := row6.set 3 (.slice a' (k + 1) cap')
                (try simp only [List.set_cons_succ] at row7); (try simp only [List.set_cons_zero] at row7)
                have hnw : ∀ b, OwnB (.slice a' (k + 1) cap') b → b ≠ g := fun b hb => by
                  rcases hfresh b hb with h | h
                  · have := hge _ h; omega
                  · have := kr.size; omega
                have own7 := owned_keep own6 kS hnw
                have els7 := (els6.keep wGWrite_lawful kS (fun b hb e => by have := hb.1.1; omega)).mono (q := fun b => NewIn v1 (w6.setCell ⟨g, 3, none⟩ (.slice a' (k + 1) cap')) b ∧ ¬ OwnB (.slice a' (k + 1) cap') b) wGWrite_lawful (fun b hb => ⟨⟨hb.1.1, by rw [hsS.out]; exact hb.1.2⟩, hb.2⟩)
                have kk7 := kk6.trans kS
                have kX7 := kX6.then kS (fun i hi e => by omega)
                refine hK.out _ _ ((HSS.out _ kX7)) (fun hHeld => ?_)
                clear hK K
                (try simp only [Act.put]); (try simp only [List.getElem_toArray]); (try simp only [List.getElem_cons_succ]); (try simp only [List.getElem_cons_zero]); (try simp only [List.setIfInBounds_toArray]); (try simp only [List.set_cons_succ]); (try simp only [List.set_cons_zero])
                refine wpAnyH_done (by kernel_rfl) ?_ _
                clear hHeld
                have HR := Lib.hid row7
                have HO := Lib.hid own7
                have HE := Lib.hid els7
                have HQ := Lib.hid kk7
                clear row7 own7 els7 kk7 row6 own6 els6 kk6 kS kr rowR rowP own els kX kX6 kX7 kXP
                go_wp2_with fail
                go_roundw
                case rel => exact ⟨k + 1, a', cap', css ++ [[.slice nX x.fKey.length mX, .slice nY x.fValue.length mY, .bool x.fDrop]], by omega, by go_num, HR.out, by simpa using HO.out, by rw [HTK.out]; exact HE.out, HQ.out⟩
                case measure => simp [intOf]; omega
              · (try simp only [List.getElem_toArray]); (try simp only [List.getElem_cons_succ]); (try simp only [List.getElem_cons_zero])
                go_simp
                go_fit (cl_c aX x.fKey.length cX x.fKey _ rfl (LX.out.keep kr (fun _ _ h => h)) hfX)
                rintro e w1 ⟨nX, mX, rfl, ownX, k1⟩
                go_wp2_with fail
                replace rowR := rowR.keep k1 id
                have hsX := kr.size
                have kfX := k1
                replace kr := kr.trans k1
                replace kX := kX.trans k1.nix
                refine hK.out _ _ ((HSS.out _ kX)) (fun hHeld => ?_)
                clear hK K
                (try simp only [Act.put]); (try simp only [List.getElem_toArray]); (try simp only [List.getElem_cons_succ]); (try simp only [List.getElem_cons_zero]); (try simp only [List.setIfInBounds_toArray]); (try simp only [List.set_cons_succ]); (try simp only [List.set_cons_zero])
                refine wpAnyH_ready (rs := [1, 7]) (by kernel_rfl) (by simp) ?_
                refine AllReadyH.cons rfl (fun K hK => ?_) (AllReadyH.cons rfl (fun K hK => ?_) AllReadyH.nil)
                · have z1 := rowR.cell 3
                  (try simp only [List.getElem?_cons_succ] at z1); (try simp only [List.getElem?_cons_zero] at z1)
                  (try simp only [List.getElem_toArray]); (try simp only [List.getElem_cons_succ]); (try simp only [List.getElem_cons_zero])
                  go_simp
                  clear z1
                  refine hK.out _ _ ((HSS.out _ kX)) (fun hHeld => ?_)
                  clear hK K
                  (try simp only [Act.put]); (try simp only [List.getElem_toArray]); (try simp only [List.getElem_cons_succ]); (try simp only [List.getElem_cons_zero]); (try simp only [List.setIfInBounds_toArray]); (try simp only [List.set_cons_succ]); (try simp only [List.set_cons_zero])
                  refine wpAnyH_ready (rs := [7]) (by kernel_rfl) (by simp) ?_
                  refine AllReadyH.cons rfl (fun K hK => ?_) AllReadyH.nil
                  (try simp only [List.getElem_toArray]); (try simp only [List.getElem_cons_succ]); (try simp only [List.getElem_cons_zero])
                  go_simp
                  go_fit (cl_c aY x.fValue.length cY x.fValue _ rfl (LY.out.keep kr (fun _ _ h => h)) hfY)
                  rintro e w2 ⟨nY, mY, rfl, ownY, k1⟩
                  go_wp2_with fail
                  replace rowR := rowR.keep k1 id
                  have hsY := kr.size
                  have kfY := k1
                  replace kr := kr.trans k1
                  replace kX := kX.trans k1.nix
                  refine hK.out _ _ ((HSS.out _ kX)) (fun hHeld => ?_)
                  clear hK K
                  (try simp only [Act.put]); (try simp only [List.getElem_toArray]); (try simp only [List.getElem_cons_succ]); (try simp only [List.getElem_cons_zero]); (try simp only [List.setIfInBounds_toArray]); (try simp only [List.set_cons_succ]); (try simp only [List.set_cons_zero])
                  replace ownX := owned_keep ownX kfY (fun _ _ h => h)
                  refine wpAnyH_take (i := 10) (v := ?_) rfl (by kernel_rfl) (by kernel_rfl) (by kernel_rfl) (fun _ _ _ h => h) (Or.inl ⟨by kernel_rfl, ?_⟩) hHeld ?_
                  rotate_left
                  · intro w' hSw
                    (try dsimp only at hSw)
                    (try simp only [List.getElem_toArray]); (try simp only [List.getElem_cons_succ]); (try simp only [List.getElem_cons_zero])
                    go_simp
                    try with_reducible rfl
                  (try simp only [Act.put]); (try simp only [List.getElem_toArray]); (try simp only [List.getElem_cons_succ]); (try simp only [List.getElem_cons_zero]); (try simp only [List.setIfInBounds_toArray]); (try simp only [List.set_cons_succ]); (try simp only [List.set_cons_zero])
                  refine wpAnyH_ready (rs := [11]) (by kernel_rfl) (by simp) ?_
                  refine AllReadyH.cons rfl (fun K hK => ?_) AllReadyH.nil
                  (try simp only [List.getElem_toArray]); (try simp only [List.getElem_cons_succ]); (try simp only [List.getElem_cons_zero])
                  go_simp
                  have rowP := rowR
                  have kXP := kX
                  replace rowR := rowR.keep ((Keep.refl Nix w2).alloc (.cells #[.slice nX x.fKey.length mX, .slice nY x.fValue.length mY, .bool x.fDrop] 48)) id
                  replace kX := kX.trans ((Keep.refl Nix w2).alloc (.cells #[.slice nX x.fKey.length mX, .slice nY x.fValue.length mY, .bool x.fDrop] 48)).nix
                  refine hK.out _ _ ((HSS.out _ kX)) (fun hHeld => ?_)
                  clear hK K
                  (try simp only [Act.put]); (try simp only [List.getElem_toArray]); (try simp only [List.getElem_cons_succ]); (try simp only [List.getElem_cons_zero]); (try simp only [List.setIfInBounds_toArray]); (try simp only [List.set_cons_succ]); (try simp only [List.set_cons_zero])
                  refine wpAnyH_ready (rs := [12]) (by kernel_rfl) (by simp) ?_
                  refine AllReadyH.cons rfl (fun K hK => ?_) AllReadyH.nil
                  have e6 : wGWrite w2 (NewIn wr w2) [.slice nX x.fKey.length mX, .slice nY x.fValue.length mY, .bool x.fDrop] x := ⟨nX, mX, nY, mY, rfl, ⟨nX, mX, rfl, (LiesW.of_owned2 ownX).mono (fun b hb => ⟨Nat.le_trans hsX hb.1, (ownX.lt b hb.2).2⟩), (owned_bounds ownX).2.1, fX⟩, ⟨nY, mY, rfl, (Lies.of_owned ownY).mono (fun b hb => ⟨Nat.le_trans hsY hb.1, (ownY.lt b hb.2).2⟩), (owned_bounds ownY).2.1, fY⟩⟩
                  refine step_append1 (w := w2) (cs := [.slice nX x.fKey.length mX, .slice nY x.fValue.length mY, .bool x.fDrop]) T_lWrite (by rfl) (.tmp 56) (.tmp 66) (by rfl) v1.heap.size (by rfl) (by rfl) (owned_keep own kr (fun _ _ h => h)) (by rfl) (by rfl) (by unfold maxLen; omega) (by omega) (Nat.le_trans hsx kr.size) ?_
                  intro a' cap' w6 own6 k6 hfresh
                  have hge : ∀ b, OwnB (.slice a k c) b → v1.heap.size ≤ b ∧ b < wr.heap.size := fun b hb => own.lt b hb
                  have row6 := rowP.keep k6 (fun h => by have := hge _ h; omega)
                  have els6 := els.push0 wGWrite_lawful e6 kr k6 hsx (fun b hb => (hge b hb).2) hfresh
                  have kk6 := (kx.trans kr.nix).then k6 (fun i hi hb => by have := hge _ hb; omega)
                  have kX6 := kXP.then k6 (fun i hi hb => (hge _ hb).2)
                  refine hK.out _ _ ((HSS.out _ kX6)) (fun hHeld => ?_)
                  clear hK K
                  (try simp only [Act.put]); (try simp only [List.getElem_toArray]); (try simp only [List.getElem_cons_succ]); (try simp only [List.getElem_cons_zero]); (try simp only [List.setIfInBounds_toArray]); (try simp only [List.set_cons_succ]); (try simp only [List.set_cons_zero])
                  refine wpAnyH_take (i := 13) (v := ?_) rfl (by kernel_rfl) (by kernel_rfl) (by kernel_rfl) (fun _ _ _ h => h) (Or.inl ⟨by kernel_rfl, ?_⟩) hHeld ?_
                  rotate_left
                  · intro w' hSw
                    (try dsimp only at hSw)
                    (try simp only [List.getElem_toArray]); (try simp only [List.getElem_cons_succ]); (try simp only [List.getElem_cons_zero])
                    go_simp
                    try with_reducible rfl
                  (try simp only [Act.put]); (try simp only [List.getElem_toArray]); (try simp only [List.getElem_cons_succ]); (try simp only [List.getElem_cons_zero]); (try simp only [List.setIfInBounds_toArray]); (try simp only [List.set_cons_succ]); (try simp only [List.set_cons_zero])
                  refine wpAnyH_ready (rs := [14]) (by kernel_rfl) (by simp) ?_
                  refine AllReadyH.cons rfl (fun K hK => ?_) AllReadyH.nil
                  have z1 := row6.cell 3
                  have zf := row6.frozen 3
                  (try simp only [List.getElem?_cons_succ] at z1); (try simp only [List.getElem?_cons_zero] at z1)
                  (try simp only [List.getElem_toArray]); (try simp only [List.getElem_cons_succ]); (try simp only [List.getElem_cons_zero])
                  go_simp
                  clear z1 zf
                  have hsS : Hid ((w6.setCell ⟨g, 3, none⟩ (.slice a' (k + 1) cap')).heap.size = w6.heap.size) := by show _ = _; simp [World.setCell]
                  have kS : Keep (· = g) w6 (w6.setCell ⟨g, 3, none⟩ (.slice a' (k + 1) cap')) := (Keep.refl (· = g) w6).setCell (p := ⟨g, 3, none⟩) (fun _ => rfl) _
                  have row7 := row6.set 3 (.slice a' (k + 1) cap')
                  (try simp only [List.set_cons_succ] at row7); (try simp only [List.set_cons_zero] at row7)
                  have hnw : ∀ b, OwnB (.slice a' (k + 1) cap') b → b ≠ g := fun b hb => by
                    rcases hfresh b hb with h | h
                    · have := hge _ h; omega
                    · have := kr.size; omega
                  have own7 := owned_keep own6 kS hnw
                  have els7 := (els6.keep wGWrite_lawful kS (fun b hb e => by have := hb.1.1; omega)).mono (q := fun b => NewIn v1 (w6.setCell ⟨g, 3, none⟩ (.slice a' (k + 1) cap')) b ∧ ¬ OwnB (.slice a' (k + 1) cap') b) wGWrite_lawful (fun b hb => ⟨⟨hb.1.1, by rw [hsS.out]; exact hb.1.2⟩, hb.2⟩)
                  have kk7 := kk6.trans kS
                  have kX7 := kX6.then kS (fun i hi e => by omega)
                  refine hK.out _ _ ((HSS.out _ kX7)) (fun hHeld => ?_)
                  clear hK K
                  (try simp only [Act.put]); (try simp only [List.getElem_toArray]); (try simp only [List.getElem_cons_succ]); (try simp only [List.getElem_cons_zero]); (try simp only [List.setIfInBounds_toArray]); (try simp only [List.set_cons_succ]); (try simp only [List.set_cons_zero])
                  refine wpAnyH_done (by kernel_rfl) ?_ _
                  clear hHeld
                  have HR := Lib.hid row7
                  have HO := Lib.hid own7
                  have HE := Lib.hid els7
                  have HQ := Lib.hid kk7
                  clear row7 own7 els7 kk7 row6 own6 els6 kk6 kS kr rowR rowP own els kX kX6 kX7 kXP
                  go_wp2_with fail
                  go_roundw
                  case rel => exact ⟨k + 1, a', cap', css ++ [[.slice nX x.fKey.length mX, .slice nY x.fValue.length mY, .bool x.fDrop]], by omega, by go_num, HR.out, by simpa using HO.out, by rw [HTK.out]; exact HE.out, HQ.out⟩
                  case measure => simp [intOf]; omega
                · (try simp only [List.getElem_toArray]); (try simp only [List.getElem_cons_succ]); (try simp only [List.getElem_cons_zero])
                  go_simp
                  go_fit (cl_c aY x.fValue.length cY x.fValue _ rfl (LY.out.keep kr (fun _ _ h => h)) hfY)
                  rintro e w2 ⟨nY, mY, rfl, ownY, k1⟩
                  go_wp2_with fail
                  replace rowR := rowR.keep k1 id
                  have hsY := kr.size
                  have kfY := k1
                  replace kr := kr.trans k1
                  replace kX := kX.trans k1.nix
                  refine hK.out _ _ ((HSS.out _ kX)) (fun hHeld => ?_)
                  clear hK K
                  (try simp only [Act.put]); (try simp only [List.getElem_toArray]); (try simp only [List.getElem_cons_succ]); (try simp only [List.getElem_cons_zero]); (try simp only [List.setIfInBounds_toArray]); (try simp only [List.set_cons_succ]); (try simp only [List.set_cons_zero])
                  replace ownX := owned_keep ownX kfY (fun _ _ h => h)
                  refine wpAnyH_take (i := 10) (v := ?_) rfl (by kernel_rfl) (by kernel_rfl) (by kernel_rfl) (fun _ _ _ h => h) (Or.inl ⟨by kernel_rfl, ?_⟩) hHeld ?_
                  rotate_left
                  · intro w' hSw
                    (try dsimp only at hSw)
                    (try simp only [List.getElem_toArray]); (try simp only [List.getElem_cons_succ]); (try simp only [List.getElem_cons_zero])
                    go_simp
                    try with_reducible rfl
                  (try simp only [Act.put]); (try simp only [List.getElem_toArray]); (try simp only [List.getElem_cons_succ]); (try simp only [List.getElem_cons_zero]); (try simp only [List.setIfInBounds_toArray]); (try simp only [List.set_cons_succ]); (try simp only [List.set_cons_zero])
                  refine wpAnyH_ready (rs := [1, 11]) (by kernel_rfl) (by simp) ?_
                  refine AllReadyH.cons rfl (fun K hK => ?_) (AllReadyH.cons rfl (fun K hK => ?_) AllReadyH.nil)
                  · have z1 := rowR.cell 3
                    (try simp only [List.getElem?_cons_succ] at z1); (try simp only [List.getElem?_cons_zero] at z1)
                    (try simp only [List.getElem_toArray]); (try simp only [List.getElem_cons_succ]); (try simp only [List.getElem_cons_zero])
                    go_simp
                    clear z1
                    refine hK.out _ _ ((HSS.out _ kX)) (fun hHeld => ?_)
                    clear hK K
                    (try simp only [Act.put]); (try simp only [List.getElem_toArray]); (try simp only [List.getElem_cons_succ]); (try simp only [List.getElem_cons_zero]); (try simp only [List.setIfInBounds_toArray]); (try simp only [List.set_cons_succ]); (try simp only [List.set_cons_zero])
                    refine wpAnyH_ready (rs := [11]) (by kernel_rfl) (by simp) ?_
                    refine AllReadyH.cons rfl (fun K hK => ?_) AllReadyH.nil
                    (try simp only [List.getElem_toArray]); (try simp only [List.getElem_cons_succ]); (try simp only [List.getElem_cons_zero])
                    go_simp
                    have rowP := rowR
                    have kXP := kX
                    replace rowR := rowR.keep ((Keep.refl Nix w2).alloc (.cells #[.slice nX x.fKey.length mX, .slice nY x.fValue.length mY, .bool x.fDrop] 48)) id
                    replace kX := kX.trans ((Keep.refl Nix w2).alloc (.cells #[.slice nX x.fKey.length mX, .slice nY x.fValue.length mY, .bool x.fDrop] 48)).nix
                    refine hK.out _ _ ((HSS.out _ kX)) (fun hHeld => ?_)
                    clear hK K
                    (try simp only [Act.put]); (try simp only [List.getElem_toArray]); (try simp only [List.getElem_cons_succ]); (try simp only [List.getElem_cons_zero]); (try simp only [List.setIfInBounds_toArray]); (try simp only [List.set_cons_succ]); (try simp only [List.set_cons_zero])
                    refine wpAnyH_ready (rs := [12]) (by kernel_rfl) (by simp) ?_
                    refine AllReadyH.cons rfl (fun K hK => ?_) AllReadyH.nil
                    have e6 : wGWrite w2 (NewIn wr w2) [.slice nX x.fKey.length mX, .slice nY x.fValue.length mY, .bool x.fDrop] x := ⟨nX, mX, nY, mY, rfl, ⟨nX, mX, rfl, (LiesW.of_owned2 ownX).mono (fun b hb => ⟨Nat.le_trans hsX hb.1, (ownX.lt b hb.2).2⟩), (owned_bounds ownX).2.1, fX⟩, ⟨nY, mY, rfl, (Lies.of_owned ownY).mono (fun b hb => ⟨Nat.le_trans hsY hb.1, (ownY.lt b hb.2).2⟩), (owned_bounds ownY).2.1, fY⟩⟩
                    refine step_append1 (w := w2) (cs := [.slice nX x.fKey.length mX, .slice nY x.fValue.length mY, .bool x.fDrop]) T_lWrite (by rfl) (.tmp 56) (.tmp 66) (by rfl) v1.heap.size (by rfl) (by rfl) (owned_keep own kr (fun _ _ h => h)) (by rfl) (by rfl) (by unfold maxLen; omega) (by omega) (Nat.le_trans hsx kr.size) ?_
                    intro a' cap' w6 own6 k6 hfresh
                    have hge : ∀ b, OwnB (.slice a k c) b → v1.heap.size ≤ b ∧ b < wr.heap.size := fun b hb => own.lt b hb
                    have row6 := rowP.keep k6 (fun h => by have := hge _ h; omega)
                    have els6 := els.push0 wGWrite_lawful e6 kr k6 hsx (fun b hb => (hge b hb).2) hfresh
                    have kk6 := (kx.trans kr.nix).then k6 (fun i hi hb => by have := hge _ hb; omega)
                    have kX6 := kXP.then k6 (fun i hi hb => (hge _ hb).2)
                    refine hK.out _ _ ((HSS.out _ kX6)) (fun hHeld => ?_)
                    clear hK K
                    (try simp only [Act.put]); (try simp only [List.getElem_toArray]); (try simp only [List.getElem_cons_succ]); (try simp only [List.getElem_cons_zero]); (try simp only [List.setIfInBounds_toArray]); (try simp only [List.set_cons_succ]); (try simp only [List.set_cons_zero])
                    refine wpAnyH_take (i := 13) (v := ?_) rfl (by kernel_rfl) (by kernel_rfl) (by kernel_rfl) (fun _ _ _ h => h) (Or.inl ⟨by kernel_rfl, ?_⟩) hHeld ?_
                    rotate_left
                    · intro w' hSw
                      (try dsimp only at hSw)
                      (try simp only [List.getElem_toArray]); (try simp only [List.getElem_cons_succ]); (try simp only [List.getElem_cons_zero])
                      go_simp
                      try with_reducible rfl
                    (try simp only [Act.put]); (try simp only [List.getElem_toArray]); (try simp only [List.getElem_cons_succ]); (try simp only [List.getElem_cons_zero]); (try simp only [List.setIfInBounds_toArray]); (try simp only [List.set_cons_succ]); (try simp only [List.set_cons_zero])
                    refine wpAnyH_ready (rs := [14]) (by kernel_rfl) (by simp) ?_
                    refine AllReadyH.cons rfl (fun K hK => ?_) AllReadyH.nil
                    have z1 := row6.cell 3
                    have zf := row6.frozen 3
                    (try simp only [List.getElem?_cons_succ] at z1); (try simp only [List.getElem?_cons_zero] at z1)
                    (try simp only [List.getElem_toArray]); (try simp only [List.getElem_cons_succ]); (try simp only [List.getElem_cons_zero])
                    go_simp
                    clear z1 zf
                    have hsS : Hid ((w6.setCell ⟨g, 3, none⟩ (.slice a' (k + 1) cap')).heap.size = w6.heap.size) := by show _ = _; simp [World.setCell]
                    have kS : Keep (· = g) w6 (w6.setCell ⟨g, 3, none⟩ (.slice a' (k + 1) cap')) := (Keep.refl (· = g) w6).setCell (p := ⟨g, 3, none⟩) (fun _ => rfl) _
                    have row7 := row6.set 3 (.slice a' (k + 1) cap')
                    (try simp only [List.set_cons_succ] at row7); (try simp only [List.set_cons_zero] at row7)
                    have hnw : ∀ b, OwnB (.slice a' (k + 1) cap') b → b ≠ g := fun b hb => by
                      rcases hfresh b hb with h | h
                      · have := hge _ h; omega
                      · have := kr.size; omega
                    have own7 := owned_keep own6 kS hnw
                    have els7 := (els6.keep wGWrite_lawful kS (fun b hb e => by have := hb.1.1; omega)).mono (q := fun b => NewIn v1 (w6.setCell ⟨g, 3, none⟩ (.slice a' (k + 1) cap')) b ∧ ¬ OwnB (.slice a' (k + 1) cap') b) wGWrite_lawful (fun b hb => ⟨⟨hb.1.1, by rw [hsS.out]; exact hb.1.2⟩, hb.2⟩)
                    have kk7 := kk6.trans kS
                    have kX7 := kX6.then kS (fun i hi e => by omega)
                    refine hK.out _ _ ((HSS.out _ kX7)) (fun hHeld => ?_)
                    clear hK K
                    (try simp only [Act.put]); (try simp only [List.getElem_toArray]); (try simp only [List.getElem_cons_succ]); (try simp only [List.getElem_cons_zero]); (try simp only [List.setIfInBounds_toArray]); (try simp only [List.set_cons_succ]); (try simp only [List.set_cons_zero])
                    refine wpAnyH_done (by kernel_rfl) ?_ _
                    clear hHeld
                    have HR := Lib.hid row7
                    have HO := Lib.hid own7
                    have HE := Lib.hid els7
                    have HQ := Lib.hid kk7
                    clear row7 own7 els7 kk7 row6 own6 els6 kk6 kS kr rowR rowP own els kX kX6 kX7 kXP
                    go_wp2_with fail
                    go_roundw
                    case rel => exact ⟨k + 1, a', cap', css ++ [[.slice nX x.fKey.length mX, .slice nY x.fValue.length mY, .bool x.fDrop]], by omega, by go_num, HR.out, by simpa using HO.out, by rw [HTK.out]; exact HE.out, HQ.out⟩
                    case measure => simp [intOf]; omega
                  · (try simp only [List.getElem_toArray]); (try simp only [List.getElem_cons_succ]); (try simp only [List.getElem_cons_zero])
                    go_simp
                    have rowP := rowR
                    have kXP := kX
                    replace rowR := rowR.keep ((Keep.refl Nix w2).alloc (.cells #[.slice nX x.fKey.length mX, .slice nY x.fValue.length mY, .bool x.fDrop] 48)) id
                    replace kX := kX.trans ((Keep.refl Nix w2).alloc (.cells #[.slice nX x.fKey.length mX, .slice nY x.fValue.length mY, .bool x.fDrop] 48)).nix
                    refine hK.out _ _ ((HSS.out _ kX)) (fun hHeld => ?_)
                    clear hK K
                    (try simp only [Act.put]); (try simp only [List.getElem_toArray]); (try simp only [List.getElem_cons_succ]); (try simp only [List.getElem_cons_zero]); (try simp only [List.setIfInBounds_toArray]); (try simp only [List.set_cons_succ]); (try simp only [List.set_cons_zero])
                    refine wpAnyH_ready (rs := [1]) (by kernel_rfl) (by simp) ?_
                    refine AllReadyH.cons rfl (fun K hK => ?_) AllReadyH.nil
                    have z1 := rowR.cell 3
                    (try simp only [List.getElem?_cons_succ] at z1); (try simp only [List.getElem?_cons_zero] at z1)
                    (try simp only [List.getElem_toArray]); (try simp only [List.getElem_cons_succ]); (try simp only [List.getElem_cons_zero])
                    go_simp
                    clear z1
                    refine hK.out _ _ ((HSS.out _ kX)) (fun hHeld => ?_)
                    clear hK K
                    (try simp only [Act.put]); (try simp only [List.getElem_toArray]); (try simp only [List.getElem_cons_succ]); (try simp only [List.getElem_cons_zero]); (try simp only [List.setIfInBounds_toArray]); (try simp only [List.set_cons_succ]); (try simp only [List.set_cons_zero])
                    refine wpAnyH_ready (rs := [12]) (by kernel_rfl) (by simp) ?_
                    refine AllReadyH.cons rfl (fun K hK => ?_) AllReadyH.nil
                    have e6 : wGWrite w2 (NewIn wr w2) [.slice nX x.fKey.length mX, .slice nY x.fValue.length mY, .bool x.fDrop] x := ⟨nX, mX, nY, mY, rfl, ⟨nX, mX, rfl, (LiesW.of_owned2 ownX).mono (fun b hb => ⟨Nat.le_trans hsX hb.1, (ownX.lt b hb.2).2⟩), (owned_bounds ownX).2.1, fX⟩, ⟨nY, mY, rfl, (Lies.of_owned ownY).mono (fun b hb => ⟨Nat.le_trans hsY hb.1, (ownY.lt b hb.2).2⟩), (owned_bounds ownY).2.1, fY⟩⟩
                    refine step_append1 (w := w2) (cs := [.slice nX x.fKey.length mX, .slice nY x.fValue.length mY, .bool x.fDrop]) T_lWrite (by rfl) (.tmp 56) (.tmp 66) (by rfl) v1.heap.size (by rfl) (by rfl) (owned_keep own kr (fun _ _ h => h)) (by rfl) (by rfl) (by unfold maxLen; omega) (by omega) (Nat.le_trans hsx kr.size) ?_
                    intro a' cap' w6 own6 k6 hfresh
                    have hge : ∀ b, OwnB (.slice a k c) b → v1.heap.size ≤ b ∧ b < wr.heap.size := fun b hb => own.lt b hb
                    have row6 := rowP.keep k6 (fun h => by have := hge _ h; omega)
                    have els6 := els.push0 wGWrite_lawful e6 kr k6 hsx (fun b hb => (hge b hb).2) hfresh
                    have kk6 := (kx.trans kr.nix).then k6 (fun i hi hb => by have := hge _ hb; omega)
                    have kX6 := kXP.then k6 (fun i hi hb => (hge _ hb).2)
                    refine hK.out _ _ ((HSS.out _ kX6)) (fun hHeld => ?_)
                    clear hK K
                    (try simp only [Act.put]); (try simp only [List.getElem_toArray]); (try simp only [List.getElem_cons_succ]); (try simp only [List.getElem_cons_zero]); (try simp only [List.setIfInBounds_toArray]); (try simp only [List.set_cons_succ]); (try simp only [List.set_cons_zero])
                    refine wpAnyH_take (i := 13) (v := ?_) rfl (by kernel_rfl) (by kernel_rfl) (by kernel_rfl) (fun _ _ _ h => h) (Or.inl ⟨by kernel_rfl, ?_⟩) hHeld ?_
                    rotate_left
                    · intro w' hSw
                      (try dsimp only at hSw)
                      (try simp only [List.getElem_toArray]); (try simp only [List.getElem_cons_succ]); (try simp only [List.getElem_cons_zero])
                      go_simp
                      try with_reducible rfl
                    (try simp only [Act.put]); (try simp only [List.getElem_toArray]); (try simp only [List.getElem_cons_succ]); (try simp only [List.getElem_cons_zero]); (try simp only [List.setIfInBounds_toArray]); (try simp only [List.set_cons_succ]); (try simp only [List.set_cons_zero])
                    refine wpAnyH_ready (rs := [14]) (by kernel_rfl) (by simp) ?_
                    refine AllReadyH.cons rfl (fun K hK => ?_) AllReadyH.nil
                    have z1 := row6.cell 3
                    have zf := row6.frozen 3
                    (try simp only [List.getElem?_cons_succ] at z1); (try simp only [List.getElem?_cons_zero] at z1)
                    (try simp only [List.getElem_toArray]); (try simp only [List.getElem_cons_succ]); (try simp only [List.getElem_cons_zero])
                    go_simp
                    clear z1 zf
                    have hsS : Hid ((w6.setCell ⟨g, 3, none⟩ (.slice a' (k + 1) cap')).heap.size = w6.heap.size) := by show _ = _; simp [World.setCell]
                    have kS : Keep (· = g) w6 (w6.setCell ⟨g, 3, none⟩ (.slice a' (k + 1) cap')) := (Keep.refl (· = g) w6).setCell (p := ⟨g, 3, none⟩) (fun _ => rfl) _
                    have row7 := row6.set 3 (.slice a' (k + 1) cap')
                    (try simp only [List.set_cons_succ] at row7); (try simp only [List.set_cons_zero] at row7)
                    have hnw : ∀ b, OwnB (.slice a' (k + 1) cap') b → b ≠ g := fun b hb => by
                      rcases hfresh b hb with h | h
                      · have := hge _ h; omega
                      · have := kr.size; omega
                    have own7 := owned_keep own6 kS hnw
                    have els7 := (els6.keep wGWrite_lawful kS (fun b hb e => by have := hb.1.1; omega)).mono (q := fun b => NewIn v1 (w6.setCell ⟨g, 3, none⟩ (.slice a' (k + 1) cap')) b ∧ ¬ OwnB (.slice a' (k + 1) cap') b) wGWrite_lawful (fun b hb => ⟨⟨hb.1.1, by rw [hsS.out]; exact hb.1.2⟩, hb.2⟩)
                    have kk7 := kk6.trans kS
                    have kX7 := kX6.then kS (fun i hi e => by omega)
                    refine hK.out _ _ ((HSS.out _ kX7)) (fun hHeld => ?_)
                    clear hK K
                    (try simp only [Act.put]); (try simp only [List.getElem_toArray]); (try simp only [List.getElem_cons_succ]); (try simp only [List.getElem_cons_zero]); (try simp only [List.setIfInBounds_toArray]); (try simp only [List.set_cons_succ]); (try simp only [List.set_cons_zero])
                    refine wpAnyH_done (by kernel_rfl) ?_ _
                    clear hHeld
                    have HR := Lib.hid row7
                    have HO := Lib.hid own7
                    have HE := Lib.hid els7
                    have HQ := Lib.hid kk7
                    clear row7 own7 els7 kk7 row6 own6 els6 kk6 kS kr rowR rowP own els kX kX6 kX7 kXP
                    go_wp2_with fail
                    go_roundw
                    case rel => exact ⟨k + 1, a', cap', css ++ [[.slice nX x.fKey.length mX, .slice nY x.fValue.length mY, .bool x.fDrop]], by omega, by go_num, HR.out, by simpa using HO.out, by rw [HTK.out]; exact HE.out, HQ.out⟩
                    case measure => simp [intOf]; omega
            · obtain rfl : k = h.fWrites.length := by omega
              rw [List.take_length] at els
              have RW := Lib.hid (Els.list (Nat.le_refl _) own els wGWrite_lawful rfl (by unfold far; omega))
              have kw := kA2.trans kx
              have rowZ := HZ.out.keep kw (by omega)
              have RK3 := Lib.hid ((rList_lawful rBytesW_lawful).keep RK2.out kx (fun b hb e => by have := hb.1; omega))
              have RS3 := Lib.hid ((rList_lawful rGSpan_lawful).keep RS.out kx (fun b hb e => by have := hb.1; omega))
              clear own els HH HK HS HW
              have z0 := rowZ.cell 0
              (try simp only [List.getElem?_cons_zero] at z0)
              have z1 := rowZ.cell 1
              (try simp only [List.getElem?_cons_succ] at z1); (try simp only [List.getElem?_cons_zero] at z1)
              have z2 := rowZ.cell 2
              (try simp only [List.getElem?_cons_succ] at z2); (try simp only [List.getElem?_cons_zero] at z2)
              have z3 := rowZ.cell 3
              (try simp only [List.getElem?_cons_succ] at z3); (try simp only [List.getElem?_cons_zero] at z3)
              have zf0 := rowZ.frozen 0
              have zf1 := rowZ.frozen 1
              have zf2 := rowZ.frozen 2
              have zf3 := rowZ.frozen 3
              have o0 := row.cell 0
              (try simp only [List.getElem?_cons_zero] at o0)
              have o1 := row.cell 1
              (try simp only [List.getElem?_cons_succ] at o1); (try simp only [List.getElem?_cons_zero] at o1)
              have o2 := row.cell 2
              (try simp only [List.getElem?_cons_succ] at o2); (try simp only [List.getElem?_cons_zero] at o2)
              have o3 := row.cell 3
              (try simp only [List.getElem?_cons_succ] at o3); (try simp only [List.getElem?_cons_zero] at o3)
              clear row
              have kS : Keep (· = w.heap.size + 1) wr ((((wr.setCell ⟨w.heap.size + 1, 0, none⟩ (.int .u64 h.fTxn)).setCell ⟨w.heap.size + 1, 1, none⟩ (.slice a1 h.fKeys.length c1)).setCell ⟨w.heap.size + 1, 2, none⟩ (.slice a2 h.fSpans.length c2)).setCell ⟨w.heap.size + 1, 3, none⟩ (.slice a h.fWrites.length c)) := ((((Keep.refl (· = w.heap.size + 1) wr).setCell (p := ⟨w.heap.size + 1, 0, none⟩) (fun _ => rfl) _).setCell (p := ⟨w.heap.size + 1, 1, none⟩) (fun _ => rfl) _).setCell (p := ⟨w.heap.size + 1, 2, none⟩) (fun _ => rfl) _).setCell (p := ⟨w.heap.size + 1, 3, none⟩) (fun _ => rfl) _
              have rowR : RowIs ((((wr.setCell ⟨w.heap.size + 1, 0, none⟩ (.int .u64 h.fTxn)).setCell ⟨w.heap.size + 1, 1, none⟩ (.slice a1 h.fKeys.length c1)).setCell ⟨w.heap.size + 1, 2, none⟩ (.slice a2 h.fSpans.length c2)).setCell ⟨w.heap.size + 1, 3, none⟩ (.slice a h.fWrites.length c)) (w.heap.size + 1) 28 [.int .u64 h.fTxn, .slice a1 h.fKeys.length c1, .slice a2 h.fSpans.length c2, .slice a h.fWrites.length c] := (((rowZ.set 0 (.int .u64 h.fTxn)).set 1 (.slice a1 h.fKeys.length c1)).set 2 (.slice a2 h.fSpans.length c2)).set 3 (.slice a h.fWrites.length c)
              have HZR := Lib.hid rowR
              clear rowR rowZ
              go_wp2_with fail
              refine bodyPost_ret (results_cell_row (by rfl) _ _ _ _ _ _ _ (by rfl) HZR.out Try.underlying28 (by rfl) hinfo) rfl ?_
              have h01 := kC.size
              have hw0 := hsz.out
              have hg2 := HG2.out
              have hsS := kS.size
              have hsw := kw.size
              refine ⟨[.int .u64 h.fTxn, .slice a1 h.fKeys.length c1, .slice a2 h.fSpans.length c2, .slice a h.fWrites.length c], rfl, ⟨_, _, _, _, _, _, rfl, ht, ?_, ?_, ?_⟩, ((kC.then kw (fun i hi e => by omega)).then kS (fun i hi e => by omega))⟩
              · exact (rList_lawful rBytesW_lawful).mono ((rList_lawful rBytesW_lawful).keep RK3.out kS (fun b hb e => by have := hb.1; omega)) (fun b hb => ⟨by have := hb.1; omega, by have := hb.2; omega⟩)
              · exact (rList_lawful rGSpan_lawful).mono ((rList_lawful rGSpan_lawful).keep RS3.out kS (fun b hb e => by have := hb.1; omega)) (fun b hb => ⟨by have := hb.1; omega, by have := hb.2; omega⟩)
              · exact (rList_lawful wGWrite_lawful).mono ((rList_lawful wGWrite_lawful).keep RW.out kS (fun b hb e => by have := hb.1; omega)) (fun b hb => ⟨by have := hb.1; omega, by have := hb.2; omega⟩)
theorem own_c {p : Nat → Prop} (h : GHeld) (csh : List Value) (w : World) (hh : rGHeld w p csh h) (hs : smallF h) (hp : ∀ b, p b → b < w.heap.size) :
    Calls Try.prog 35 #[.agg csh.toArray] w (OwnPost w h) :=
  (ownW_c h csh w hh hs hp).mono (fun _ _ ⟨cs, e, hw, k⟩ => ⟨cs, e, wGHeld_to hw, k⟩)
end Go.Proofs.Ytfagejfcibgigaa
