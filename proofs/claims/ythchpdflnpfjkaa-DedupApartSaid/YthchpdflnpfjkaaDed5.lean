/- DEDUP: DedupTwice. Printed by mac.py. -/
import Derived.Test.YthchpdflnpfjkaaDed4
import Derived.Test.YthchpdflnpfjkaaMod
namespace Go.Proofs.Ythchpdflnpfjkaa
open Go.RowKit

theorem Mach.tape {w : World} {O : Nat → Prop} {bD bT n : Nat} {tape : List (List UInt8)} {last : Last} (h : Mach w O bD bT n tape last) :
    ∃ (a : Option Addr) (cap : Nat), RowIs w bT 27 [.slice a tape.length cap] ∧ Lies w O a (tape.map sv) := by
  obtain ⟨bM, g, D, r, t, pa, m⟩ := h.body
  obtain ⟨a, cap, row, own, hg⟩ := t.row
  exact ⟨a, cap, row, (Lies.of_owned own).mono (fun b hb => pa.og b (hg ▸ hb.2))⟩
namespace dedupTwice
section
attribute [local go_sem ↓] cv_up cv_down rm_uint
set_option maxRecDepth 100000 in
set_option maxHeartbeats 8000000 in
theorem walk' (W : World) (xs : List (List UInt8)) (ns : List Int) (aX : Option Addr) (cX : Nat) (aN : Option Addr) (cN : Nat) (hX : rList rBytes W (· < W.heap.size) [.slice aX xs.length cX] xs) (hN : rList (rInt .i64) W (· < W.heap.size) [.slice aN ns.length cN] ns) :
    Calls Try.prog 3 #[.slice aX xs.length cX, .slice aN ns.length cN] W fun e w' => e = .returned (.bool true) ∧ Keep Nix W w' := by
  have HX := Lib.hid hX
  have HN := Lib.hid hN
  obtain ⟨-, -, hfx⟩ := rList_len hX
  obtain ⟨-, -, hfn⟩ := rList_len hN
  have hfar := far_len
  have mX : xs.length ≤ 140737488351232 := hfx
  have mN : ns.length ≤ 140737488351232 := hfn
  clear hX hN hfx hfn
  go_enter Try.func3, Try.ntmps3
  go_wp2_with fail
  have row0 := RowIs.alloc W #[.slice none 0 0] 27
  go_fit (new_c W.heap.size _ (IsTape.made row0))
  rintro e w1 ⟨bD, O, rfl, hm, hO, k1⟩
  have kk : Keep Nix W w1 := ((Keep.refl Nix W).alloc _).trans k1
  have hO0 : Hid (∀ b, O b → W.heap.size ≤ b) := fun b hb => (hO b hb).elim (fun e => by omega) (fun h => by simp at h; omega)
  clear k1 row0 hO
  go_wp2_with fail
  go_fit (dawake_c w1)
  rintro e w2 ⟨rfl, k2⟩
  replace hm := hm.keep k2 (fun _ _ => id)
  replace kk := kk.trans k2
  clear k2
  go_wp2_with fail
  go_loopw [7, 8] (fun v i wr => ∃ (k n : Nat) (O : Nat → Prop) (tp : List (List UInt8)) (last : Last), v = .int .i64 k ∧ i = .int .i64 k ∧ k ≤ 40 ∧ n ≤ 1000 * k ∧ tp.length = k ∧ seqO (last 7) = k ∧ Hid (∀ i (h : i < xs.length), i < k → xs[i].length ≤ 300) ∧ Mach wr O bD W.heap.size n tp last ∧ Hid (∀ b, O b → W.heap.size ≤ b) ∧ Keep Nix W wr) (fun _ i _ => 40 - (intOf i).toNat)
  case atStart => exact ⟨0, 0, O, [], _, rfl, rfl, by decide, by decide, rfl, rfl, fun _ _ h => absurd h (Nat.not_lt_zero _), hm, hO0, kk⟩
  case round =>
    clear hm kk hO0
    obtain ⟨k, n, O, tp, last, rfl, rfl, hk, hn, htp, hsq, hsm, hm, hO, kk⟩ := hrel
    by_cases hx : k < xs.length
    · by_cases h40 : k < 40
      · have hi0 : (0 : Int) ≤ (k : Int) := by omega
        have hi1 : (k : Int) < (xs.length : Int) := by omega
        obtain ⟨b, o, cc, cs, e1, hbW, hb, r, hcl⟩ := rList_at rBytes_lawful (by decide) HX.out k hx
        simp only [List.cons.injEq, Value.slice.injEq, and_true] at e1
        obtain ⟨rfl, -, -⟩ := e1
        obtain ⟨x, hxk⟩ : ∃ x, Hid (xs[k] = x) := ⟨xs[k], rfl⟩
        rw [hxk.out] at r
        obtain ⟨ax, cx, rfl, lx, hcx, hfx⟩ := r
        have XW : Hid (W.cell? ⟨b, o + k, none⟩ = some (.slice ax x.length cx)) := by show W.cell? _ = _; simpa using hcl 0 _ rfl
        have LX := Lib.hid lx
        have x0 := (kk.cell (p := ⟨b, o + k, none⟩) hb id).trans XW.out
        clear hcl lx
        by_cases hlen : x.length ≤ 300
        · have hkU : isU64 ((k : Int) + 1) := ⟨by omega, by omega⟩
          have h7 : isU64 7 := ⟨by decide, by decide⟩
          have hxr : rGCall wr (· < wr.heap.size) [.int .u64 7, .int .u64 ((k : Int) + 1), .slice ax x.length cx] ⟨7, (k : Int) + 1, x⟩ :=
            ⟨[_], [_], [_], rfl, ⟨rfl, wf_of_u64 h7⟩, ⟨rfl, wf_of_u64 hkU⟩, ax, cx, rfl, (LX.out.keep kk (fun _ _ => id)).mono (fun b hb => Nat.lt_of_lt_of_le hb kk.size), hcx, hfx⟩
          have hel : (encGCall ⟨7, (k : Int) + 1, x⟩).length ≤ 5000 := by
            have h1 := encU_len 7; have h2 := encU_len ((k : Int) + 1); have h3 := textB_len x
            simp only [encGCall, List.length_append]; omega
          have htk := takeCall ⟨7, (k : Int) + 1, x⟩ (ok_call h7 hkU (by show _ ≤ _; omega))
          have hdo : doS tp last ⟨7, (k : Int) + 1, x⟩ = (tp ++ [x], upd last 7 ((k : Int) + 1, answer (k + 1) x), answer (k + 1) x) := by
            unfold doS; simp only; rw [hsq, if_pos (by omega), htp]
          have hdo2 : doS (tp ++ [x]) (upd last 7 ((k : Int) + 1, answer (k + 1) x)) ⟨7, (k : Int) + 1, x⟩ = (tp ++ [x], upd last 7 ((k : Int) + 1, answer (k + 1) x), answer (k + 1) x) := by
            unfold doS; simp [upd, seqO, ansO]
          generalize hE : encGCall ⟨7, (k : Int) + 1, x⟩ = E at hel htk
          have HEc := Lib.hid hE
          have HEl := Lib.hid hel
          have HTK := Lib.hid htk
          have HDO := Lib.hid hdo
          have HDO2 := Lib.hid hdo2
          have hel' : (encGCall ⟨7, (k : Int) + 1, x⟩).length ≤ far := by rw [hE]; unfold far; omega
          have HC := oTCall_c wr (· < wr.heap.size) (fun b hb => hb) ⟨7, (k : Int) + 1, x⟩ _ hxr hel'
          rw [hE] at HC
          have HC := Lib.hid HC
          clear hel' htk hdo hdo2 hxr hE hel
          go_wp2_with fail
          go_fit HC.out
          rintro e w1 ⟨a, cap, rfl, own, k1⟩
          clear HC x0
          have kk1 := kk.trans k1
          have hm1 := hm.keep k1 (fun _ _ => id)
          have lE := Lies.of_owned own
          have hEO : ∀ b, (wr.heap.size ≤ b ∧ (Value.slice a E.length cap).ownBlock = some b) → ¬ O b := fun b hb hO' => by have := hm.lt b hO'; omega
          have hEm : ∀ b, (Value.slice a E.length cap).ownBlock = some b → b < w1.heap.size ∧ wr.heap.size ≤ b := fun b hb => ⟨(own.lt b hb).2, (own.lt b hb).1⟩
          have hd1 := do_ok O bD W.heap.size n tp last a E.length cap E ⟨7, (k : Int) + 1, x⟩ w1 rfl lE (by have := HEl.out; omega) hm1 (by omega) (by omega) HTK.out
          rw [HDO.out] at hd1
          have hd1 := Lib.hid hd1
          clear own hm k1 kk
          go_wp2_with fail
          go_fit hd1.out
          rintro e w2 ⟨a2, c2, m2, O2, rfl, hm12, hm22, own2, mach2, k2, hO2, -⟩
          have kk2 : Keep Nix W w2 := kk1.then k2 (fun i hi h => by have := hO.out i h; omega)
          have hO2' : Hid (∀ b, O2 b → W.heap.size ≤ b) := fun b hb => (hO2 b hb).1.elim (hO.out b) (fun h => Nat.le_trans kk1.size h)
          have lE2 := lE.keep k2 hEO
          have el : (tp ++ [x]).length = k + 1 := by simp [htp]
          clear hd1 hm1 kk1 lE
          go_wp2_with fail
          have mach2 := mach2.keep (Keep.drew (Keep.refl Nix w2)) (fun _ _ => id)
          have kk2 := kk2.drew
          have lE2 := lE2.same (w' := w2.drew)
          have lA2 := (Lies.of_owned own2).same (w' := w2.drew)
          have own2 := owned_same own2 (w' := w2.drew)
          obtain ⟨aT, cT, rowT, lT⟩ := mach2.tape
          rw [el] at rowT
          obtain ⟨bL, oL, rfl, -, hbL, hcL⟩ := lT (by simp)
          have tk := hcL k (sv x) (by simp [htp])
          have x0 := (kk2.cell (p := ⟨b, o + k, none⟩) hb id).trans XW.out
          have hcv := conv_bytes (P := Try.prog) (l := x) Try.underlying31 Try.underlying5 Try.underlying9 (cap := cx) rfl (LX.out.keep kk2 (fun _ _ => id))
          have t0 := rowT.cell 0
          (try simp only [List.getElem?_cons_succ] at t0); (try simp only [List.getElem?_cons_zero] at t0)
          have i3 : IntKind.i64.wrap (k : Int) = (k : Int) := by rw [IntKind.wrap_i64]; omega
          have i4 : (k : Int) < (k : Int) + 1 := by omega
          clear lT hcL
          refine wp_region_held_drew (S := (fun w' => w'.cell? ⟨W.heap.size, 0, none⟩ = some (.slice (some ⟨bL, oL, none⟩) (k + 1) cT) ∧ w'.cell? ⟨bL, oL + k, none⟩ = some (.string (strB x)) ∧ w'.cell? ⟨b, o + k, none⟩ = some (.slice ax x.length cx) ∧ (convert 31 9 (.slice ax x.length cx)).run Try.prog w' = .ok (.string (strB x)) w')) (by kernel_rfl) (⟨t0, tk, x0, hcv⟩) (fun hHeld => ?_)
          refine wpAnyH_take (i := 0) (v := ?_) rfl (by kernel_rfl) (by kernel_rfl) (by kernel_rfl) (fun _ _ _ h => h) (Or.inl ⟨by kernel_rfl, ?_⟩) hHeld ?_
          rotate_left
          · intro w' hSw
            (try dsimp only at hSw)
            (try simp only [List.getElem_toArray]); (try simp only [List.getElem_cons_succ]); (try simp only [List.getElem_cons_zero])
            go_simp
            try with_reducible rfl
          (try simp only [Act.put]); (try simp only [List.setIfInBounds_toArray]); (try simp only [List.set_cons_succ]); (try simp only [List.set_cons_zero])
          refine wpAnyH_take (i := 1) (v := ?_) rfl (by kernel_rfl) (by kernel_rfl) (by kernel_rfl) (fun _ _ _ h => h) (Or.inl ⟨by kernel_rfl, ?_⟩) hHeld ?_
          rotate_left
          · intro w' hSw
            (try dsimp only at hSw)
            (try simp only [List.getElem_toArray]); (try simp only [List.getElem_cons_succ]); (try simp only [List.getElem_cons_zero])
            go_simp
            try with_reducible rfl
          (try simp only [Act.put]); (try simp only [List.setIfInBounds_toArray]); (try simp only [List.set_cons_succ]); (try simp only [List.set_cons_zero])
          refine wpAnyH_take (i := 2) (v := ?_) rfl (by kernel_rfl) (by kernel_rfl) (by kernel_rfl) (fun _ _ _ h => h) (Or.inl ⟨by kernel_rfl, ?_⟩) hHeld ?_
          rotate_left
          · intro w' hSw
            (try dsimp only at hSw)
            (try simp only [List.getElem_toArray]); (try simp only [List.getElem_cons_succ]); (try simp only [List.getElem_cons_zero])
            go_simp
            try with_reducible rfl
          (try simp only [Act.put]); (try simp only [List.setIfInBounds_toArray]); (try simp only [List.set_cons_succ]); (try simp only [List.set_cons_zero])
          refine wpAnyH_take (i := 3) (v := ?_) rfl (by kernel_rfl) (by kernel_rfl) (by kernel_rfl) (fun _ _ _ h => h) (Or.inl ⟨by kernel_rfl, ?_⟩) hHeld ?_
          rotate_left
          · intro w' hSw
            (try dsimp only at hSw)
            (try simp only [List.getElem_toArray]); (try simp only [List.getElem_cons_succ]); (try simp only [List.getElem_cons_zero])
            go_simp
            try with_reducible rfl
          (try simp only [Act.put]); (try simp only [List.setIfInBounds_toArray]); (try simp only [List.set_cons_succ]); (try simp only [List.set_cons_zero])
          refine wpAnyH_take (i := 4) (v := ?_) rfl (by kernel_rfl) (by kernel_rfl) (by kernel_rfl) (fun _ _ _ h => h) (Or.inl ⟨by kernel_rfl, ?_⟩) hHeld ?_
          rotate_left
          · intro w' hSw
            (try dsimp only at hSw)
            (try simp only [List.getElem_toArray]); (try simp only [List.getElem_cons_succ]); (try simp only [List.getElem_cons_zero])
            go_simp
            try with_reducible rfl
          (try simp only [Act.put]); (try simp only [List.setIfInBounds_toArray]); (try simp only [List.set_cons_succ]); (try simp only [List.set_cons_zero])
          refine wpAnyH_take (i := 5) (v := ?_) rfl (by kernel_rfl) (by kernel_rfl) (by kernel_rfl) (fun _ _ _ h => h) (Or.inl ⟨by kernel_rfl, ?_⟩) hHeld ?_
          rotate_left
          · intro w' hSw
            (try dsimp only at hSw)
            (try simp only [List.getElem_toArray]); (try simp only [List.getElem_cons_succ]); (try simp only [List.getElem_cons_zero])
            go_simp
            try with_reducible rfl
          (try simp only [Act.put]); (try simp only [List.setIfInBounds_toArray]); (try simp only [List.set_cons_succ]); (try simp only [List.set_cons_zero])
          refine wpAnyH_take (i := 6) (v := ?_) rfl (by kernel_rfl) (by kernel_rfl) (by kernel_rfl) (fun _ _ _ h => h) (Or.inl ⟨by kernel_rfl, ?_⟩) hHeld ?_
          rotate_left
          · intro w' hSw
            (try dsimp only at hSw)
            (try simp only [List.getElem_toArray]); (try simp only [List.getElem_cons_succ]); (try simp only [List.getElem_cons_zero])
            go_simp
            try with_reducible rfl
          (try simp only [Act.put]); (try simp only [List.setIfInBounds_toArray]); (try simp only [List.set_cons_succ]); (try simp only [List.set_cons_zero])
          refine wpAnyH_take (i := 7) (v := ?_) rfl (by kernel_rfl) (by kernel_rfl) (by kernel_rfl) (fun _ _ _ h => h) (Or.inl ⟨by kernel_rfl, ?_⟩) hHeld ?_
          rotate_left
          · intro w' hSw
            (try dsimp only at hSw)
            (try simp only [List.getElem_toArray]); (try simp only [List.getElem_cons_succ]); (try simp only [List.getElem_cons_zero])
            go_simp
            try with_reducible rfl
          (try simp only [Act.put]); (try simp only [List.setIfInBounds_toArray]); (try simp only [List.set_cons_succ]); (try simp only [List.set_cons_zero])
          refine wpAnyH_take (i := 8) (v := ?_) rfl (by kernel_rfl) (by kernel_rfl) (by kernel_rfl) (fun _ _ _ h => h) (Or.inl ⟨by kernel_rfl, ?_⟩) hHeld ?_
          rotate_left
          · intro w' hSw
            (try dsimp only at hSw)
            (try simp only [List.getElem_toArray]); (try simp only [List.getElem_cons_succ]); (try simp only [List.getElem_cons_zero])
            go_simp
            try with_reducible rfl
          (try simp only [Act.put]); (try simp only [List.setIfInBounds_toArray]); (try simp only [List.set_cons_succ]); (try simp only [List.set_cons_zero])
          refine wpAnyH_take (i := 9) (v := ?_) rfl (by kernel_rfl) (by kernel_rfl) (by kernel_rfl) (fun _ _ _ h => h) (Or.inl ⟨by kernel_rfl, ?_⟩) hHeld ?_
          rotate_left
          · intro w' hSw
            (try dsimp only at hSw)
            (try simp only [List.getElem_toArray]); (try simp only [List.getElem_cons_succ]); (try simp only [List.getElem_cons_zero])
            go_simp
            try with_reducible rfl
          (try simp only [Act.put]); (try simp only [List.setIfInBounds_toArray]); (try simp only [List.set_cons_succ]); (try simp only [List.set_cons_zero])
          refine wpAnyH_take (i := 10) (v := ?_) rfl (by kernel_rfl) (by kernel_rfl) (by kernel_rfl) (fun _ _ _ h => h) (Or.inl ⟨by kernel_rfl, ?_⟩) hHeld ?_
          rotate_left
          · intro w' hSw
            (try dsimp only at hSw)
            (try simp only [List.getElem_toArray]); (try simp only [List.getElem_cons_succ]); (try simp only [List.getElem_cons_zero])
            go_simp
            try with_reducible rfl
          (try simp only [Act.put]); (try simp only [List.setIfInBounds_toArray]); (try simp only [List.set_cons_succ]); (try simp only [List.set_cons_zero])
          refine wpAnyH_take (i := 11) (v := ?_) rfl (by kernel_rfl) (by kernel_rfl) (by kernel_rfl) (fun _ _ _ h => h) (Or.inl ⟨by kernel_rfl, ?_⟩) hHeld ?_
          rotate_left
          · intro w' hSw
            (try dsimp only at hSw)
            (try simp only [List.getElem_toArray]); (try simp only [List.getElem_cons_succ]); (try simp only [List.getElem_cons_zero])
            go_simp
            try with_reducible rfl
          (try simp only [Act.put]); (try simp only [List.setIfInBounds_toArray]); (try simp only [List.set_cons_succ]); (try simp only [List.set_cons_zero])
          refine wpAnyH_take (i := 12) (v := ?_) rfl (by kernel_rfl) (by kernel_rfl) (by kernel_rfl) (fun _ _ _ h => h) (Or.inl ⟨by kernel_rfl, ?_⟩) hHeld ?_
          rotate_left
          · intro w' hSw
            (try dsimp only at hSw)
            (try simp only [List.getElem_toArray]); (try simp only [List.getElem_cons_succ]); (try simp only [List.getElem_cons_zero])
            go_simp
            try with_reducible rfl
          (try simp only [Act.put]); (try simp only [List.setIfInBounds_toArray]); (try simp only [List.set_cons_succ]); (try simp only [List.set_cons_zero])
          refine wpAnyH_take (i := 13) (v := ?_) rfl (by kernel_rfl) (by kernel_rfl) (by kernel_rfl) (fun _ _ _ h => h) (Or.inl ⟨by kernel_rfl, ?_⟩) hHeld ?_
          rotate_left
          · intro w' hSw
            (try dsimp only at hSw)
            (try simp only [List.getElem_toArray]); (try simp only [List.getElem_cons_succ]); (try simp only [List.getElem_cons_zero])
            go_simp
            try with_reducible rfl
          (try simp only [Act.put]); (try simp only [List.setIfInBounds_toArray]); (try simp only [List.set_cons_succ]); (try simp only [List.set_cons_zero])
          refine wpAnyH_take (i := 14) (v := ?_) rfl (by kernel_rfl) (by kernel_rfl) (by kernel_rfl) (fun _ _ _ h => h) (Or.inl ⟨by kernel_rfl, ?_⟩) hHeld ?_
          rotate_left
          · intro w' hSw
            (try dsimp only at hSw)
            (try simp only [List.getElem_toArray]); (try simp only [List.getElem_cons_succ]); (try simp only [List.getElem_cons_zero])
            go_simp
            try with_reducible rfl
          (try simp only [Act.put]); (try simp only [List.setIfInBounds_toArray]); (try simp only [List.set_cons_succ]); (try simp only [List.set_cons_zero])
          refine wpAnyH_take (i := 15) (v := ?_) rfl (by kernel_rfl) (by kernel_rfl) (by kernel_rfl) (fun _ _ _ h => h) (Or.inl ⟨by kernel_rfl, ?_⟩) hHeld ?_
          rotate_left
          · intro w' hSw
            (try dsimp only at hSw)
            (try simp only [List.getElem_toArray]); (try simp only [List.getElem_cons_succ]); (try simp only [List.getElem_cons_zero])
            go_simp
            try with_reducible rfl
          (try simp only [Act.put]); (try simp only [List.setIfInBounds_toArray]); (try simp only [List.set_cons_succ]); (try simp only [List.set_cons_zero])
          refine wpAnyH_take (i := 16) (v := ?_) rfl (by kernel_rfl) (by kernel_rfl) (by kernel_rfl) (fun _ _ _ h => h) (Or.inl ⟨by kernel_rfl, ?_⟩) hHeld ?_
          rotate_left
          · intro w' hSw
            (try dsimp only at hSw)
            (try simp only [List.getElem_toArray]); (try simp only [List.getElem_cons_succ]); (try simp only [List.getElem_cons_zero])
            go_simp
            try with_reducible rfl
          (try simp only [Act.put]); (try simp only [List.setIfInBounds_toArray]); (try simp only [List.set_cons_succ]); (try simp only [List.set_cons_zero])
          refine wpAnyH_take (i := 17) (v := ?_) rfl (by kernel_rfl) (by kernel_rfl) (by kernel_rfl) (fun _ _ _ h => h) (Or.inl ⟨by kernel_rfl, ?_⟩) hHeld ?_
          rotate_left
          · intro w' hSw
            (try dsimp only at hSw)
            (try simp only [List.getElem_toArray]); (try simp only [List.getElem_cons_succ]); (try simp only [List.getElem_cons_zero])
            go_simp
            try with_reducible rfl
          (try simp only [Act.put]); (try simp only [List.setIfInBounds_toArray]); (try simp only [List.set_cons_succ]); (try simp only [List.set_cons_zero])
          refine wpAnyH_take (i := 18) (v := ?_) rfl (by kernel_rfl) (by kernel_rfl) (by kernel_rfl) (fun _ _ _ h => h) (Or.inl ⟨by kernel_rfl, ?_⟩) hHeld ?_
          rotate_left
          · intro w' hSw
            (try dsimp only at hSw)
            (try simp only [List.getElem_toArray]); (try simp only [List.getElem_cons_succ]); (try simp only [List.getElem_cons_zero])
            go_simp
            try with_reducible rfl
          (try simp only [Act.put]); (try simp only [List.setIfInBounds_toArray]); (try simp only [List.set_cons_succ]); (try simp only [List.set_cons_zero])
          refine wpAnyH_take (i := 19) (v := ?_) rfl (by kernel_rfl) (by kernel_rfl) (by kernel_rfl) (fun _ _ _ h => h) (Or.inl ⟨by kernel_rfl, ?_⟩) hHeld ?_
          rotate_left
          · intro w' hSw
            (try dsimp only at hSw)
            (try simp only [List.getElem_toArray]); (try simp only [List.getElem_cons_succ]); (try simp only [List.getElem_cons_zero])
            go_simp
            try with_reducible rfl
          (try simp only [Act.put]); (try simp only [List.setIfInBounds_toArray]); (try simp only [List.set_cons_succ]); (try simp only [List.set_cons_zero])
          refine wpAnyH_take (i := 20) (v := ?_) rfl (by kernel_rfl) (by kernel_rfl) (by kernel_rfl) (fun _ _ _ h => h) (Or.inl ⟨by kernel_rfl, ?_⟩) hHeld ?_
          rotate_left
          · intro w' hSw
            (try dsimp only at hSw)
            (try simp only [List.getElem_toArray]); (try simp only [List.getElem_cons_succ]); (try simp only [List.getElem_cons_zero])
            go_simp
            try with_reducible rfl
          (try simp only [Act.put]); (try simp only [List.setIfInBounds_toArray]); (try simp only [List.set_cons_succ]); (try simp only [List.set_cons_zero])
          refine wpAnyH_take (i := 21) (v := ?_) rfl (by kernel_rfl) (by kernel_rfl) (by kernel_rfl) (fun _ _ _ h => h) (Or.inl ⟨by kernel_rfl, ?_⟩) hHeld ?_
          rotate_left
          · intro w' hSw
            (try dsimp only at hSw)
            (try simp only [List.getElem_toArray]); (try simp only [List.getElem_cons_succ]); (try simp only [List.getElem_cons_zero])
            go_simp
            try with_reducible rfl
          (try simp only [Act.put]); (try simp only [List.setIfInBounds_toArray]); (try simp only [List.set_cons_succ]); (try simp only [List.set_cons_zero])
          refine wpAnyH_take (i := 22) (v := ?_) rfl (by kernel_rfl) (by kernel_rfl) (by kernel_rfl) (fun _ _ _ h => h) (Or.inl ⟨by kernel_rfl, ?_⟩) hHeld ?_
          rotate_left
          · intro w' hSw
            (try dsimp only at hSw)
            (try simp only [List.getElem_toArray]); (try simp only [List.getElem_cons_succ]); (try simp only [List.getElem_cons_zero])
            go_simp
            try with_reducible rfl
          (try simp only [Act.put]); (try simp only [List.setIfInBounds_toArray]); (try simp only [List.set_cons_succ]); (try simp only [List.set_cons_zero])
          refine wpAnyH_take (i := 23) (v := ?_) rfl (by kernel_rfl) (by kernel_rfl) (by kernel_rfl) (fun _ _ _ h => h) (Or.inl ⟨by kernel_rfl, ?_⟩) hHeld ?_
          rotate_left
          · intro w' hSw
            (try dsimp only at hSw)
            (try simp only [List.getElem_toArray]); (try simp only [List.getElem_cons_succ]); (try simp only [List.getElem_cons_zero])
            go_simp
            try with_reducible rfl
          (try simp only [Act.put]); (try simp only [List.setIfInBounds_toArray]); (try simp only [List.set_cons_succ]); (try simp only [List.set_cons_zero])
          refine wpAnyH_take (i := 24) (v := ?_) rfl (by kernel_rfl) (by kernel_rfl) (by kernel_rfl) (fun _ _ _ h => h) (Or.inl ⟨by kernel_rfl, ?_⟩) hHeld ?_
          rotate_left
          · intro w' hSw
            (try dsimp only at hSw)
            (try simp only [List.getElem_toArray]); (try simp only [List.getElem_cons_succ]); (try simp only [List.getElem_cons_zero])
            go_simp
            try with_reducible rfl
          (try simp only [Act.put]); (try simp only [List.setIfInBounds_toArray]); (try simp only [List.set_cons_succ]); (try simp only [List.set_cons_zero])
          refine wpAnyH_take (i := 25) (v := ?_) rfl (by kernel_rfl) (by kernel_rfl) (by kernel_rfl) (fun _ _ _ h => h) (Or.inl ⟨by kernel_rfl, ?_⟩) hHeld ?_
          rotate_left
          · intro w' hSw
            (try dsimp only at hSw)
            (try simp only [List.getElem_toArray]); (try simp only [List.getElem_cons_succ]); (try simp only [List.getElem_cons_zero])
            go_simp
            try with_reducible rfl
          (try simp only [Act.put]); (try simp only [List.setIfInBounds_toArray]); (try simp only [List.set_cons_succ]); (try simp only [List.set_cons_zero])
          refine wpAnyH_take (i := 27) (v := ?_) rfl (by kernel_rfl) (by kernel_rfl) (by kernel_rfl) (fun _ _ _ h => h) (Or.inl ⟨by kernel_rfl, ?_⟩) hHeld ?_
          rotate_left
          · intro w' hSw
            (try dsimp only at hSw)
            (try simp only [List.getElem_toArray]); (try simp only [List.getElem_cons_succ]); (try simp only [List.getElem_cons_zero])
            go_simp
            try with_reducible rfl
          (try simp only [Act.put]); (try simp only [List.setIfInBounds_toArray]); (try simp only [List.set_cons_succ]); (try simp only [List.set_cons_zero])
          have hd2 := do_ok O2 bD W.heap.size (n + 1) (tp ++ [x]) (upd last 7 ((k : Int) + 1, answer (k + 1) x)) a E.length cap E ⟨7, (k : Int) + 1, x⟩ w2.drew rfl (lE2.mono (q := fun b => (Value.slice a E.length cap).ownBlock = some b) (fun b h => h.2)) (by have := HEl.out; omega) mach2 (by rw [el]; omega) (by omega) HTK.out
          rw [HDO2.out] at hd2
          have hd2 := Lib.hid hd2
          refine wpAnyH_ready (rs := [26]) (by kernel_rfl) (by simp) ?_
          refine AllReadyH.cons rfl (fun K hK => ?_) AllReadyH.nil
          go_simp
          go_fit hd2.out
          rintro e w4 ⟨a4, c4, m4, O4, rfl, -, -, own4, -, -, -, hk4⟩
          have k4 := hk4 rfl
          have mach4 := mach2.keep k4 (fun _ _ => id)
          have kk4 := kk2.trans k4
          have tk4 := (k4.cell (p := ⟨bL, oL + k, none⟩) hbL id).trans tk
          have x04 := (kk4.cell (p := ⟨b, o + k, none⟩) hb id).trans XW.out
          have hcv4 := conv_bytes (P := Try.prog) (l := x) Try.underlying31 Try.underlying5 Try.underlying9 (cap := cx) rfl (LX.out.keep kk4 (fun _ _ => id))
          have rowT4 := rowT.keep k4 id
          have t04 := rowT4.cell 0
          (try simp only [List.getElem?_cons_succ] at t04); (try simp only [List.getElem?_cons_zero] at t04)
          go_wp2_with fail
          refine hK.out _ _ (⟨t04, tk4, x04, hcv4⟩) (fun hHeld => ?_)
          clear hK K
          (try simp only [Act.put]); (try simp only [List.setIfInBounds_toArray]); (try simp only [List.set_cons_succ]); (try simp only [List.set_cons_zero])
          refine wpAnyH_ready (rs := [28]) (by kernel_rfl) (by simp) ?_
          refine AllReadyH.cons rfl (fun K hK => ?_) AllReadyH.nil
          go_simp
          go_fit (bytes_c a4 a2 _ c4 _ c2 (answer (k + 1) x) (answer (k + 1) x) w4 rfl rfl (Lies.of_owned own4) (lA2.keep k4 (fun _ _ => id)))
          rintro e w5 ⟨rfl, rfl⟩
          go_wp2_with fail
          refine hK.out _ _ (⟨t04, tk4, x04, hcv4⟩) (fun hHeld => ?_)
          clear hK K
          (try simp only [Act.put]); (try simp only [List.setIfInBounds_toArray]); (try simp only [List.set_cons_succ]); (try simp only [List.set_cons_zero])
          refine wpAnyH_take (i := 29) (v := ?_) rfl (by kernel_rfl) (by kernel_rfl) (by kernel_rfl) (fun _ _ _ h => h) (Or.inl ⟨by kernel_rfl, ?_⟩) hHeld ?_
          rotate_left
          · intro w' hSw
            (try dsimp only at hSw)
            (try simp only [List.getElem_toArray]); (try simp only [List.getElem_cons_succ]); (try simp only [List.getElem_cons_zero])
            go_simp
            try with_reducible rfl
          (try simp only [Act.put]); (try simp only [List.setIfInBounds_toArray]); (try simp only [List.set_cons_succ]); (try simp only [List.set_cons_zero])
          refine wpAnyH_take (i := 30) (v := ?_) rfl (by kernel_rfl) (by kernel_rfl) (by kernel_rfl) (fun _ _ _ h => h) (Or.inl ⟨by kernel_rfl, ?_⟩) hHeld ?_
          rotate_left
          · intro w' hSw
            (try dsimp only at hSw)
            (try simp only [List.getElem_toArray]); (try simp only [List.getElem_cons_succ]); (try simp only [List.getElem_cons_zero])
            go_simp
            try with_reducible rfl
          (try simp only [Act.put]); (try simp only [List.setIfInBounds_toArray]); (try simp only [List.set_cons_succ]); (try simp only [List.set_cons_zero])
          refine wpAnyH_done (by kernel_rfl) ?_ _
          have hsq' : seqO ((upd last 7 ((k : Int) + 1, answer (k + 1) x)) 7) = (k : Int) + 1 := by simp [upd, seqO]
          generalize (upd last 7 ((k : Int) + 1, answer (k + 1) x)) = last' at mach4 hsq'
          have hl' := Lib.hid hlen
          have hsm' : Hid (∀ i (h : i < xs.length), i < k + 1 → xs[i].length ≤ 300) := fun i h hik => by
            by_cases hi : i = k
            · subst hi; rw [hxk.out]; exact hl'.out
            · exact hsm.out i h (by omega)
          clear hHeld t04 tk4 x04 hcv4 t0 tk x0 hcv own4 rowT rowT4 lA2 lE2 hbL kk2 mach2 own2 hk4 k4 k2 i3 i4 hd2 HDO HDO2 hEO hEm
          by_cases hn : k < ns.length
          · by_cases hk0 : 0 < k
            · obtain ⟨b5, o5, c5, cs5, e5, -, hb5, r5, hcl5⟩ := rList_at (rInt_lawful _) (by decide) HN.out k hn
              simp only [List.cons.injEq, Value.slice.injEq, and_true] at e5
              obtain ⟨rfl, -, -⟩ := e5
              generalize ns[k] = y at r5
              obtain ⟨rfl, hwy⟩ := r5
              have y0 : w4.cell? ⟨b5, o5 + k, none⟩ = some (.int .i64 y) := (kk4.cell (p := ⟨b5, o5 + k, none⟩) hb5 id).trans (by simpa using hcl5 0 _ rfl)
              obtain ⟨cr, m, hmk, f1, f2, f3, f4⟩ := round_facts y k hk0 (by unfold maxLen; omega)
              have hmx : m < xs.length := by omega
              obtain ⟨b6, o6, c6, cs6, e6, -, hb6, r6, hcl6⟩ := rList_at rBytes_lawful (by decide) HX.out m hmx
              simp only [List.cons.injEq, Value.slice.injEq, Option.some.injEq, Addr.mk.injEq, and_true] at e6
              obtain ⟨⟨rfl, rfl⟩, -, -⟩ := e6
              have hz := hsm.out m hmx hmk
              generalize xs[m] = z at r6 hz
              obtain ⟨az, cz, rfl, lz, hcz, hfz⟩ := r6
              have z0 : w4.cell? ⟨b, o + m, none⟩ = some (.slice az z.length cz) := (kk4.cell (p := ⟨b, o + m, none⟩) hb6 id).trans (by simpa using hcl6 0 _ rfl)
              have hmU : isU64 ((m : Int) + 1) := ⟨by omega, by omega⟩
              have hzr : rGCall w4 (· < w4.heap.size) [.int .u64 7, .int .u64 ((m : Int) + 1), .slice az z.length cz] ⟨7, (m : Int) + 1, z⟩ :=
                ⟨[_], [_], [_], rfl, ⟨rfl, wf_of_u64 h7⟩, ⟨rfl, wf_of_u64 hmU⟩, az, cz, rfl, (lz.keep kk4 (fun _ _ => id)).mono (fun b hb => Nat.lt_of_lt_of_le hb kk4.size), hcz, hfz⟩
              have hzl : (encGCall ⟨7, (m : Int) + 1, z⟩).length ≤ 5000 := by
                have h1 := encU_len 7; have h2 := encU_len ((m : Int) + 1); have h3 := textB_len z
                simp only [encGCall, List.length_append]; omega
              have hzk := takeCall ⟨7, (m : Int) + 1, z⟩ (ok_call h7 hmU (by show _ ≤ _; omega))
              have hdoz : doS (tp ++ [x]) last' ⟨7, (m : Int) + 1, z⟩ = (tp ++ [x], last', []) := by
                unfold doS; simp only; rw [hsq', if_neg (by omega), if_pos (by omega)]
              generalize hE : encGCall ⟨7, (m : Int) + 1, z⟩ = Z at hzl hzk
              have HZl := Lib.hid hzl
              have HZK := Lib.hid hzk
              have HDOZ := Lib.hid hdoz
              have hzl' : (encGCall ⟨7, (m : Int) + 1, z⟩).length ≤ far := by rw [hE]; unfold far; omega
              have HC := oTCall_c w4 (· < w4.heap.size) (fun b hb => hb) ⟨7, (m : Int) + 1, z⟩ _ hzr hzl'
              rw [hE] at HC
              have HC := Lib.hid HC
              have hm0 : (0 : Int) ≤ (m : Int) := by omega
              have hm1 : (m : Int) < (xs.length : Int) := by omega
              have hn1 : (k : Int) < (ns.length : Int) := by omega
              have hk1 : (0 : Int) < (k : Int) := by omega
              clear hzl' hzk hdoz hzr hE hzl hcl5 hcl6 lz
              go_wp2_with fail
              go_fit HC.out
              rintro e w6 ⟨a6, c6, rfl, own6, k6⟩
              clear HC z0 y0 f1 f2 f3 f4
              have kk6 := kk4.trans k6
              have mach6 := mach4.keep k6 (fun _ _ => id)
              have hd3 := do_ok O2 bD W.heap.size (n + 1) (tp ++ [x]) last' a6 Z.length c6 Z ⟨7, (m : Int) + 1, z⟩ w6 rfl (Lies.of_owned own6) (by have := HZl.out; omega) mach6 (by rw [el]; omega) (by omega) HZK.out
              rw [HDOZ.out] at hd3
              have hd3 := Lib.hid hd3
              clear own6 k6 kk4 mach4
              go_wp2_with fail
              go_fit hd3.out
              rintro e w7 ⟨a7, c7, m7, O7, rfl, -, -, -, -, -, -, hk7⟩
              have k7 := hk7 rfl
              have kk7 := kk6.trans k7
              have mach7 := mach6.keep k7 (fun _ _ => id)
              clear hd3 kk6 mach6 hk7 k7
              obtain ⟨aT, cT, rowT, -⟩ := mach7.tape
              rw [el] at rowT
              have t0 := rowT.cell 0
              (try simp only [List.getElem?_cons_succ] at t0); (try simp only [List.getElem?_cons_zero] at t0)
              simp only [List.length_nil]
              go_wp2_with fail
              go_roundw
              case rel => exact ⟨k + 1, n + 1, O2, tp ++ [x], last', by go_num, by go_num, by omega, by omega, el, by rw [hsq']; go_num, hsm', mach7, hO2', kk7⟩
              case measure => simp [intOf]; omega
            · obtain rfl : k = 0 := by omega
              clear hk0
              obtain ⟨aT, cT, rowT, -⟩ := mach4.tape
              rw [el] at rowT
              have t0 := rowT.cell 0
              (try simp only [List.getElem?_cons_succ] at t0); (try simp only [List.getElem?_cons_zero] at t0)
              have hn1 : ((0 : Nat) : Int) < (ns.length : Int) := by omega
              go_wp2_with fail
              go_roundw
              case rel => exact ⟨0 + 1, n + 1, O2, tp ++ [x], last', by go_num, by go_num, by omega, by omega, el, by rw [hsq']; go_num, hsm', mach4, hO2', kk4⟩
              case measure => simp [intOf]
          · have hn1 : ¬ (k : Int) < (ns.length : Int) := by omega
            obtain ⟨aT, cT, rowT, -⟩ := mach4.tape
            rw [el] at rowT
            have t0 := rowT.cell 0
            (try simp only [List.getElem?_cons_succ] at t0); (try simp only [List.getElem?_cons_zero] at t0)
            clear hn
            go_wp2_with fail
            go_roundw
            case rel => exact ⟨k + 1, n + 1, O2, tp ++ [x], last', by go_num, by go_num, by omega, by omega, el, by rw [hsq']; go_num, hsm', mach4, hO2', kk4⟩
            case measure => simp [intOf]; omega
        · have hlen : 300 < x.length := by omega
          go_wp2_with fail
          go_ret
          exact ⟨rfl, kk⟩
      · obtain rfl : k = 40 := by omega
        go_wp2_with fail
        go_ret
        exact ⟨rfl, kk⟩
    · have hx' : ¬ (k : Int) < (xs.length : Int) := by omega
      clear hx
      go_wp2_with fail
      go_ret
      exact ⟨rfl, kk⟩
end
theorem walk {m0 m1 : Nat} (W : World) (v0 v1 : Value) (h0 : Arg Try.prog W m0 22 v0) (h1 : Arg Try.prog W m1 23 v1) :
    Calls Try.prog 3 #[v0, v1] W fun e w' => e = .returned (.bool true) ∧ Keep Nix W w' := by
  obtain ⟨a, n, ca, rfl, h2⟩ := h0.slice Try.underlying22
  obtain ⟨b, m, cb, rfl, h3⟩ := h1.slice Try.underlying23
  obtain ⟨xs, hx, -⟩ := h2.toList (R := rBytes) (sz := 1) (by' := 24) (fun l : List UInt8 => l.length + 1) Try.underlying22 (by kernel_rfl) (by kernel_rfl) (by decide) (by decide) (fun h => h.toBytes Try.underlying31 Try.underlying5 (by kernel_rfl) (by kernel_rfl))
  obtain ⟨ns, hn, -⟩ := h3.toList (R := rInt .i64) (sz := 1) (by' := 8) (fun _ => 1) Try.underlying23 (by kernel_rfl) (by kernel_rfl) (by decide) (by decide) (fun h => h.toInt Try.underlying3)
  obtain ⟨rfl, -, -⟩ := rList_len hx
  obtain ⟨rfl, -, -⟩ := rList_len hn
  exact walk' W xs ns a ca b cb hx hn
end dedupTwice
end Go.Proofs.Ythchpdflnpfjkaa
