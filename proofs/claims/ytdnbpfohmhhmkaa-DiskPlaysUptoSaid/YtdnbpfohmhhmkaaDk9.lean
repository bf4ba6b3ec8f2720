/- DISK: Crash of the program's disk. Printed by mac.py. -/
import Derived.Test.YtdnbpfohmhhmkaaDk8
import Derived.Deep.DeepCutAuto
namespace Go.Proofs.Ytdnbpfohmhhmkaa
open Go.RowKit

theorem mix_row {S : List (List UInt8)} (h : ∀ b ∈ S, b.length = 64) {k : Nat} (hk : k < S.length) {l : List UInt8} (hl : l.length = 64) {n : Nat} (hn : n ≤ 64) (rest : List Value) :
    (secs S ++ rest).take (k * 64) ++ (l.take n).map bv ++ (secs S ++ rest).drop (k * 64 + ((l.take n).map bv).length) = secs (S.set k (mixF n S[k] l)) ++ rest := by
  have h1 : S = S.take k ++ S[k] :: S.drop (k + 1) := by rw [List.getElem_cons_drop, List.take_append_drop]
  have h2 : S.set k (mixF n S[k] l) = S.take k ++ mixF n S[k] l :: S.drop (k + 1) := List.set_eq_take_append_cons_drop.trans (by rw [if_pos hk])
  have e1 : (secs (S.take k)).length = k * 64 := by rw [secs_len (fun c hc => h c (List.mem_of_mem_take hc)), List.length_take]; omega
  have hc : ∀ c L, secs (c :: L) = c.map bv ++ secs L := fun c L => by simp [secs]
  have e2 : (S[k].map bv).length = 64 := by rw [List.length_map]; exact h _ (List.getElem_mem hk)
  have e3 : secs S = secs (S.take k) ++ (S[k].map bv ++ secs (S.drop (k + 1))) := by
    conv => lhs; rw [h1]
    rw [secs_app, hc]
  have hln : ((l.take n).map bv).length = n := by rw [List.length_map, List.length_take]; omega
  rw [h2, secs_app, hc, hln, e3]
  generalize secs (S.take k) = A at *
  generalize secs (S.drop (k + 1)) = B at *
  have em : (mixF n S[k] l).map bv = (l.take n).map bv ++ (S[k].map bv).drop n := by unfold mixF; rw [List.map_append, List.map_drop]
  rw [em]
  have t1 : (A ++ (S[k].map bv ++ B) ++ rest).take (k * 64) = A := by rw [List.append_assoc, List.take_left' e1]
  have t2 : (A ++ (S[k].map bv ++ B) ++ rest).drop (k * 64 + n) = (S[k].map bv).drop n ++ (B ++ rest) := by
    rw [List.append_assoc, ← List.drop_drop, List.drop_left' e1, List.append_assoc, List.drop_append_of_le_length (by omega)]
  rw [t1, t2]
  simp only [List.append_assoc]
section
attribute [local go_sem ↓] ldz_sector stz_sector ldz_write stz_write
set_option maxRecDepth 100000 in
set_option maxHeartbeats 4000000 in
theorem crash_c {p q : Nat → Prop} (g : Nat) (S : List (List UInt8)) (Q : List (Int × List UInt8)) (dn : Bool) (ar : Int) (a : Option Addr) (c : Nat) (keep : List Int) (w : World) (hd : IsDisk w p g S Q dn ar) (ok : DiskOk S Q ar) (hQ : Q.length ≤ 1000)
    (hl : Lies w q a (keep.map (Value.int .i64))) (hqp : ∀ b, q b → ¬ p b) (hm : keep.length ≤ 140737488351232) :
    Calls Try.prog 13 #[.pointer (some ⟨g, 0, none⟩), .slice a keep.length c] w (DiskPost p g w (0, fallF S Q keep Q.length, [], true, ar)) := by
  obtain ⟨aS, cS, aQ, cQ, row, hown, howq, hp, hap, haq⟩ := hd
  replace hap := Lib.hid hap
  replace haq := Lib.hid haq
  have x2 := row.cell 2
  (try simp only [List.getElem?_cons_succ] at x2); (try simp only [List.getElem?_cons_zero] at x2)
  have f2 := row.frozen 2
  have row2 : RowIs (w.setCell ⟨g, 2, none⟩ (.bool true)) g 62 [.slice aS S.length cS, .slice aQ Q.length cQ, .bool true, .int .i64 ar] := row.set 2 _
  have k2 : Keep (· = g) w (w.setCell ⟨g, 2, none⟩ (.bool true)) := (Keep.refl (· = g) w).setCell (fun _ => rfl) _
  have hown2 := owned_keep hown k2 (fun b hb e => (hap.out b hb).2 e)
  have howq2 := owned_keep howq k2 (fun b hb e => (haq.out b hb).2.1 e)
  have hl2 := hl.keep k2 (fun b hb e => hqp b hb (e ▸ hp))
  have x1 := row2.cell 1
  (try simp only [List.getElem?_cons_succ] at x1); (try simp only [List.getElem?_cons_zero] at x1)
  have hz67 : ∀ w' : World, (zeroValue 67).run Try.prog w' = .ok (.agg zQ.toArray) w' := fun w' => by kernel_rfl
  have hn0 : Q.length ≤ 140737488351232 := by omega
  have hnS : S.length ≤ 65536 := ok.n
  go_enter Try.func13, Try.ntmps13
  go_wp2_with fail
  clear x1 x2 f2
  generalize w.setCell ⟨g, 2, none⟩ (.bool true) = w2 at *
  go_loopw [18] (fun i wr => ∃ k : Nat, k ≤ Q.length ∧ i = .int .i64 k ∧ wr.ownsRow 0 65 64 (.slice aS (fallF S Q keep k).length cS) (fallF S Q keep k).length (secs (fallF S Q keep k)) ∧ Keep (OwnB (.slice aS S.length cS)) w2 wr) (fun i _ => Q.length - (intOf i).toNat)
  case atStart => exact ⟨0, by omega, rfl, hown2, Keep.refl _ _⟩
  case round =>
    clear hown2 hown howq hl
    obtain ⟨k, hk, rfl, hown, kk⟩ := hrel
    replace row2 := row2.keep kk (fun h => (hap.out g h).2 rfl)
    replace howq2 := owned_keep howq2 kk (fun b hb h => (haq.out b hb).2.2 h)
    replace hl2 := hl2.keep kk (fun b hb h => hqp b hb (hap.out b h).1)
    by_cases hlt : k < Q.length
    · have hi0 : (0 : Int) ≤ (k : Int) := by omega
      have hi1 : (k : Int) < (Q.length : Int) := by omega
      have h64 := fall_64 ok keep k (by omega)
      have hlS := fall_len S Q keep k
      have hnx : Hid (fallF S Q keep (k + 1) = (fallF S Q keep k).set Q[k].1.toNat (mixF (keepN keep k) ((fallF S Q keep k).getD Q[k].1.toNat []) Q[k].2)) := (by
        show _ = _
        have e : Q.getD k (0, []) = Q[k] := by rw [List.getD_eq_getElem?_getD, List.getElem?_eq_getElem hlt]; rfl
        rw [← e]; rfl)
      generalize fallF S Q keep k = Sk at *
      have hLQ := Lies.of_owned howq2
      obtain ⟨bQ, oQ, rfl, -, hbQ, hcQ⟩ := hLQ (by
        intro e
        have := wrts_at (fun q hq => (ok.q64 q hq).1) hlt 0 _ rfl
        rw [e] at this; simp at this)
      obtain ⟨hq64, hq0, hq1⟩ := ok.q64 _ (List.getElem_mem hlt)
      have hl65 : (wcells Q[k]).length = 65 := by simp [wcells, hq64]
      have ho65 : ones (wcells Q[k]) = true := by
        rw [ones, List.all_eq_true]
        intro u hu
        rcases List.mem_cons.1 (show u ∈ Value.int .i64 Q[k].1 :: Q[k].2.map bv from hu) with rfl | hu
        · rfl
        · exact bv_one _ u hu
      have ldQ := A_write.load (P := Try.prog) (w := wr) (b := bQ) (o := oQ + k * 65) hl65 (fun j v hv => by rw [Nat.add_assoc]; exact hcQ _ v (wrts_at (fun q hq => (ok.q64 q hq).1) hlt j v hv))
      obtain ⟨hst, rowW, kW⟩ := A_write.boxed (P := Try.prog) (zs := zQ) wr rfl hl65 ho65
      generalize hq : Q[k] = q1 at *
      clear hq hcQ hl65 ho65 hLQ
      replace hl2 := hl2.keep kW (fun _ _ h => h)
      have hownW := owned_keep hown kW (fun _ _ h => h)
      have row3 := row2.keep kW id
      go_upto_if 26 with fail
      clear hst ldQ
      generalize (wr.alloc (.cells zQ.toArray 67)).setRow wr.heap.size (wcells q1).toArray = w3 at *
      go_cut [7] from 23 to 32 (fun s7 wx => s7 = .int .i64 ((keepN keep k : Nat) : Int) ∧ w3 = wx)
      case first =>
        rcases Nat.lt_or_ge k keep.length with hkk | hkk
        · have hk1 : (k : Int) < (keep.length : Int) := by omega
          obtain ⟨bK, oK, rfl, -, hbK, hcK⟩ := hl2 (by intro e; rw [List.map_eq_nil_iff] at e; subst e; simp at hkk)
          have xk := hcK k (.int .i64 keep[k]) (by simp [hkk])
          have e : keep.getD k 0 = keep[k] := by rw [List.getD_eq_getElem?_getD, List.getElem?_eq_getElem hkk]; rfl
          have he : keepN keep k = (min (max keep[k] 0) 64).toNat := by unfold keepN; rw [e]
          have HV := Lib.hid he
          clear he e
          go_wp2_with fail
          all_goals
            go_meet
            case rel => exact ⟨congrArg (Value.int .i64) (by rw [HV.out]; omega), rfl⟩
        · have hk1 : (keep.length : Int) ≤ (k : Int) := by omega
          have HE : Hid (((keepN keep k : Nat) : Int) = 0) := (by
            show _ = _
            have e : keep.getD k 0 = 0 := by rw [List.getD_eq_getElem?_getD, List.getElem?_eq_none hkk]; rfl
            unfold keepN
            rw [e]; rfl)
          go_wp2_with fail
          go_meet
          case rel => exact ⟨by rw [HE.out], rfl⟩
      case rest =>
      obtain ⟨rfl, rfl⟩ := hcut
      have hn64 := keepN_le keep k
      generalize keepN keep k = n at *
      obtain ⟨n1, l⟩ := q1
      obtain ⟨k1, rfl⟩ : ∃ k1 : Nat, n1 = (k1 : Int) := ⟨n1.toNat, by have : (0 : Int) ≤ n1 := hq0; omega⟩
      replace hq64 : l.length = 64 := hq64
      have hq1' : (k1 : Int) < (S.length : Int) := hq1
      have hk1 : k1 < Sk.length := by rw [hlS]; omega
      have hk10 : (0 : Int) ≤ (k1 : Int) := by omega
      have hni0 : (0 : Int) ≤ (n : Int) := by omega
      have hni1 : (n : Int) ≤ 64 := by omega
      have kd : Keep Nix w3 w3.drew := (Keep.refl Nix w3).drew
      obtain ⟨gS, rest, rfl, hb0, rowS, hlr, hxr, hnr, hmr⟩ := own_row hownW (by omega)
      have z0 := ((rowW.keep kd id).cell 0).trans (show (wcells ((k1 : Int), l))[0]? = some (.int .i64 k1) from rfl)
      have hgS : OwnB (.slice (some ⟨gS, 0, none⟩) S.length cS) gS := rfl
      have hgw : gS < wr.heap.size := (hown.lt gS rfl).2
      have rowD := rowS.keep kd id
      have hsrc : ∀ j v, ((l.take n).map bv)[j]? = some v → w3.drew.cell? (Addr.add ⟨wr.heap.size, 1, none⟩ j) = some v := fun j v hv => by
        rw [Addr.add_lit, (rowW.keep kd id).cell, Nat.add_comm]
        show (l.map bv)[j]? = some v
        have hj := (List.getElem?_eq_some_iff.1 hv).1
        rw [List.map_take] at hv
        rw [List.length_map, List.length_take] at hj
        rwa [List.getElem?_take_of_lt (by omega)] at hv
      have HX := Lib.hid (mix_row h64 hk1 hq64 hn64 rest)
      have HS : Hid ((w3.drew.cell? ⟨g, 0, none⟩ = some (.slice (some ⟨gS, 0, none⟩) S.length cS) ∧ w3.drew.cell? ⟨wr.heap.size, 0, none⟩ = some (.int .i64 k1))) := ⟨(row3.keep kd id).cell 0, z0⟩
      go_upto_region 10 with fail
      refine wp_region_held_drew (S := (fun w' => (w'.cell? ⟨g, 0, none⟩ = some (.slice (some ⟨gS, 0, none⟩) S.length cS) ∧ w'.cell? ⟨wr.heap.size, 0, none⟩ = some (.int .i64 k1)))) (by kernel_rfl) (HS.out) (fun hHeld => ?_)
      refine wpAnyH_take (i := 0) (v := ?_) rfl (by kernel_rfl) (by kernel_rfl) (by kernel_rfl) (fun _ _ _ h => h) (Or.inl ⟨by kernel_rfl, ?_⟩) hHeld ?_
      rotate_left
      · intro w' hSw
        (try dsimp only at hSw)
        (try simp only [List.getElem_toArray]); (try simp only [List.getElem_cons_succ]); (try simp only [List.getElem_cons_zero])
        go_simp
        try with_reducible rfl
      (try simp only [Act.put]); (try simp only [List.getElem_toArray]); (try simp only [List.getElem_cons_succ]); (try simp only [List.getElem_cons_zero]); (try simp only [List.setIfInBounds_toArray]); (try simp only [List.set_cons_succ]); (try simp only [List.set_cons_zero])
      refine wpAnyH_take (i := 1) (v := ?_) rfl (by kernel_rfl) (by kernel_rfl) (by kernel_rfl) (fun _ _ _ h => h) (Or.inl ⟨by kernel_rfl, ?_⟩) hHeld ?_
      rotate_left
      · intro w' hSw
        (try dsimp only at hSw)
        (try simp only [List.getElem_toArray]); (try simp only [List.getElem_cons_succ]); (try simp only [List.getElem_cons_zero])
        go_simp
        try with_reducible rfl
      (try simp only [Act.put]); (try simp only [List.getElem_toArray]); (try simp only [List.getElem_cons_succ]); (try simp only [List.getElem_cons_zero]); (try simp only [List.setIfInBounds_toArray]); (try simp only [List.set_cons_succ]); (try simp only [List.set_cons_zero])
      refine wpAnyH_take (i := 2) (v := ?_) rfl (by kernel_rfl) (by kernel_rfl) (by kernel_rfl) (fun _ _ _ h => h) (Or.inl ⟨by kernel_rfl, ?_⟩) hHeld ?_
      rotate_left
      · intro w' hSw
        (try dsimp only at hSw)
        (try simp only [List.getElem_toArray]); (try simp only [List.getElem_cons_succ]); (try simp only [List.getElem_cons_zero])
        go_simp
        try with_reducible rfl
      (try simp only [Act.put]); (try simp only [List.getElem_toArray]); (try simp only [List.getElem_cons_succ]); (try simp only [List.getElem_cons_zero]); (try simp only [List.setIfInBounds_toArray]); (try simp only [List.set_cons_succ]); (try simp only [List.set_cons_zero])
      refine wpAnyH_take (i := 3) (v := ?_) rfl (by kernel_rfl) (by kernel_rfl) (by kernel_rfl) (fun _ _ _ h => h) (Or.inl ⟨by kernel_rfl, ?_⟩) hHeld ?_
      rotate_left
      · intro w' hSw
        (try dsimp only at hSw)
        (try simp only [List.getElem_toArray]); (try simp only [List.getElem_cons_succ]); (try simp only [List.getElem_cons_zero])
        go_simp
        try with_reducible rfl
      (try simp only [Act.put]); (try simp only [List.getElem_toArray]); (try simp only [List.getElem_cons_succ]); (try simp only [List.getElem_cons_zero]); (try simp only [List.setIfInBounds_toArray]); (try simp only [List.set_cons_succ]); (try simp only [List.set_cons_zero])
      refine wpAnyH_take (i := 4) (v := ?_) rfl (by kernel_rfl) (by kernel_rfl) (by kernel_rfl) (fun _ _ _ h => h) (Or.inl ⟨by kernel_rfl, ?_⟩) hHeld ?_
      rotate_left
      · intro w' hSw
        (try dsimp only at hSw)
        (try simp only [List.getElem_toArray]); (try simp only [List.getElem_cons_succ]); (try simp only [List.getElem_cons_zero])
        go_simp
        try with_reducible rfl
      (try simp only [Act.put]); (try simp only [List.getElem_toArray]); (try simp only [List.getElem_cons_succ]); (try simp only [List.getElem_cons_zero]); (try simp only [List.setIfInBounds_toArray]); (try simp only [List.set_cons_succ]); (try simp only [List.set_cons_zero])
      refine wpAnyH_take (i := 5) (v := ?_) rfl (by kernel_rfl) (by kernel_rfl) (by kernel_rfl) (fun _ _ _ h => h) (Or.inl ⟨by kernel_rfl, ?_⟩) hHeld ?_
      rotate_left
      · intro w' hSw
        (try dsimp only at hSw)
        (try simp only [List.getElem_toArray]); (try simp only [List.getElem_cons_succ]); (try simp only [List.getElem_cons_zero])
        go_simp
        try with_reducible rfl
      (try simp only [Act.put]); (try simp only [List.getElem_toArray]); (try simp only [List.getElem_cons_succ]); (try simp only [List.getElem_cons_zero]); (try simp only [List.setIfInBounds_toArray]); (try simp only [List.set_cons_succ]); (try simp only [List.set_cons_zero])
      refine wpAnyH_take (i := 6) (v := ?_) rfl (by kernel_rfl) (by kernel_rfl) (by kernel_rfl) (fun _ _ _ h => h) (Or.inl ⟨by kernel_rfl, ?_⟩) hHeld ?_
      rotate_left
      · intro w' hSw
        (try dsimp only at hSw)
        (try simp only [List.getElem_toArray]); (try simp only [List.getElem_cons_succ]); (try simp only [List.getElem_cons_zero])
        go_simp
        try with_reducible rfl
      (try simp only [Act.put]); (try simp only [List.getElem_toArray]); (try simp only [List.getElem_cons_succ]); (try simp only [List.getElem_cons_zero]); (try simp only [List.setIfInBounds_toArray]); (try simp only [List.set_cons_succ]); (try simp only [List.set_cons_zero])
      refine wpAnyH_take (i := 7) (v := ?_) rfl (by kernel_rfl) (by kernel_rfl) (by kernel_rfl) (fun _ _ _ h => h) (Or.inl ⟨by kernel_rfl, ?_⟩) hHeld ?_
      rotate_left
      · intro w' hSw
        (try dsimp only at hSw)
        (try simp only [List.getElem_toArray]); (try simp only [List.getElem_cons_succ]); (try simp only [List.getElem_cons_zero])
        go_simp
        try with_reducible rfl
      (try simp only [Act.put]); (try simp only [List.getElem_toArray]); (try simp only [List.getElem_cons_succ]); (try simp only [List.getElem_cons_zero]); (try simp only [List.setIfInBounds_toArray]); (try simp only [List.set_cons_succ]); (try simp only [List.set_cons_zero])
      refine wpAnyH_take (i := 8) (v := ?_) rfl (by kernel_rfl) (by kernel_rfl) (by kernel_rfl) (fun _ _ _ h => h) (Or.inl ⟨by kernel_rfl, ?_⟩) hHeld ?_
      rotate_left
      · intro w' hSw
        (try dsimp only at hSw)
        (try simp only [List.getElem_toArray]); (try simp only [List.getElem_cons_succ]); (try simp only [List.getElem_cons_zero])
        go_simp
        try with_reducible rfl
      (try simp only [Act.put]); (try simp only [List.getElem_toArray]); (try simp only [List.getElem_cons_succ]); (try simp only [List.getElem_cons_zero]); (try simp only [List.setIfInBounds_toArray]); (try simp only [List.set_cons_succ]); (try simp only [List.set_cons_zero])
      refine wpAnyH_take (i := 9) (v := ?_) rfl (by kernel_rfl) (by kernel_rfl) (by kernel_rfl) (fun _ _ _ h => h) (Or.inl ⟨by kernel_rfl, ?_⟩) hHeld ?_
      rotate_left
      · intro w' hSw
        (try dsimp only at hSw)
        (try simp only [List.getElem_toArray]); (try simp only [List.getElem_cons_succ]); (try simp only [List.getElem_cons_zero])
        go_simp
        try with_reducible rfl
      (try simp only [Act.put]); (try simp only [List.getElem_toArray]); (try simp only [List.getElem_cons_succ]); (try simp only [List.getElem_cons_zero]); (try simp only [List.setIfInBounds_toArray]); (try simp only [List.set_cons_succ]); (try simp only [List.set_cons_zero])
      refine wpAnyH_take (i := 10) (v := ?_) rfl (by kernel_rfl) (by kernel_rfl) (by kernel_rfl) (fun _ _ _ h => h) (Or.inl ⟨by kernel_rfl, ?_⟩) hHeld ?_
      rotate_left
      · intro w' hSw
        (try dsimp only at hSw)
        (try simp only [List.getElem_toArray]); (try simp only [List.getElem_cons_succ]); (try simp only [List.getElem_cons_zero])
        go_simp
        try with_reducible rfl
      (try simp only [Act.put]); (try simp only [List.getElem_toArray]); (try simp only [List.getElem_cons_succ]); (try simp only [List.getElem_cons_zero]); (try simp only [List.setIfInBounds_toArray]); (try simp only [List.set_cons_succ]); (try simp only [List.set_cons_zero])
      refine wpAnyH_take (i := 11) (v := ?_) rfl (by kernel_rfl) (by kernel_rfl) (by kernel_rfl) (fun _ _ _ h => h) (Or.inl ⟨by kernel_rfl, ?_⟩) hHeld ?_
      rotate_left
      · intro w' hSw
        (try dsimp only at hSw)
        (try simp only [List.getElem_toArray]); (try simp only [List.getElem_cons_succ]); (try simp only [List.getElem_cons_zero])
        go_simp
        try with_reducible rfl
      (try simp only [Act.put]); (try simp only [List.getElem_toArray]); (try simp only [List.getElem_cons_succ]); (try simp only [List.getElem_cons_zero]); (try simp only [List.setIfInBounds_toArray]); (try simp only [List.set_cons_succ]); (try simp only [List.set_cons_zero])
      refine wpAnyH_ready (rs := [12]) (by kernel_rfl) (by simp) ?_
      refine AllReadyH.cons rfl (fun K hK => ?_) AllReadyH.nil
      refine step_copy_row (by rfl) (.tmp 41) (.tmp 44) _ _ (by rfl) 5 Try.underlying22 (by kernel_rfl) gS (k1 * 64) n 64 ⟨wr.heap.size, 1, none⟩ n 64 (by rfl) (by rfl) rowD (cs := (l.take n).map bv) (by simp [hq64]; omega) hsrc (by
        rw [List.length_map, List.length_take, List.length_append, secs_len h64]; omega) (fun u hu => bv_one _ u hu) ?_
      obtain ⟨XS, hXS⟩ : ∃ XS, secs (Sk.set k1 (mixF n Sk[k1] l)) ++ rest = XS := ⟨_, rfl⟩
      rw [HX.out, hXS]
      have k8 : Keep (· = gS) w3.drew (w3.drew.setRow gS XS.toArray) := (Keep.refl (· = gS) w3.drew).setRow (fun _ => rfl) _
      have row8 : RowIs (w3.drew.setRow gS XS.toArray) gS 65 (secs (Sk.set k1 (mixF n Sk[k1] l)) ++ rest) := by rw [hXS]; exact rowD.setRow XS
      have HS8 := And.intro ((k8.cell (p := ⟨g, 0, none⟩) (row3.keep kd id).lt (fun e => (hap.out gS hgS).2 e.symm)).trans HS.out.1) ((k8.cell (p := ⟨wr.heap.size, 0, none⟩) (rowW.keep kd id).lt (by show ¬ wr.heap.size = gS; omega)).trans HS.out.2)
      have HKK := Lib.hid (((kk.trans kW.nix).trans kd.nix).then k8 (fun i _ hi => by rw [hi]; rfl))
      have hs64 : ∀ c ∈ Sk.set k1 (mixF n Sk[k1] l), c.length = 64 := fun c hc => by
        rcases List.mem_or_eq_of_mem_set hc with h' | h'
        · exact h64 c h'
        · rw [h']; exact mix_len (h64 _ (List.getElem_mem hk1)) hq64 hn64
      have hsl := secs_len hs64
      rw [List.length_set] at hsl
      have HO := Lib.hid (row_own row8 hb0 (by rw [← hlr, List.length_append, List.length_append, hsl, secs_len h64]) hsl hnr hmr)
      have HNX : Hid (fallF S Q keep (k + 1) = Sk.set k1 (mixF n Sk[k1] l)) := (by
        show _ = _
        rw [hnx.out, Int.toNat_natCast, List.getD_eq_getElem?_getD, List.getElem?_eq_getElem hk1]; rfl)
      refine hK.out _ _ (HS8) (fun hHeld => ?_)
      clear hK K
      (try simp only [Act.put]); (try simp only [List.getElem_toArray]); (try simp only [List.getElem_cons_succ]); (try simp only [List.getElem_cons_zero]); (try simp only [List.setIfInBounds_toArray]); (try simp only [List.set_cons_succ]); (try simp only [List.set_cons_zero])
      refine wpAnyH_done (by kernel_rfl) ?_ _
      clear hHeld HS8 k8 row8 rowD rowS kd kk kW row3 rowW hown hownW row2 howq2 hsrc hs64 hsl hnx HX hXS
      go_wp2_with fail
      go_roundw
      case rel => exact ⟨k + 1, by omega, by go_num, by rw [HNX.out, List.length_set]; exact HO.out, HKK.out⟩
      case measure => simp [intOf]; omega
    · obtain rfl : k = Q.length := by omega
      have x1 := row2.cell 1
      (try simp only [List.getElem?_cons_succ] at x1); (try simp only [List.getElem?_cons_zero] at x1)
      have f1 := row2.frozen 1
      have k7 : Keep (· = g) wr (wr.setCell ⟨g, 1, none⟩ (.slice none 0 0)) := (Keep.refl (· = g) wr).setCell (fun _ => rfl) _
      have hown7 := owned_keep hown k7 (fun b hb e => (hap.out b (by rw [fall_len] at hb; exact hb)).2 e)
      have row7 := row2.set 1 (.slice none 0 0)
      have HO := Lib.hid hown7
      have HR := Lib.hid row7
      have HK := Lib.hid (((k2.mono (T := p) (fun i hi => by rw [hi]; exact hp)).then kk (fun i _ hi => (hap.out i hi).1)).then k7 (fun i _ hi => by rw [hi]; exact hp))
      clear hown7 row7 k7 hown howq2 kk row2
      go_wp2_with fail
      go_ret
      refine ⟨rfl, ⟨aS, cS, none, 0, ?_, HO.out, ⟨rfl, .inl ⟨rfl, rfl⟩⟩, .inl hp, fun b hb => ?_, fun b hb => by cases hb⟩, HK.out⟩
      · rw [fall_len]; exact HR.out
      · have hb' : OwnB (.slice aS S.length cS) b := by rw [fall_len] at hb; exact hb
        exact ⟨.inl (hap.out b hb').1, (hap.out b hb').2⟩
end
end Go.Proofs.Ytdnbpfohmhhmkaa
