/- DISK: Flush of the program's disk. Printed by mac.py. -/
import Derived.Test.YtdnbpfohmhhmkaaDk6
import Derived.Deep.DeepCutAuto
namespace Go.Proofs.Ytdnbpfohmhhmkaa
open Go.RowKit

def putS (S : List (List UInt8)) (q : Int × List UInt8) : List (List UInt8) := S.set q.1.toNat q.2
theorem puts_len (S : List (List UInt8)) (R : List (Int × List UInt8)) : (R.foldl putS S).length = S.length := by
  induction R generalizing S with
  | nil => rfl
  | cons q R ih => rw [List.foldl_cons, ih]; unfold putS; rw [List.length_set]
theorem puts_64 {S : List (List UInt8)} {R : List (Int × List UInt8)} (h : ∀ b ∈ S, b.length = 64) (hq : ∀ q ∈ R, q.2.length = 64) : ∀ b ∈ R.foldl putS S, b.length = 64 := by
  induction R generalizing S with
  | nil => exact h
  | cons q R ih =>
    rw [List.foldl_cons]
    refine ih (fun b hb => ?_) (fun r hr => hq r (List.mem_cons_of_mem _ hr))
    rcases List.mem_or_eq_of_mem_set hb with h' | h'
    · exact h b h'
    · rw [h']; exact hq q (by simp)
def flushF (S : List (List UInt8)) (Q : List (Int × List UInt8)) (dn : Bool) (ar : Int) : Int × List (List UInt8) × List (Int × List UInt8) × Bool × Int :=
  if dn = true then (3, S, Q, dn, ar) else if (hitF dn ar).2.2 = true then (3, S, Q, (hitF dn ar).1, (hitF dn ar).2.1) else (0, Q.foldl putS S, [], (hitF dn ar).1, (hitF dn ar).2.1)
def DiskPost (p : Nat → Prop) (g : Nat) (w : World) (r : Int × List (List UInt8) × List (Int × List UInt8) × Bool × Int) (e : Ending) (w' : World) : Prop := e = .returned (.int .i64 r.1) ∧ IsDisk w' (fun b => p b ∨ w.heap.size ≤ b) g r.2.1 r.2.2.1 r.2.2.2.1 r.2.2.2.2 ∧ Keep p w w'
section
attribute [local go_sem ↓] ldz_sector stz_sector ldz_write stz_write
set_option maxRecDepth 100000 in
set_option maxHeartbeats 4000000 in
theorem flush_c {p : Nat → Prop} (g : Nat) (S : List (List UInt8)) (Q : List (Int × List UInt8)) (dn : Bool) (ar : Int) (w : World) (hd : IsDisk w p g S Q dn ar) (ok : DiskOk S Q ar) (hQ : Q.length ≤ 1000) :
    Calls Try.prog 11 #[.pointer (some ⟨g, 0, none⟩)] w (DiskPost p g w (flushF S Q dn ar)) := by
  obtain ⟨aS, cS, aQ, cQ, row, hown, howq, hp, hap, haq⟩ := hd
  cases dn with
  | true =>
    have HF : Hid (flushF S Q true ar = (3, S, Q, true, ar)) := rfl
    go_enter Try.func11, Try.ntmps11
    go_wp2_with fail
    go_fit (up_c g _ _ _ true _ row)
    rintro e w1 ⟨rfl, rfl⟩
    go_wp2_with fail
    go_fit (fine_c 3 _)
    rintro e w1 ⟨rfl, rfl⟩
    go_wp2_with fail
    go_ret
    rw [HF.out]
    exact ⟨rfl, ⟨aS, cS, aQ, cQ, row, hown, howq, .inl hp, fun b hb => ⟨.inl (hap b hb).1, (hap b hb).2⟩, fun b hb => ⟨.inl (haq b hb).1, (haq b hb).2⟩⟩, Keep.refl _ _⟩
  | false =>
    obtain ⟨y, HY⟩ : ∃ y, Hid (hitF false ar = y) := ⟨_, rfl⟩
    have HC := hit_c g _ _ false ar w row ok.a0 ok.a1
    rw [HY.out] at HC
    have HCC := Lib.hid HC
    clear HC
    obtain ⟨y1, y2, y3⟩ := y
    replace hap := Lib.hid hap
    replace haq := Lib.hid haq
    go_enter Try.func11, Try.ntmps11
    go_wp2_with fail
    go_fit (up_c g _ _ _ false _ row)
    rintro e w1 ⟨rfl, rfl⟩
    go_wp2_with fail
    go_fit (fine_c 0 _)
    rintro e w1 ⟨rfl, rfl⟩
    go_wp2_with fail
    go_fit HCC.out
    rintro e w2 ⟨rfl, row2, k2⟩
    clear HCC row
    have hown2 := owned_keep hown k2 (fun b hb e => (hap.out b hb).2 e)
    have howq2 := owned_keep howq k2 (fun b hb e => (haq.out b hb).2.1 e)
    cases y3 with
    | true =>
      have HF : Hid (flushF S Q false ar = (3, S, Q, y1, y2)) := (by
        show flushF S Q false ar = _
        unfold flushF; rw [if_neg (by decide), HY.out]; rfl)
      go_wp2_with fail
      go_ret
      rw [HF.out]
      exact ⟨rfl, ⟨aS, cS, aQ, cQ, row2, hown2, howq2, .inl hp, fun b hb => ⟨.inl (hap.out b hb).1, (hap.out b hb).2⟩, fun b hb => ⟨.inl (haq.out b hb).1, (haq.out b hb).2⟩⟩, k2.mono (fun i hi => by rw [hi]; exact hp)⟩
    | false =>
      have HF : Hid (flushF S Q false ar = (0, Q.foldl putS S, [], y1, y2)) := (by
        show flushF S Q false ar = _
        unfold flushF; rw [if_neg (by decide), HY.out]; rfl)
      have hz67 : ∀ w' : World, (zeroValue 67).run Try.prog w' = .ok (.agg zQ.toArray) w' := fun w' => by kernel_rfl
      have hn0 : Q.length ≤ 140737488351232 := by omega
      have hnS : S.length ≤ 65536 := ok.n
      have x1 := row2.cell 1
      (try simp only [List.getElem?_cons_succ] at x1); (try simp only [List.getElem?_cons_zero] at x1)
      go_wp2_with fail
      go_loopw [20] (fun i wr => ∃ k : Nat, k ≤ Q.length ∧ i = .int .i64 k ∧ wr.ownsRow 0 65 64 (.slice aS ((Q.take k).foldl putS S).length cS) ((Q.take k).foldl putS S).length (secs ((Q.take k).foldl putS S)) ∧ Keep (OwnB (.slice aS S.length cS)) w2 wr) (fun i _ => Q.length - (intOf i).toNat)
      case atStart => exact ⟨0, by omega, rfl, hown2, Keep.refl _ _⟩
      case round =>
        clear hown2 hown howq
        obtain ⟨k, hk, rfl, hown, kk⟩ := hrel
        replace row2 := row2.keep kk (fun h => (hap.out g h).2 rfl)
        replace howq2 := owned_keep howq2 kk (fun b hb h => (haq.out b hb).2.2 h)
        by_cases hlt : k < Q.length
        · have hi0 : (0 : Int) ≤ (k : Int) := by omega
          have hi1 : (k : Int) < (Q.length : Int) := by omega
          have hnx : Hid ((Q.take (k + 1)).foldl putS S = putS ((Q.take k).foldl putS S) Q[k]) := (by
            rw [List.take_succ_eq_append_getElem hlt, List.foldl_append]; rfl)
          have h64 := puts_64 (R := Q.take k) ok.s64 (fun q hq => (ok.q64 q (List.mem_of_mem_take hq)).1)
          have hlS := puts_len S (Q.take k)
          generalize (Q.take k).foldl putS S = Sk at *
          have hLQ := Lies.of_owned howq2
          obtain ⟨bQ, oQ, rfl, -, hbQ, hcQ⟩ := hLQ (by
            intro e
            have := wrts_at (fun q hq => (ok.q64 q hq).1) hlt 0 _ rfl
            rw [e] at this; simp at this)
          obtain ⟨hq64, hq0, hq1⟩ := ok.q64 _ (List.getElem_mem hlt)
          have hl65 : (wcells Q[k]).length = 65 := by simp [wcells, hq64]
          have ho65 : ones (wcells Q[k]) = true := by
            rw [ones, List.all_eq_true]
            intro u hu
            rcases List.mem_cons.1 (show u ∈ Value.int .i64 Q[k].1 :: Q[k].2.map bv from hu) with rfl | hu
            · rfl
            · exact bv_one _ u hu
          have ldQ := A_write.load (P := Try.prog) (w := wr) (b := bQ) (o := oQ + k * 65) hl65 (fun j v hv => by rw [Nat.add_assoc]; exact hcQ _ v (wrts_at (fun q hq => (ok.q64 q hq).1) hlt j v hv))
          obtain ⟨hst, rowW, kW⟩ := A_write.boxed (P := Try.prog) (zs := zQ) wr rfl hl65 ho65
          generalize hq : Q[k] = q at *
          clear hq hcQ hl65 ho65 hLQ
          obtain ⟨n1, l⟩ := q
          obtain ⟨k1, rfl⟩ : ∃ k1 : Nat, n1 = (k1 : Int) := ⟨n1.toNat, by have : (0 : Int) ≤ n1 := hq0; omega⟩
          replace hq64 : l.length = 64 := hq64
          have hq1' : (k1 : Int) < (S.length : Int) := hq1
          have hk1 : k1 < Sk.length := by rw [hlS]; omega
          have hk10 : (0 : Int) ≤ (k1 : Int) := by omega
          obtain ⟨gS, rfl, -, -⟩ := own_sec hown h64 hk1
          have hownW := owned_keep hown kW (fun _ _ h => h)
          have row3 := row2.keep kW id
          go_upto_region 9 with fail
          clear hst ldQ
          generalize (wr.alloc (.cells zQ.toArray 67)).setRow wr.heap.size (wcells ((k1 : Int), l)).toArray = w3 at *
          have kd : Keep Nix w3 w3.drew := (Keep.refl Nix w3).drew
          have z0 := ((rowW.keep kd id).cell 0).trans (show (wcells ((k1 : Int), l))[0]? = some (.int .i64 k1) from rfl)
          have hS : (w3.drew.cell? ⟨g, 0, none⟩ = some (.slice (some ⟨gS, 0, none⟩) S.length cS) ∧ w3.drew.cell? ⟨wr.heap.size, 0, none⟩ = some (.int .i64 k1) ∧ (wholeSem 65 (.pointer (some ⟨wr.heap.size, 1, none⟩))).run Try.prog w3.drew = .ok (.value (.agg (l.map bv).toArray)) w3.drew) := ⟨(row3.keep kd id).cell 0, z0, A_sector.load (by rw [List.length_map]; exact hq64) (fun j v hv => by rw [(rowW.keep kd id).cell, Nat.add_comm]; exact hv)⟩
          have HS := Lib.hid hS
          clear hS z0
          have hownD := owned_keep hownW kd (fun _ _ h => h)
          obtain ⟨gS', e', hth, hwr⟩ := own_sec hownD h64 hk1
          cases e'
          obtain ⟨hown8, k8⟩ := hwr l hq64
          have hst2 := A_sector.store (P := Try.prog) (w := w3.drew) (b := gS) (o := k1 * 64) (cs := l.map bv) (by rw [List.length_map]; exact hq64) hth (by rw [ones, List.all_eq_true]; exact fun u hu => bv_one _ u hu)
          have hgS : OwnB (.slice (some ⟨gS, 0, none⟩) S.length cS) gS := rfl
          have hgw : gS < wr.heap.size := (hown.lt gS rfl).2
          have kG : Keep Nix wr w3 := kW
          have hS8 : ((w3.drew.setCells gS (k1 * 64) (l.map bv)).cell? ⟨g, 0, none⟩ = some (.slice (some ⟨gS, 0, none⟩) S.length cS) ∧ (w3.drew.setCells gS (k1 * 64) (l.map bv)).cell? ⟨wr.heap.size, 0, none⟩ = some (.int .i64 k1) ∧ (wholeSem 65 (.pointer (some ⟨wr.heap.size, 1, none⟩))).run Try.prog (w3.drew.setCells gS (k1 * 64) (l.map bv)) = .ok (.value (.agg (l.map bv).toArray)) (w3.drew.setCells gS (k1 * 64) (l.map bv))) := ⟨(k8.cell (p := ⟨g, 0, none⟩) (row3.keep kd id).lt (fun e => (hap.out gS hgS).2 e.symm)).trans HS.out.1, (k8.cell (p := ⟨wr.heap.size, 0, none⟩) (rowW.keep kd id).lt (by show ¬ wr.heap.size = gS; omega)).trans HS.out.2.1, A_sector.load (by rw [List.length_map]; exact hq64) (fun j v hv => by
            rw [((rowW.keep kd id).keep k8 (by omega)).cell, Nat.add_comm]; exact hv)⟩
          have HS8 := Lib.hid hS8
          have HO := Lib.hid hown8
          have HKK := Lib.hid (((kk.trans kW.nix).trans kd.nix).then k8 (fun i _ hi => by rw [hi]; rfl))
          have HNX : Hid ((Q.take (k + 1)).foldl putS S = Sk.set k1 l) := (by
            show _ = _
            rw [hnx.out]; unfold putS; rw [Int.toNat_natCast])
          clear hS8 hown8 k8 hownD hth hwr hownW row3 rowW kG kW kk hown row2 howq2 hnx
          refine wp_region_held_drew (S := (fun w' => (w'.cell? ⟨g, 0, none⟩ = some (.slice (some ⟨gS, 0, none⟩) S.length cS) ∧ w'.cell? ⟨wr.heap.size, 0, none⟩ = some (.int .i64 k1) ∧ (wholeSem 65 (.pointer (some ⟨wr.heap.size, 1, none⟩))).run Try.prog w' = .ok (.value (.agg (l.map bv).toArray)) w'))) (by kernel_rfl) (HS.out) (fun hHeld => ?_)
          generalize w3.drew = wd at *
          refine wpAnyH_take (i := 0) (v := ?_) rfl (by kernel_rfl) (by kernel_rfl) (by kernel_rfl) (fun _ _ _ h => h) (Or.inl ⟨by kernel_rfl, ?_⟩) hHeld ?_
          rotate_left
          · intro w' hSw
            (try dsimp only at hSw)
            (try simp only [List.getElem_toArray]); (try simp only [List.getElem_cons_succ]); (try simp only [List.getElem_cons_zero])
            go_simp
            try with_reducible rfl
          (try simp only [Act.put]); (try simp only [List.getElem_toArray]); (try simp only [List.getElem_cons_succ]); (try simp only [List.getElem_cons_zero]); (try simp only [List.setIfInBounds_toArray]); (try simp only [List.set_cons_succ]); (try simp only [List.set_cons_zero])
          refine wpAnyH_take (i := 1) (v := ?_) rfl (by kernel_rfl) (by kernel_rfl) (by kernel_rfl) (fun _ _ _ h => h) (Or.inl ⟨by kernel_rfl, ?_⟩) hHeld ?_
          rotate_left
          · intro w' hSw
            (try dsimp only at hSw)
            (try simp only [List.getElem_toArray]); (try simp only [List.getElem_cons_succ]); (try simp only [List.getElem_cons_zero])
            go_simp
            try with_reducible rfl
          (try simp only [Act.put]); (try simp only [List.getElem_toArray]); (try simp only [List.getElem_cons_succ]); (try simp only [List.getElem_cons_zero]); (try simp only [List.setIfInBounds_toArray]); (try simp only [List.set_cons_succ]); (try simp only [List.set_cons_zero])
          refine wpAnyH_take (i := 2) (v := ?_) rfl (by kernel_rfl) (by kernel_rfl) (by kernel_rfl) (fun _ _ _ h => h) (Or.inl ⟨by kernel_rfl, ?_⟩) hHeld ?_
          rotate_left
          · intro w' hSw
            (try dsimp only at hSw)
            (try simp only [List.getElem_toArray]); (try simp only [List.getElem_cons_succ]); (try simp only [List.getElem_cons_zero])
            go_simp
            try with_reducible rfl
          (try simp only [Act.put]); (try simp only [List.getElem_toArray]); (try simp only [List.getElem_cons_succ]); (try simp only [List.getElem_cons_zero]); (try simp only [List.setIfInBounds_toArray]); (try simp only [List.set_cons_succ]); (try simp only [List.set_cons_zero])
          refine wpAnyH_take (i := 3) (v := ?_) rfl (by kernel_rfl) (by kernel_rfl) (by kernel_rfl) (fun _ _ _ h => h) (Or.inl ⟨by kernel_rfl, ?_⟩) hHeld ?_
          rotate_left
          · intro w' hSw
            (try dsimp only at hSw)
            (try simp only [List.getElem_toArray]); (try simp only [List.getElem_cons_succ]); (try simp only [List.getElem_cons_zero])
            go_simp
            try with_reducible rfl
          (try simp only [Act.put]); (try simp only [List.getElem_toArray]); (try simp only [List.getElem_cons_succ]); (try simp only [List.getElem_cons_zero]); (try simp only [List.setIfInBounds_toArray]); (try simp only [List.set_cons_succ]); (try simp only [List.set_cons_zero])
          refine wpAnyH_take (i := 4) (v := ?_) rfl (by kernel_rfl) (by kernel_rfl) (by kernel_rfl) (fun _ _ _ h => h) (Or.inl ⟨by kernel_rfl, ?_⟩) hHeld ?_
          rotate_left
          · intro w' hSw
            (try dsimp only at hSw)
            (try simp only [List.getElem_toArray]); (try simp only [List.getElem_cons_succ]); (try simp only [List.getElem_cons_zero])
            go_simp
            try with_reducible rfl
          (try simp only [Act.put]); (try simp only [List.getElem_toArray]); (try simp only [List.getElem_cons_succ]); (try simp only [List.getElem_cons_zero]); (try simp only [List.setIfInBounds_toArray]); (try simp only [List.set_cons_succ]); (try simp only [List.set_cons_zero])
          refine wpAnyH_take (i := 5) (v := ?_) rfl (by kernel_rfl) (by kernel_rfl) (by kernel_rfl) (fun _ _ _ h => h) (Or.inl ⟨by kernel_rfl, ?_⟩) hHeld ?_
          rotate_left
          · intro w' hSw
            (try dsimp only at hSw)
            (try simp only [List.getElem_toArray]); (try simp only [List.getElem_cons_succ]); (try simp only [List.getElem_cons_zero])
            go_simp
            try with_reducible rfl
          (try simp only [Act.put]); (try simp only [List.getElem_toArray]); (try simp only [List.getElem_cons_succ]); (try simp only [List.getElem_cons_zero]); (try simp only [List.setIfInBounds_toArray]); (try simp only [List.set_cons_succ]); (try simp only [List.set_cons_zero])
          refine wpAnyH_take (i := 6) (v := ?_) rfl (by kernel_rfl) (by kernel_rfl) (by kernel_rfl) (fun _ _ _ h => h) (Or.inl ⟨by kernel_rfl, ?_⟩) hHeld ?_
          rotate_left
          · intro w' hSw
            (try dsimp only at hSw)
            (try simp only [List.getElem_toArray]); (try simp only [List.getElem_cons_succ]); (try simp only [List.getElem_cons_zero])
            go_simp
            try with_reducible rfl
          (try simp only [Act.put]); (try simp only [List.getElem_toArray]); (try simp only [List.getElem_cons_succ]); (try simp only [List.getElem_cons_zero]); (try simp only [List.setIfInBounds_toArray]); (try simp only [List.set_cons_succ]); (try simp only [List.set_cons_zero])
          refine wpAnyH_take (i := 7) (v := ?_) rfl (by kernel_rfl) (by kernel_rfl) (by kernel_rfl) (fun _ _ _ h => h) (Or.inl ⟨by kernel_rfl, ?_⟩) hHeld ?_
          rotate_left
          · intro w' hSw
            (try dsimp only at hSw)
            (try simp only [List.getElem_toArray]); (try simp only [List.getElem_cons_succ]); (try simp only [List.getElem_cons_zero])
            go_simp
            try with_reducible rfl
          (try simp only [Act.put]); (try simp only [List.getElem_toArray]); (try simp only [List.getElem_cons_succ]); (try simp only [List.getElem_cons_zero]); (try simp only [List.setIfInBounds_toArray]); (try simp only [List.set_cons_succ]); (try simp only [List.set_cons_zero])
          refine wpAnyH_take (i := 8) (v := ?_) rfl (by kernel_rfl) (by kernel_rfl) (by kernel_rfl) (fun _ _ _ h => h) (Or.inl ⟨by kernel_rfl, ?_⟩) hHeld ?_
          rotate_left
          · intro w' hSw
            (try dsimp only at hSw)
            (try simp only [List.getElem_toArray]); (try simp only [List.getElem_cons_succ]); (try simp only [List.getElem_cons_zero])
            go_simp
            try with_reducible rfl
          (try simp only [Act.put]); (try simp only [List.getElem_toArray]); (try simp only [List.getElem_cons_succ]); (try simp only [List.getElem_cons_zero]); (try simp only [List.setIfInBounds_toArray]); (try simp only [List.set_cons_succ]); (try simp only [List.set_cons_zero])
          refine wpAnyH_ready (rs := [9]) (by kernel_rfl) (by simp) ?_
          refine AllReadyH.cons rfl (fun K hK => ?_) AllReadyH.nil
          (try simp only [List.getElem_toArray]); (try simp only [List.getElem_cons_succ]); (try simp only [List.getElem_cons_zero])
          go_simp
          refine hK.out _ _ (HS8.out) (fun hHeld => ?_)
          clear hK K
          (try simp only [Act.put]); (try simp only [List.getElem_toArray]); (try simp only [List.getElem_cons_succ]); (try simp only [List.getElem_cons_zero]); (try simp only [List.setIfInBounds_toArray]); (try simp only [List.set_cons_succ]); (try simp only [List.set_cons_zero])
          refine wpAnyH_done (by kernel_rfl) ?_ _
          clear hHeld hst2
          go_wp2_with fail
          go_roundw
          case rel => exact ⟨k + 1, by omega, by go_num, by rw [HNX.out]; exact HO.out, HKK.out⟩
          case measure => simp [intOf]; omega
        · obtain rfl : k = Q.length := by omega
          rw [List.take_length] at hown
          have x1 := row2.cell 1
          (try simp only [List.getElem?_cons_succ] at x1); (try simp only [List.getElem?_cons_zero] at x1)
          have f1 := row2.frozen 1
          have k7 : Keep (· = g) wr (wr.setCell ⟨g, 1, none⟩ (.slice none 0 0)) := (Keep.refl (· = g) wr).setCell (fun _ => rfl) _
          have hown7 := owned_keep hown k7 (fun b hb e => (hap.out b (by rw [puts_len] at hb; exact hb)).2 e)
          have row7 := row2.set 1 (.slice none 0 0)
          have HO := Lib.hid hown7
          have HR := Lib.hid row7
          have HK := Lib.hid (((k2.mono (T := p) (fun i hi => by rw [hi]; exact hp)).then kk (fun i _ hi => (hap.out i hi).1)).then k7 (fun i _ hi => by rw [hi]; exact hp))
          clear hown7 row7 k7 hown howq2 kk row2
          go_wp2_with fail
          go_ret
          rw [HF.out]
          refine ⟨rfl, ⟨aS, cS, none, 0, ?_, HO.out, ⟨rfl, .inl ⟨rfl, rfl⟩⟩, .inl hp, fun b hb => ?_, fun b hb => by cases hb⟩, HK.out⟩
          · rw [puts_len]; exact HR.out
          · have hb' : OwnB (.slice aS S.length cS) b := by rw [puts_len] at hb; exact hb
            exact ⟨.inl (hap.out b hb').1, (hap.out b hb').2⟩
end
end Go.Proofs.Ytdnbpfohmhhmkaa
