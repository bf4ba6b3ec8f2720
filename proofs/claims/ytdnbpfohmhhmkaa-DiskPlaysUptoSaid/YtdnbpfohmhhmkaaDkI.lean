/- DISK: the reference's Flush. Printed by mac.py. -/
import Derived.Test.YtdnbpfohmhhmkaaDkH
namespace Go.Proofs.Ytdnbpfohmhhmkaa
open Go.RowKit

theorem own_secA {w : World} {aS : Option Addr} {cS : Nat} {S : List (List UInt8)} (hown : w.ownsRow 0 64 64 (.slice aS S.length cS) S.length (secs S)) (h : ∀ b ∈ S, b.length = 64) {k : Nat} (hk : k < S.length) : ∃ g, aS = some ⟨g, 0, none⟩ ∧ w.there g (k * 64) 64 ∧ ∀ b : List UInt8, b.length = 64 →
    (w.setCells g (k * 64) (b.map bv)).ownsRow 0 64 64 (.slice aS (S.set k b).length cS) (S.set k b).length (secs (S.set k b)) ∧ Keep (· = g) w (w.setCells g (k * 64) (b.map bv)) := by
  obtain ⟨g, rest, rfl, h0, row, hl, hx, hn, hm⟩ := own_row hown (by omega)
  have hlen := secs_len h
  refine ⟨g, rfl, fun j hj => ⟨?_, row.frozen _⟩, fun b hb => ⟨?_, Keep.setCells g _ w _⟩⟩
  · rw [row.cell, List.getElem?_eq_getElem (by rw [List.length_append, hlen]; omega)]; rfl
  · have hr := RowIs.setCells (b.map bv) row (o := k * 64) (by rw [List.length_map, hb, List.length_append, hlen]; omega)
    have e : (secs S ++ rest).take (k * 64) ++ b.map bv ++ (secs S ++ rest).drop (k * 64 + (b.map bv).length) = secs (S.set k b) ++ rest := by
      rw [List.length_map, hb, List.take_append_of_le_length (by rw [hlen]; omega), List.drop_append_of_le_length (by rw [hlen]; omega), secs_set h hk, List.append_assoc, List.append_assoc, List.append_assoc]
    rw [e] at hr
    have hsl : (secs (S.set k b)).length = (S.set k b).length * 64 := secs_len (fun c hc => by
      rcases List.mem_or_eq_of_mem_set hc with h' | h'
      · exact h c h'
      · rw [h']; exact hb)
    rw [List.length_set] at hsl ⊢
    exact row_own hr h0 (by rw [← hl, List.length_append, List.length_append, hsl, hlen]) hsl hn hm
/-- What a call of the reference's leaves. -/
def RPost (p : Nat → Prop) (g : Nat) (w : World) (v : Value) (S : List (List UInt8)) (Q : List (Int × List UInt8)) (dn : Bool) (ar : Int) (e : Ending) (w' : World) : Prop := e = .returned v ∧ IsRef w' (fun b => p b ∨ w.heap.size ≤ b) g S Q dn ar ∧ Keep p w w'
section
attribute [local go_sem ↓] ldz_arr stz_arr
set_option maxRecDepth 100000 in
set_option maxHeartbeats 4000000 in
theorem rflush_c {p : Nat → Prop} (g : Nat) (S : List (List UInt8)) (Q : List (Int × List UInt8)) (dn : Bool) (ar : Int) (w : World) (hd : IsRef w p g S Q dn ar) (ok : DiskOk S Q ar) (hQ : Q.length ≤ 1000) :
    Calls Try.prog 20 #[.pointer (some ⟨g, 0, none⟩)] w (RPost p g w (.int .i64 (flushF S Q dn ar).1) (flushF S Q dn ar).2.1 (flushF S Q dn ar).2.2.1 (flushF S Q dn ar).2.2.2.1 (flushF S Q dn ar).2.2.2.2) := by
  obtain ⟨aS, cS, aQ, cQ, row, hown, howq, hp, hap, haq⟩ := hd
  have x3 := row.cell 3
  (try simp only [List.getElem?_cons_succ] at x3); (try simp only [List.getElem?_cons_zero] at x3)
  cases dn with
  | true =>
    have HF : Hid (flushF S Q true ar = (3, S, Q, true, ar)) := rfl
    go_enter Try.func20, Try.ntmps20
    go_wp2_with fail
    go_ret
    rw [HF.out]
    exact ⟨rfl, ⟨aS, cS, aQ, cQ, row, hown, howq, .inl hp, fun b hb => ⟨.inl (hap b hb).1, (hap b hb).2⟩, fun b hb => ⟨.inl (haq b hb).1, (haq b hb).2⟩⟩, Keep.refl _ _⟩
  | false =>
    obtain ⟨y, HY⟩ : ∃ y, Hid (hitF false ar = y) := ⟨_, rfl⟩
    have HC := rhit_c g _ _ ar w row ok.a0 ok.a1
    rw [HY.out] at HC
    have HCC := Lib.hid HC
    clear HC
    obtain ⟨y1, y2, y3⟩ := y
    replace hap := Lib.hid hap
    replace haq := Lib.hid haq
    go_enter Try.func20, Try.ntmps20
    go_wp2_with fail
    go_fit HCC.out
    rintro e w2 ⟨rfl, row2, k2⟩
    clear HCC row x3
    have hown2 := owned_keep hown k2 (fun b hb e => (hap.out b hb).2 e)
    have howq2 := owned_keep howq k2 (fun b hb e => (haq.out b hb).2.1 e)
    cases y3 with
    | true =>
      have HF : Hid (flushF S Q false ar = (3, S, Q, y1, y2)) := (by
        show flushF S Q false ar = _
        unfold flushF; rw [if_neg (by decide), HY.out]; rfl)
      go_wp2_with fail
      go_ret
      rw [HF.out]
      exact ⟨rfl, ⟨aS, cS, aQ, cQ, row2, hown2, howq2, .inl hp, fun b hb => ⟨.inl (hap.out b hb).1, (hap.out b hb).2⟩, fun b hb => ⟨.inl (haq.out b hb).1, (haq.out b hb).2⟩⟩, k2.mono (fun i hi => by rw [hi]; exact hp)⟩
    | false =>
      have HF : Hid (flushF S Q false ar = (0, Q.foldl putS S, [], y1, y2)) := (by
        show flushF S Q false ar = _
        unfold flushF; rw [if_neg (by decide), HY.out]; rfl)
      have hn0 : Q.length ≤ 140737488351232 := by omega
      have hnS : S.length ≤ 65536 := ok.n
      go_wp2_with fail
      go_loopw [3] (fun i wr => ∃ k : Nat, k ≤ Q.length ∧ i = .int .i64 k ∧ wr.ownsRow 0 64 64 (.slice aS ((Q.take k).foldl putS S).length cS) ((Q.take k).foldl putS S).length (secs ((Q.take k).foldl putS S)) ∧ Keep (OwnB (.slice aS S.length cS)) w2 wr) (fun i _ => Q.length - (intOf i).toNat)
      case atStart => exact ⟨0, by omega, rfl, hown2, Keep.refl _ _⟩
      case round =>
        clear hown2 hown howq
        obtain ⟨k, hk, rfl, hown, kk⟩ := hrel
        replace row2 := row2.keep kk (fun h => (hap.out g h).2 rfl)
        replace howq2 := owned_keep howq2 kk (fun b hb h => (haq.out b hb).2.2 h)
        have x1 := row2.cell 1
        (try simp only [List.getElem?_cons_succ] at x1); (try simp only [List.getElem?_cons_zero] at x1)
        by_cases hlt : k < Q.length
        · have hi0 : (0 : Int) ≤ (k : Int) := by omega
          have hi1 : (k : Int) < (Q.length : Int) := by omega
          have hnx : Hid ((Q.take (k + 1)).foldl putS S = putS ((Q.take k).foldl putS S) Q[k]) := (by
            rw [List.take_succ_eq_append_getElem hlt, List.foldl_append]; rfl)
          have h64 := puts_64 (R := Q.take k) ok.s64 (fun q hq => (ok.q64 q (List.mem_of_mem_take hq)).1)
          have hlS := puts_len S (Q.take k)
          generalize (Q.take k).foldl putS S = Sk at *
          have kd : Keep Nix wr wr.drew := (Keep.refl Nix wr).drew
          have hLQ := Lies.of_owned (owned_keep howq2 kd (fun _ _ h => h))
          obtain ⟨bQ, oQ, rfl, ⟨-, hbo⟩, hbQ, hcQ⟩ := hLQ (by
            intro e
            have := wrts_at (fun q hq => (ok.q64 q hq).1) hlt 0 _ rfl
            rw [e] at this; simp at this)
          obtain ⟨hq64, hq0, hq1⟩ := ok.q64 _ (List.getElem_mem hlt)
          have z0 := hcQ (k * 65) (.int .i64 Q[k].1) (wrts_at (fun q hq => (ok.q64 q hq).1) hlt 0 _ rfl)
          have zl := fun j v (hv : (Q[k].2.map bv)[j]? = some v) => (show oQ + k * 65 + 1 + j = oQ + (k * 65 + (j + 1)) by omega) ▸ hcQ _ v (wrts_at (fun q hq => (ok.q64 q hq).1) hlt (j + 1) v hv)
          generalize hq : Q[k] = q at *
          clear hq hcQ
          obtain ⟨n1, l⟩ := q
          obtain ⟨k1, rfl⟩ : ∃ k1 : Nat, n1 = (k1 : Int) := ⟨n1.toNat, by have : (0 : Int) ≤ n1 := hq0; omega⟩
          replace hq64 : l.length = 64 := hq64
          have hq1' : (k1 : Int) < (S.length : Int) := hq1
          have hk1 : k1 < Sk.length := by rw [hlS]; omega
          have hk10 : (0 : Int) ≤ (k1 : Int) := by omega
          have hownD := owned_keep hown kd (fun _ _ h => h)
          obtain ⟨gS, rfl, hth, hwr⟩ := own_secA hownD h64 hk1
          have rowD := row2.keep kd id
          obtain ⟨hown8, k8⟩ := hwr l hq64
          have hgS : OwnB (.slice (some ⟨gS, 0, none⟩) S.length cS) gS := rfl
          have hst2 := A_arr.store (P := Try.prog) (w := wr.drew) (b := gS) (o := k1 * 64) (cs := l.map bv) (by rw [List.length_map]; exact hq64) hth (by rw [ones, List.all_eq_true]; exact fun u hu => bv_one _ u hu)
          have y0 := rowD.cell 0
          (try simp only [List.getElem?_cons_succ] at y0); (try simp only [List.getElem?_cons_zero] at y0)
          have y1 := rowD.cell 1
          (try simp only [List.getElem?_cons_succ] at y1); (try simp only [List.getElem?_cons_zero] at y1)
          have hl64 : (l.map bv).length = 64 := by rw [List.length_map]; exact hq64
          have ldQ := A_arr.load (P := Try.prog) (w := wr.drew) (b := bQ) (o := oQ + k * 65 + 1) hl64 zl
          have hQS : ¬ bQ = gS := fun e => (haq.out bQ hbo).2.2 (e ▸ hgS)
          have hgg : ¬ g = gS := fun e => (hap.out gS hgS).2 e.symm
          have hS8 : (let w' := wr.drew.setCells gS (k1 * 64) (l.map bv); (w'.cell? ⟨g, 0, none⟩ = some (.slice (some ⟨gS, 0, none⟩) S.length cS) ∧ w'.cell? ⟨g, 1, none⟩ = some (.slice (some ⟨bQ, oQ, none⟩) Q.length cQ) ∧ w'.cell? ⟨bQ, oQ + k * 65, none⟩ = some (.int .i64 k1) ∧ (wholeSem 64 (.pointer (some ⟨bQ, oQ + k * 65 + 1, none⟩))).run Try.prog w' = .ok (.value (.agg (l.map bv).toArray)) w')) := ⟨(k8.cell (p := ⟨g, 0, none⟩) rowD.lt hgg).trans y0, (k8.cell (p := ⟨g, 1, none⟩) rowD.lt hgg).trans y1, (k8.cell (p := ⟨bQ, oQ + k * 65, none⟩) hbQ hQS).trans z0, A_arr.load hl64 (fun j v hv => (k8.cell (p := ⟨bQ, oQ + k * 65 + 1 + j, none⟩) hbQ hQS).trans (zl j v hv))⟩
          have HS8 := Lib.hid hS8
          have HO := Lib.hid hown8
          have HKK := Lib.hid ((kk.trans kd.nix).then k8 (fun i _ hi => by rw [hi]; rfl))
          have HNX : Hid ((Q.take (k + 1)).foldl putS S = Sk.set k1 l) := (by
            show _ = _
            rw [hnx.out]; unfold putS; rw [Int.toNat_natCast])
          clear hS8 hown8 k8 hownD hth hwr kk hown row2 howq2 hnx zl rowD
          go_upto_region 6 with fail
          refine wp_region_held_drew (S := (fun w' => (w'.cell? ⟨g, 0, none⟩ = some (.slice (some ⟨gS, 0, none⟩) S.length cS) ∧ w'.cell? ⟨g, 1, none⟩ = some (.slice (some ⟨bQ, oQ, none⟩) Q.length cQ) ∧ w'.cell? ⟨bQ, oQ + k * 65, none⟩ = some (.int .i64 k1) ∧ (wholeSem 64 (.pointer (some ⟨bQ, oQ + k * 65 + 1, none⟩))).run Try.prog w' = .ok (.value (.agg (l.map bv).toArray)) w'))) (by kernel_rfl) (⟨y0, y1, z0, ldQ⟩) (fun hHeld => ?_)
          clear x1
          generalize wr.drew = wd at *
          refine wpAnyH_take (i := 0) (v := ?_) rfl (by kernel_rfl) (by kernel_rfl) (by kernel_rfl) (fun _ _ _ h => h) (Or.inl ⟨by kernel_rfl, ?_⟩) hHeld ?_
          rotate_left
          · intro w' hSw
            (try dsimp only at hSw)
            (try simp only [List.getElem_toArray]); (try simp only [List.getElem_cons_succ]); (try simp only [List.getElem_cons_zero])
            go_simp
            try with_reducible rfl
          (try simp only [Act.put]); (try simp only [List.getElem_toArray]); (try simp only [List.getElem_cons_succ]); (try simp only [List.getElem_cons_zero]); (try simp only [List.setIfInBounds_toArray]); (try simp only [List.set_cons_succ]); (try simp only [List.set_cons_zero])
          refine wpAnyH_take (i := 1) (v := ?_) rfl (by kernel_rfl) (by kernel_rfl) (by kernel_rfl) (fun _ _ _ h => h) (Or.inl ⟨by kernel_rfl, ?_⟩) hHeld ?_
          rotate_left
          · intro w' hSw
            (try dsimp only at hSw)
            (try simp only [List.getElem_toArray]); (try simp only [List.getElem_cons_succ]); (try simp only [List.getElem_cons_zero])
            go_simp
            try with_reducible rfl
          (try simp only [Act.put]); (try simp only [List.getElem_toArray]); (try simp only [List.getElem_cons_succ]); (try simp only [List.getElem_cons_zero]); (try simp only [List.setIfInBounds_toArray]); (try simp only [List.set_cons_succ]); (try simp only [List.set_cons_zero])
          refine wpAnyH_take (i := 2) (v := ?_) rfl (by kernel_rfl) (by kernel_rfl) (by kernel_rfl) (fun _ _ _ h => h) (Or.inl ⟨by kernel_rfl, ?_⟩) hHeld ?_
          rotate_left
          · intro w' hSw
            (try dsimp only at hSw)
            (try simp only [List.getElem_toArray]); (try simp only [List.getElem_cons_succ]); (try simp only [List.getElem_cons_zero])
            go_simp
            try with_reducible rfl
          (try simp only [Act.put]); (try simp only [List.getElem_toArray]); (try simp only [List.getElem_cons_succ]); (try simp only [List.getElem_cons_zero]); (try simp only [List.setIfInBounds_toArray]); (try simp only [List.set_cons_succ]); (try simp only [List.set_cons_zero])
          refine wpAnyH_take (i := 3) (v := ?_) rfl (by kernel_rfl) (by kernel_rfl) (by kernel_rfl) (fun _ _ _ h => h) (Or.inl ⟨by kernel_rfl, ?_⟩) hHeld ?_
          rotate_left
          · intro w' hSw
            (try dsimp only at hSw)
            (try simp only [List.getElem_toArray]); (try simp only [List.getElem_cons_succ]); (try simp only [List.getElem_cons_zero])
            go_simp
            try with_reducible rfl
          (try simp only [Act.put]); (try simp only [List.getElem_toArray]); (try simp only [List.getElem_cons_succ]); (try simp only [List.getElem_cons_zero]); (try simp only [List.setIfInBounds_toArray]); (try simp only [List.set_cons_succ]); (try simp only [List.set_cons_zero])
          refine wpAnyH_take (i := 4) (v := ?_) rfl (by kernel_rfl) (by kernel_rfl) (by kernel_rfl) (fun _ _ _ h => h) (Or.inl ⟨by kernel_rfl, ?_⟩) hHeld ?_
          rotate_left
          · intro w' hSw
            (try dsimp only at hSw)
            (try simp only [List.getElem_toArray]); (try simp only [List.getElem_cons_succ]); (try simp only [List.getElem_cons_zero])
            go_simp
            try with_reducible rfl
          (try simp only [Act.put]); (try simp only [List.getElem_toArray]); (try simp only [List.getElem_cons_succ]); (try simp only [List.getElem_cons_zero]); (try simp only [List.setIfInBounds_toArray]); (try simp only [List.set_cons_succ]); (try simp only [List.set_cons_zero])
          refine wpAnyH_take (i := 5) (v := ?_) rfl (by kernel_rfl) (by kernel_rfl) (by kernel_rfl) (fun _ _ _ h => h) (Or.inl ⟨by kernel_rfl, ?_⟩) hHeld ?_
          rotate_left
          · intro w' hSw
            (try dsimp only at hSw)
            (try simp only [List.getElem_toArray]); (try simp only [List.getElem_cons_succ]); (try simp only [List.getElem_cons_zero])
            go_simp
            try with_reducible rfl
          (try simp only [Act.put]); (try simp only [List.getElem_toArray]); (try simp only [List.getElem_cons_succ]); (try simp only [List.getElem_cons_zero]); (try simp only [List.setIfInBounds_toArray]); (try simp only [List.set_cons_succ]); (try simp only [List.set_cons_zero])
          refine wpAnyH_take (i := 6) (v := ?_) rfl (by kernel_rfl) (by kernel_rfl) (by kernel_rfl) (fun _ _ _ h => h) (Or.inl ⟨by kernel_rfl, ?_⟩) hHeld ?_
          rotate_left
          · intro w' hSw
            (try dsimp only at hSw)
            (try simp only [List.getElem_toArray]); (try simp only [List.getElem_cons_succ]); (try simp only [List.getElem_cons_zero])
            go_simp
            try with_reducible rfl
          (try simp only [Act.put]); (try simp only [List.getElem_toArray]); (try simp only [List.getElem_cons_succ]); (try simp only [List.getElem_cons_zero]); (try simp only [List.setIfInBounds_toArray]); (try simp only [List.set_cons_succ]); (try simp only [List.set_cons_zero])
          refine wpAnyH_take (i := 7) (v := ?_) rfl (by kernel_rfl) (by kernel_rfl) (by kernel_rfl) (fun _ _ _ h => h) (Or.inl ⟨by kernel_rfl, ?_⟩) hHeld ?_
          rotate_left
          · intro w' hSw
            (try dsimp only at hSw)
            (try simp only [List.getElem_toArray]); (try simp only [List.getElem_cons_succ]); (try simp only [List.getElem_cons_zero])
            go_simp
            try with_reducible rfl
          (try simp only [Act.put]); (try simp only [List.getElem_toArray]); (try simp only [List.getElem_cons_succ]); (try simp only [List.getElem_cons_zero]); (try simp only [List.setIfInBounds_toArray]); (try simp only [List.set_cons_succ]); (try simp only [List.set_cons_zero])
          refine wpAnyH_take (i := 8) (v := ?_) rfl (by kernel_rfl) (by kernel_rfl) (by kernel_rfl) (fun _ _ _ h => h) (Or.inl ⟨by kernel_rfl, ?_⟩) hHeld ?_
          rotate_left
          · intro w' hSw
            (try dsimp only at hSw)
            (try simp only [List.getElem_toArray]); (try simp only [List.getElem_cons_succ]); (try simp only [List.getElem_cons_zero])
            go_simp
            try with_reducible rfl
          (try simp only [Act.put]); (try simp only [List.getElem_toArray]); (try simp only [List.getElem_cons_succ]); (try simp only [List.getElem_cons_zero]); (try simp only [List.setIfInBounds_toArray]); (try simp only [List.set_cons_succ]); (try simp only [List.set_cons_zero])
          refine wpAnyH_take (i := 9) (v := ?_) rfl (by kernel_rfl) (by kernel_rfl) (by kernel_rfl) (fun _ _ _ h => h) (Or.inl ⟨by kernel_rfl, ?_⟩) hHeld ?_
          rotate_left
          · intro w' hSw
            (try dsimp only at hSw)
            (try simp only [List.getElem_toArray]); (try simp only [List.getElem_cons_succ]); (try simp only [List.getElem_cons_zero])
            go_simp
            try with_reducible rfl
          (try simp only [Act.put]); (try simp only [List.getElem_toArray]); (try simp only [List.getElem_cons_succ]); (try simp only [List.getElem_cons_zero]); (try simp only [List.setIfInBounds_toArray]); (try simp only [List.set_cons_succ]); (try simp only [List.set_cons_zero])
          refine wpAnyH_take (i := 10) (v := ?_) rfl (by kernel_rfl) (by kernel_rfl) (by kernel_rfl) (fun _ _ _ h => h) (Or.inl ⟨by kernel_rfl, ?_⟩) hHeld ?_
          rotate_left
          · intro w' hSw
            (try dsimp only at hSw)
            (try simp only [List.getElem_toArray]); (try simp only [List.getElem_cons_succ]); (try simp only [List.getElem_cons_zero])
            go_simp
            try with_reducible rfl
          (try simp only [Act.put]); (try simp only [List.getElem_toArray]); (try simp only [List.getElem_cons_succ]); (try simp only [List.getElem_cons_zero]); (try simp only [List.setIfInBounds_toArray]); (try simp only [List.set_cons_succ]); (try simp only [List.set_cons_zero])
          refine wpAnyH_take (i := 11) (v := ?_) rfl (by kernel_rfl) (by kernel_rfl) (by kernel_rfl) (fun _ _ _ h => h) (Or.inl ⟨by kernel_rfl, ?_⟩) hHeld ?_
          rotate_left
          · intro w' hSw
            (try dsimp only at hSw)
            (try simp only [List.getElem_toArray]); (try simp only [List.getElem_cons_succ]); (try simp only [List.getElem_cons_zero])
            go_simp
            try with_reducible rfl
          (try simp only [Act.put]); (try simp only [List.getElem_toArray]); (try simp only [List.getElem_cons_succ]); (try simp only [List.getElem_cons_zero]); (try simp only [List.setIfInBounds_toArray]); (try simp only [List.set_cons_succ]); (try simp only [List.set_cons_zero])
          refine wpAnyH_take (i := 12) (v := ?_) rfl (by kernel_rfl) (by kernel_rfl) (by kernel_rfl) (fun _ _ _ h => h) (Or.inl ⟨by kernel_rfl, ?_⟩) hHeld ?_
          rotate_left
          · intro w' hSw
            (try dsimp only at hSw)
            (try simp only [List.getElem_toArray]); (try simp only [List.getElem_cons_succ]); (try simp only [List.getElem_cons_zero])
            go_simp
            try with_reducible rfl
          (try simp only [Act.put]); (try simp only [List.getElem_toArray]); (try simp only [List.getElem_cons_succ]); (try simp only [List.getElem_cons_zero]); (try simp only [List.setIfInBounds_toArray]); (try simp only [List.set_cons_succ]); (try simp only [List.set_cons_zero])
          refine wpAnyH_take (i := 13) (v := ?_) rfl (by kernel_rfl) (by kernel_rfl) (by kernel_rfl) (fun _ _ _ h => h) (Or.inl ⟨by kernel_rfl, ?_⟩) hHeld ?_
          rotate_left
          · intro w' hSw
            (try dsimp only at hSw)
            (try simp only [List.getElem_toArray]); (try simp only [List.getElem_cons_succ]); (try simp only [List.getElem_cons_zero])
            go_simp
            try with_reducible rfl
          (try simp only [Act.put]); (try simp only [List.getElem_toArray]); (try simp only [List.getElem_cons_succ]); (try simp only [List.getElem_cons_zero]); (try simp only [List.setIfInBounds_toArray]); (try simp only [List.set_cons_succ]); (try simp only [List.set_cons_zero])
          refine wpAnyH_take (i := 14) (v := ?_) rfl (by kernel_rfl) (by kernel_rfl) (by kernel_rfl) (fun _ _ _ h => h) (Or.inl ⟨by kernel_rfl, ?_⟩) hHeld ?_
          rotate_left
          · intro w' hSw
            (try dsimp only at hSw)
            (try simp only [List.getElem_toArray]); (try simp only [List.getElem_cons_succ]); (try simp only [List.getElem_cons_zero])
            go_simp
            try with_reducible rfl
          (try simp only [Act.put]); (try simp only [List.getElem_toArray]); (try simp only [List.getElem_cons_succ]); (try simp only [List.getElem_cons_zero]); (try simp only [List.setIfInBounds_toArray]); (try simp only [List.set_cons_succ]); (try simp only [List.set_cons_zero])
          refine wpAnyH_take (i := 15) (v := ?_) rfl (by kernel_rfl) (by kernel_rfl) (by kernel_rfl) (fun _ _ _ h => h) (Or.inl ⟨by kernel_rfl, ?_⟩) hHeld ?_
          rotate_left
          · intro w' hSw
            (try dsimp only at hSw)
            (try simp only [List.getElem_toArray]); (try simp only [List.getElem_cons_succ]); (try simp only [List.getElem_cons_zero])
            go_simp
            try with_reducible rfl
          (try simp only [Act.put]); (try simp only [List.getElem_toArray]); (try simp only [List.getElem_cons_succ]); (try simp only [List.getElem_cons_zero]); (try simp only [List.setIfInBounds_toArray]); (try simp only [List.set_cons_succ]); (try simp only [List.set_cons_zero])
          refine wpAnyH_take (i := 16) (v := ?_) rfl (by kernel_rfl) (by kernel_rfl) (by kernel_rfl) (fun _ _ _ h => h) (Or.inl ⟨by kernel_rfl, ?_⟩) hHeld ?_
          rotate_left
          · intro w' hSw
            (try dsimp only at hSw)
            (try simp only [List.getElem_toArray]); (try simp only [List.getElem_cons_succ]); (try simp only [List.getElem_cons_zero])
            go_simp
            try with_reducible rfl
          (try simp only [Act.put]); (try simp only [List.getElem_toArray]); (try simp only [List.getElem_cons_succ]); (try simp only [List.getElem_cons_zero]); (try simp only [List.setIfInBounds_toArray]); (try simp only [List.set_cons_succ]); (try simp only [List.set_cons_zero])
          refine wpAnyH_take (i := 17) (v := ?_) rfl (by kernel_rfl) (by kernel_rfl) (by kernel_rfl) (fun _ _ _ h => h) (Or.inl ⟨by kernel_rfl, ?_⟩) hHeld ?_
          rotate_left
          · intro w' hSw
            (try dsimp only at hSw)
            (try simp only [List.getElem_toArray]); (try simp only [List.getElem_cons_succ]); (try simp only [List.getElem_cons_zero])
            go_simp
            try with_reducible rfl
          (try simp only [Act.put]); (try simp only [List.getElem_toArray]); (try simp only [List.getElem_cons_succ]); (try simp only [List.getElem_cons_zero]); (try simp only [List.setIfInBounds_toArray]); (try simp only [List.set_cons_succ]); (try simp only [List.set_cons_zero])
          refine wpAnyH_take (i := 18) (v := ?_) rfl (by kernel_rfl) (by kernel_rfl) (by kernel_rfl) (fun _ _ _ h => h) (Or.inl ⟨by kernel_rfl, ?_⟩) hHeld ?_
          rotate_left
          · intro w' hSw
            (try dsimp only at hSw)
            (try simp only [List.getElem_toArray]); (try simp only [List.getElem_cons_succ]); (try simp only [List.getElem_cons_zero])
            go_simp
            try with_reducible rfl
          (try simp only [Act.put]); (try simp only [List.getElem_toArray]); (try simp only [List.getElem_cons_succ]); (try simp only [List.getElem_cons_zero]); (try simp only [List.setIfInBounds_toArray]); (try simp only [List.set_cons_succ]); (try simp only [List.set_cons_zero])
          refine wpAnyH_take (i := 19) (v := ?_) rfl (by kernel_rfl) (by kernel_rfl) (by kernel_rfl) (fun _ _ _ h => h) (Or.inl ⟨by kernel_rfl, ?_⟩) hHeld ?_
          rotate_left
          · intro w' hSw
            (try dsimp only at hSw)
            (try simp only [List.getElem_toArray]); (try simp only [List.getElem_cons_succ]); (try simp only [List.getElem_cons_zero])
            go_simp
            try with_reducible rfl
          (try simp only [Act.put]); (try simp only [List.getElem_toArray]); (try simp only [List.getElem_cons_succ]); (try simp only [List.getElem_cons_zero]); (try simp only [List.setIfInBounds_toArray]); (try simp only [List.set_cons_succ]); (try simp only [List.set_cons_zero])
          refine wpAnyH_take (i := 20) (v := ?_) rfl (by kernel_rfl) (by kernel_rfl) (by kernel_rfl) (fun _ _ _ h => h) (Or.inl ⟨by kernel_rfl, ?_⟩) hHeld ?_
          rotate_left
          · intro w' hSw
            (try dsimp only at hSw)
            (try simp only [List.getElem_toArray]); (try simp only [List.getElem_cons_succ]); (try simp only [List.getElem_cons_zero])
            go_simp
            try with_reducible rfl
          (try simp only [Act.put]); (try simp only [List.getElem_toArray]); (try simp only [List.getElem_cons_succ]); (try simp only [List.getElem_cons_zero]); (try simp only [List.setIfInBounds_toArray]); (try simp only [List.set_cons_succ]); (try simp only [List.set_cons_zero])
          refine wpAnyH_ready (rs := [21]) (by kernel_rfl) (by simp) ?_
          refine AllReadyH.cons rfl (fun K hK => ?_) AllReadyH.nil
          (try simp only [List.getElem_toArray]); (try simp only [List.getElem_cons_succ]); (try simp only [List.getElem_cons_zero])
          go_simp
          refine hK.out _ _ (HS8.out) (fun hHeld => ?_)
          clear hK K
          (try simp only [Act.put]); (try simp only [List.getElem_toArray]); (try simp only [List.getElem_cons_succ]); (try simp only [List.getElem_cons_zero]); (try simp only [List.setIfInBounds_toArray]); (try simp only [List.set_cons_succ]); (try simp only [List.set_cons_zero])
          refine wpAnyH_done (by kernel_rfl) ?_ _
          clear hHeld hst2 y0 y1 z0 ldQ
          go_wp2_with fail
          go_roundw
          case rel => exact ⟨k + 1, by omega, by go_num, by rw [HNX.out]; exact HO.out, HKK.out⟩
          case measure => simp [intOf]; omega
        · obtain rfl : k = Q.length := by omega
          rw [List.take_length] at hown
          have f1 := row2.frozen 1
          have k7 : Keep (· = g) wr (wr.setCell ⟨g, 1, none⟩ (.slice none 0 0)) := (Keep.refl (· = g) wr).setCell (fun _ => rfl) _
          have hown7 := owned_keep hown k7 (fun b hb e => (hap.out b (by rw [puts_len] at hb; exact hb)).2 e)
          have row7 := row2.set 1 (.slice none 0 0)
          have HO := Lib.hid hown7
          have HR := Lib.hid row7
          have HK := Lib.hid (((k2.mono (T := p) (fun i hi => by rw [hi]; exact hp)).then kk (fun i _ hi => (hap.out i hi).1)).then k7 (fun i _ hi => by rw [hi]; exact hp))
          clear hown7 row7 k7 hown howq2 kk row2
          go_wp2_with fail
          go_ret
          rw [HF.out]
          refine ⟨rfl, ⟨aS, cS, none, 0, ?_, HO.out, ⟨rfl, .inl ⟨rfl, rfl⟩⟩, .inl hp, fun b hb => ?_, fun b hb => by cases hb⟩, HK.out⟩
          · rw [puts_len]; exact HR.out
          · have hb' : OwnB (.slice aS S.length cS) b := by rw [puts_len] at hb; exact hb
            exact ⟨.inl (hap.out b hb').1, (hap.out b hb').2⟩
end
end Go.Proofs.Ytdnbpfohmhhmkaa
