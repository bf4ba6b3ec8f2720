/- DISK: the reference's Crash. Printed by mac.py. -/
import Derived.Test.YtdnbpfohmhhmkaaDkJ
namespace Go.Proofs.Ytdnbpfohmhhmkaa
open Go.RowKit

theorem seg_set (X m : List Value) (o j : Nat) (v : Value) (hm : m.length = j) (h : o + j < X.length) : (X.take o ++ m ++ X.drop (o + j)).set (o + j) v = X.take o ++ (m ++ [v]) ++ X.drop (o + (j + 1)) := by
  have hl : (X.take o ++ m).length = o + j := by rw [List.length_append, List.length_take]; omega
  rw [List.drop_eq_getElem_cons h, List.set_append_right _ _ (by omega), hl, Nat.sub_self, List.set_cons_zero, Nat.add_assoc]
  simp
set_option maxRecDepth 100000 in
set_option maxHeartbeats 4000000 in
theorem rcrash_c {p q : Nat → Prop} (g : Nat) (S : List (List UInt8)) (Q : List (Int × List UInt8)) (dn : Bool) (ar : Int) (a : Option Addr) (c : Nat) (keep : List Int) (w : World) (hd : IsRef w p g S Q dn ar) (ok : DiskOk S Q ar) (hQ : Q.length ≤ 1000)
    (hl : Lies w q a (keep.map (Value.int .i64))) (hqp : ∀ b, q b → ¬ p b) (hm : keep.length ≤ 140737488351232) :
    Calls Try.prog 23 #[.pointer (some ⟨g, 0, none⟩), .slice a keep.length c] w (RPost p g w (.tuple #[]) (fallF S Q keep Q.length) [] true ar) := by
  obtain ⟨aS, cS, aQ, cQ, row, hown, howq, hp, hap, haq⟩ := hd
  replace hap := Lib.hid hap
  replace haq := Lib.hid haq
  have x3 := row.cell 3
  (try simp only [List.getElem?_cons_succ] at x3); (try simp only [List.getElem?_cons_zero] at x3)
  have f3 := row.frozen 3
  have row2 : RowIs (w.setCell ⟨g, 3, none⟩ (.bool true)) g 49 [.slice aS S.length cS, .slice aQ Q.length cQ, .int .i64 ar, .bool true] := row.set 3 _
  have k2 : Keep (· = g) w (w.setCell ⟨g, 3, none⟩ (.bool true)) := (Keep.refl (· = g) w).setCell (fun _ => rfl) _
  have hown2 := owned_keep hown k2 (fun b hb e => (hap.out b hb).2 e)
  have howq2 := owned_keep howq k2 (fun b hb e => (haq.out b hb).2.1 e)
  have hl2 := hl.keep k2 (fun b hb e => hqp b hb (e ▸ hp))
  have hn0 : Q.length ≤ 140737488351232 := by omega
  have hnS : S.length ≤ 65536 := ok.n
  go_enter Try.func23, Try.ntmps23
  go_wp2_with fail
  clear x3 f3
  generalize w.setCell ⟨g, 3, none⟩ (.bool true) = w2 at *
  go_loopw [4] (fun i wr => ∃ k : Nat, k ≤ Q.length ∧ i = .int .i64 k ∧ wr.ownsRow 0 64 64 (.slice aS (fallF S Q keep k).length cS) (fallF S Q keep k).length (secs (fallF S Q keep k)) ∧ Keep (OwnB (.slice aS S.length cS)) w2 wr) (fun i _ => Q.length - (intOf i).toNat)
  case atStart => exact ⟨0, by omega, rfl, hown2, Keep.refl _ _⟩
  case round =>
    clear hown2 hown howq hl
    obtain ⟨k, hk, rfl, hown, kk⟩ := hrel
    obtain ⟨wo, rfl⟩ : ∃ wo, wo = wr := ⟨_, rfl⟩
    replace row2 := row2.keep kk (fun h => (hap.out g h).2 rfl)
    replace howq2 := owned_keep howq2 kk (fun b hb h => (haq.out b hb).2.2 h)
    replace hl2 := hl2.keep kk (fun b hb h => hqp b hb (hap.out b h).1)
    have x1 := row2.cell 1
    (try simp only [List.getElem?_cons_succ] at x1); (try simp only [List.getElem?_cons_zero] at x1)
    by_cases hlt : k < Q.length
    · have hi0 : (0 : Int) ≤ (k : Int) := by omega
      have hi1 : (k : Int) < (Q.length : Int) := by omega
      have h64 := fall_64 ok keep k (by omega)
      have hlS := fall_len S Q keep k
      have hnx : Hid (fallF S Q keep (k + 1) = (fallF S Q keep k).set Q[k].1.toNat (mixF (keepN keep k) ((fallF S Q keep k).getD Q[k].1.toNat []) Q[k].2)) := (by
        show _ = _
        have e : Q.getD k (0, []) = Q[k] := by rw [List.getD_eq_getElem?_getD, List.getElem?_eq_getElem hlt]; rfl
        rw [← e]; rfl)
      generalize fallF S Q keep k = Sk at *
      go_upto_if 22 with fail
      go_cut [5] from 10 to 58 (fun s5 wx => s5 = .int .i64 ((keepN keep k : Nat) : Int) ∧ wo = wx)
      case first =>
        rcases Nat.lt_or_ge k keep.length with hkk | hkk
        · have hk1 : (k : Int) < (keep.length : Int) := by omega
          obtain ⟨bK, oK, rfl, -, hbK, hcK⟩ := hl2 (by intro e; rw [List.map_eq_nil_iff] at e; subst e; simp at hkk)
          have xk := hcK k (.int .i64 keep[k]) (by simp [hkk])
          have e : keep.getD k 0 = keep[k] := by rw [List.getD_eq_getElem?_getD, List.getElem?_eq_getElem hkk]; rfl
          have he : keepN keep k = (min (max keep[k] 0) 64).toNat := by unfold keepN; rw [e]
          have HV := Lib.hid he
          clear he e
          go_wp2_with fail
          all_goals
            go_meet
            case rel => exact ⟨congrArg (Value.int .i64) (by rw [HV.out]; omega), rfl⟩
        · have hk1 : (keep.length : Int) ≤ (k : Int) := by omega
          have HE : Hid (((keepN keep k : Nat) : Int) = 0) := (by
            show _ = _
            have e : keep.getD k 0 = 0 := by rw [List.getD_eq_getElem?_getD, List.getElem?_eq_none hkk]; rfl
            unfold keepN
            rw [e]; rfl)
          go_wp2_with fail
          go_meet
          case rel => exact ⟨by rw [HE.out], rfl⟩
      case rest =>
      obtain ⟨rfl, rfl⟩ := hcut
      have hn64 := keepN_le keep k
      generalize keepN keep k = n at *
      have hLQ := Lies.of_owned howq2
      obtain ⟨bQ, oQ, rfl, ⟨-, hbo⟩, hbQ, hcQ⟩ := hLQ (by
        intro e
        have := wrts_at (fun q hq => (ok.q64 q hq).1) hlt 0 _ rfl
        rw [e] at this; simp at this)
      obtain ⟨hq64, hq0, hq1⟩ := ok.q64 _ (List.getElem_mem hlt)
      have z0 := hcQ (k * 65) (.int .i64 Q[k].1) (wrts_at (fun q hq => (ok.q64 q hq).1) hlt 0 _ rfl)
      have zl := fun j v (hv : (Q[k].2.map bv)[j]? = some v) => (show oQ + k * 65 + 1 + j = oQ + (k * 65 + (j + 1)) by omega) ▸ hcQ _ v (wrts_at (fun q hq => (ok.q64 q hq).1) hlt (j + 1) v hv)
      generalize hq : Q[k] = q1 at *
      clear hq hcQ
      obtain ⟨n1, l⟩ := q1
      obtain ⟨k1, rfl⟩ : ∃ k1 : Nat, n1 = (k1 : Int) := ⟨n1.toNat, by have : (0 : Int) ≤ n1 := hq0; omega⟩
      replace hq64 : l.length = 64 := hq64
      have hq1' : (k1 : Int) < (S.length : Int) := hq1
      have hk1 : k1 < Sk.length := by rw [hlS]; omega
      have hk10 : (0 : Int) ≤ (k1 : Int) := by omega
      obtain ⟨gS, rest, rfl, hb0, rowS, hlr, hxr, hnr, hmr⟩ := own_row hown (by omega)
      have hgS : OwnB (.slice (some ⟨gS, 0, none⟩) S.length cS) gS := rfl
      have hQS : ¬ bQ = gS := fun e => (haq.out bQ hbo).2.2 (e ▸ hgS)
      have hgg : ¬ g = gS := fun e => (hap.out gS hgS).2 e.symm
      have HX := Lib.hid (mix_row h64 hk1 hq64 hn64 rest)
      have hXl : (secs Sk ++ rest).length = cS * 64 := hlr
      have hsl0 := secs_len h64
      have hkb : k1 * 64 + 64 ≤ (secs Sk ++ rest).length := by rw [List.length_append, hsl0]; have : (k1 + 1) * 64 ≤ Sk.length * 64 := Nat.mul_le_mul_right _ hk1; omega
      have y0 := row2.cell 0
      (try simp only [List.getElem?_cons_succ] at y0); (try simp only [List.getElem?_cons_zero] at y0)
      have hglt := row2.lt
      have rowJ0 : RowIs wo gS 64 ((secs Sk ++ rest).take (k1 * 64) ++ (l.take 0).map bv ++ (secs Sk ++ rest).drop (k1 * 64 + 0)) := by
        rw [List.take_zero, List.map_nil, List.append_nil, Nat.add_zero, List.take_append_drop]; exact rowS
      clear rowS hown
      go_wp2_with fail
      go_loopw [6] (fun i wr => ∃ j : Nat, j ≤ n ∧ i = .int .i64 j ∧ RowIs wr gS 64 ((secs Sk ++ rest).take (k1 * 64) ++ (l.take j).map bv ++ (secs Sk ++ rest).drop (k1 * 64 + j)) ∧ Keep (· = gS) wo wr) (fun i _ => n - (intOf i).toNat)
      case atStart => exact ⟨0, by omega, rfl, rowJ0, Keep.refl _ _⟩
      case round =>
        clear rowJ0
        obtain ⟨j, hj, rfl, rowJ, kj⟩ := hrel
        rcases Nat.lt_or_ge j n with hjn | hjn
        · have hj0 : (0 : Int) ≤ (j : Int) := by omega
          have hj1 : (j : Int) < (n : Int) := by omega
          have hj64 : (j : Int) < 64 := by omega
          have hjl : j < l.length := by omega
          have kd : Keep (· = gS) wo wr.drew := kj.drew
          have zj := (kd.cell (p := ⟨bQ, oQ + k * 65 + 1 + j, none⟩) hbQ hQS).trans (zl j (bv l[j]) (by simp [hjl]))
          have z0d := (kd.cell (p := ⟨bQ, oQ + k * 65, none⟩) hbQ hQS).trans z0
          have y0d := (kd.cell (p := ⟨g, 0, none⟩) hglt hgg).trans y0
          have y1d := (kd.cell (p := ⟨g, 1, none⟩) hglt hgg).trans x1
          have rowD := rowJ.same (w' := wr.drew)
          have hlm : ((l.take j).map bv).length = j := by rw [List.length_map, List.length_take]; omega
          have hXset := seg_set (secs Sk ++ rest) ((l.take j).map bv) (k1 * 64) j (bv l[j]) hlm (by omega)
          have hXn : Hid (RowIs (wr.drew.setCell ⟨gS, k1 * 64 + j, none⟩ (bv l[j])) gS 64 ((secs Sk ++ rest).take (k1 * 64) ++ (l.take (j + 1)).map bv ++ (secs Sk ++ rest).drop (k1 * 64 + (j + 1)))) := by
            show RowIs _ _ _ _
            have := rowD.set (k1 * 64 + j) (bv l[j])
            rw [hXset] at this
            rw [List.take_succ_eq_append_getElem hjl, List.map_append]
            exact this
          have xS : ∃ u0, wr.drew.cell? ⟨gS, k1 * 64 + j, none⟩ = some u0 := by
            rw [rowD.cell]
            exact ⟨_, List.getElem?_eq_getElem (by rw [List.length_append, List.length_append, List.length_take, hlm, List.length_drop]; omega)⟩
          obtain ⟨u0, xS⟩ := xS
          have fS := rowD.frozen (k1 * 64 + j)
          have HK : Hid (Keep (· = gS) wo (wr.drew.setCell ⟨gS, k1 * 64 + j, none⟩ (bv l[j]))) := kd.setCell (p := ⟨gS, k1 * 64 + j, none⟩) (fun _ => rfl) _
          have kS := (Keep.refl (· = gS) wr.drew).setCell (p := ⟨gS, k1 * 64 + j, none⟩) (fun _ => rfl) (bv l[j])
          have hsz := kd.size
          have HS8 := And.intro ((kS.cell (p := ⟨g, 0, none⟩) (Nat.lt_of_lt_of_le hglt hsz) hgg).trans y0d) (And.intro ((kS.cell (p := ⟨g, 1, none⟩) (Nat.lt_of_lt_of_le hglt hsz) hgg).trans y1d) (And.intro ((kS.cell (p := ⟨bQ, oQ + k * 65, none⟩) (Nat.lt_of_lt_of_le hbQ hsz) hQS).trans z0d) ((kS.cell (p := ⟨bQ, oQ + k * 65 + 1 + j, none⟩) (Nat.lt_of_lt_of_le hbQ hsz) hQS).trans zj)))
          unfold bv at HS8 hXn HK zj
          generalize ((l[j].toNat : Nat) : Int) = u at *
          replace HS8 := Lib.hid HS8
          clear rowD hXset kS rowJ kj kd zl hlr hxr
          go_upto_region 10 with fail
          refine wp_region_held_drew (S := (fun w' => (w'.cell? ⟨g, 0, none⟩ = some (.slice (some ⟨gS, 0, none⟩) S.length cS) ∧ w'.cell? ⟨g, 1, none⟩ = some (.slice (some ⟨bQ, oQ, none⟩) Q.length cQ) ∧ w'.cell? ⟨bQ, oQ + k * 65, none⟩ = some (.int .i64 k1) ∧ w'.cell? ⟨bQ, oQ + k * 65 + 1 + j, none⟩ = some (.int .u8 u)))) (by kernel_rfl) (⟨y0d, y1d, z0d, zj⟩) (fun hHeld => ?_)
          clear y0 x1 z0
          generalize wr.drew = wd at *
          refine wpAnyH_take (i := 0) (v := ?_) rfl (by kernel_rfl) (by kernel_rfl) (by kernel_rfl) (fun _ _ _ h => h) (Or.inl ⟨by kernel_rfl, ?_⟩) hHeld ?_
          rotate_left
          · intro w' hSw
            (try dsimp only at hSw)
            (try simp only [List.getElem_toArray]); (try simp only [List.getElem_cons_succ]); (try simp only [List.getElem_cons_zero])
            go_simp
            try with_reducible rfl
          (try simp only [Act.put]); (try simp only [List.getElem_toArray]); (try simp only [List.getElem_cons_succ]); (try simp only [List.getElem_cons_zero]); (try simp only [List.setIfInBounds_toArray]); (try simp only [List.set_cons_succ]); (try simp only [List.set_cons_zero])
          refine wpAnyH_take (i := 1) (v := ?_) rfl (by kernel_rfl) (by kernel_rfl) (by kernel_rfl) (fun _ _ _ h => h) (Or.inl ⟨by kernel_rfl, ?_⟩) hHeld ?_
          rotate_left
          · intro w' hSw
            (try dsimp only at hSw)
            (try simp only [List.getElem_toArray]); (try simp only [List.getElem_cons_succ]); (try simp only [List.getElem_cons_zero])
            go_simp
            try with_reducible rfl
          (try simp only [Act.put]); (try simp only [List.getElem_toArray]); (try simp only [List.getElem_cons_succ]); (try simp only [List.getElem_cons_zero]); (try simp only [List.setIfInBounds_toArray]); (try simp only [List.set_cons_succ]); (try simp only [List.set_cons_zero])
          refine wpAnyH_take (i := 2) (v := ?_) rfl (by kernel_rfl) (by kernel_rfl) (by kernel_rfl) (fun _ _ _ h => h) (Or.inl ⟨by kernel_rfl, ?_⟩) hHeld ?_
          rotate_left
          · intro w' hSw
            (try dsimp only at hSw)
            (try simp only [List.getElem_toArray]); (try simp only [List.getElem_cons_succ]); (try simp only [List.getElem_cons_zero])
            go_simp
            try with_reducible rfl
          (try simp only [Act.put]); (try simp only [List.getElem_toArray]); (try simp only [List.getElem_cons_succ]); (try simp only [List.getElem_cons_zero]); (try simp only [List.setIfInBounds_toArray]); (try simp only [List.set_cons_succ]); (try simp only [List.set_cons_zero])
          refine wpAnyH_take (i := 3) (v := ?_) rfl (by kernel_rfl) (by kernel_rfl) (by kernel_rfl) (fun _ _ _ h => h) (Or.inl ⟨by kernel_rfl, ?_⟩) hHeld ?_
          rotate_left
          · intro w' hSw
            (try dsimp only at hSw)
            (try simp only [List.getElem_toArray]); (try simp only [List.getElem_cons_succ]); (try simp only [List.getElem_cons_zero])
            go_simp
            try with_reducible rfl
          (try simp only [Act.put]); (try simp only [List.getElem_toArray]); (try simp only [List.getElem_cons_succ]); (try simp only [List.getElem_cons_zero]); (try simp only [List.setIfInBounds_toArray]); (try simp only [List.set_cons_succ]); (try simp only [List.set_cons_zero])
          refine wpAnyH_take (i := 4) (v := ?_) rfl (by kernel_rfl) (by kernel_rfl) (by kernel_rfl) (fun _ _ _ h => h) (Or.inl ⟨by kernel_rfl, ?_⟩) hHeld ?_
          rotate_left
          · intro w' hSw
            (try dsimp only at hSw)
            (try simp only [List.getElem_toArray]); (try simp only [List.getElem_cons_succ]); (try simp only [List.getElem_cons_zero])
            go_simp
            try with_reducible rfl
          (try simp only [Act.put]); (try simp only [List.getElem_toArray]); (try simp only [List.getElem_cons_succ]); (try simp only [List.getElem_cons_zero]); (try simp only [List.setIfInBounds_toArray]); (try simp only [List.set_cons_succ]); (try simp only [List.set_cons_zero])
          refine wpAnyH_take (i := 5) (v := ?_) rfl (by kernel_rfl) (by kernel_rfl) (by kernel_rfl) (fun _ _ _ h => h) (Or.inl ⟨by kernel_rfl, ?_⟩) hHeld ?_
          rotate_left
          · intro w' hSw
            (try dsimp only at hSw)
            (try simp only [List.getElem_toArray]); (try simp only [List.getElem_cons_succ]); (try simp only [List.getElem_cons_zero])
            go_simp
            try with_reducible rfl
          (try simp only [Act.put]); (try simp only [List.getElem_toArray]); (try simp only [List.getElem_cons_succ]); (try simp only [List.getElem_cons_zero]); (try simp only [List.setIfInBounds_toArray]); (try simp only [List.set_cons_succ]); (try simp only [List.set_cons_zero])
          refine wpAnyH_take (i := 6) (v := ?_) rfl (by kernel_rfl) (by kernel_rfl) (by kernel_rfl) (fun _ _ _ h => h) (Or.inl ⟨by kernel_rfl, ?_⟩) hHeld ?_
          rotate_left
          · intro w' hSw
            (try dsimp only at hSw)
            (try simp only [List.getElem_toArray]); (try simp only [List.getElem_cons_succ]); (try simp only [List.getElem_cons_zero])
            go_simp
            try with_reducible rfl
          (try simp only [Act.put]); (try simp only [List.getElem_toArray]); (try simp only [List.getElem_cons_succ]); (try simp only [List.getElem_cons_zero]); (try simp only [List.setIfInBounds_toArray]); (try simp only [List.set_cons_succ]); (try simp only [List.set_cons_zero])
          refine wpAnyH_take (i := 7) (v := ?_) rfl (by kernel_rfl) (by kernel_rfl) (by kernel_rfl) (fun _ _ _ h => h) (Or.inl ⟨by kernel_rfl, ?_⟩) hHeld ?_
          rotate_left
          · intro w' hSw
            (try dsimp only at hSw)
            (try simp only [List.getElem_toArray]); (try simp only [List.getElem_cons_succ]); (try simp only [List.getElem_cons_zero])
            go_simp
            try with_reducible rfl
          (try simp only [Act.put]); (try simp only [List.getElem_toArray]); (try simp only [List.getElem_cons_succ]); (try simp only [List.getElem_cons_zero]); (try simp only [List.setIfInBounds_toArray]); (try simp only [List.set_cons_succ]); (try simp only [List.set_cons_zero])
          refine wpAnyH_take (i := 8) (v := ?_) rfl (by kernel_rfl) (by kernel_rfl) (by kernel_rfl) (fun _ _ _ h => h) (Or.inl ⟨by kernel_rfl, ?_⟩) hHeld ?_
          rotate_left
          · intro w' hSw
            (try dsimp only at hSw)
            (try simp only [List.getElem_toArray]); (try simp only [List.getElem_cons_succ]); (try simp only [List.getElem_cons_zero])
            go_simp
            try with_reducible rfl
          (try simp only [Act.put]); (try simp only [List.getElem_toArray]); (try simp only [List.getElem_cons_succ]); (try simp only [List.getElem_cons_zero]); (try simp only [List.setIfInBounds_toArray]); (try simp only [List.set_cons_succ]); (try simp only [List.set_cons_zero])
          refine wpAnyH_take (i := 9) (v := ?_) rfl (by kernel_rfl) (by kernel_rfl) (by kernel_rfl) (fun _ _ _ h => h) (Or.inl ⟨by kernel_rfl, ?_⟩) hHeld ?_
          rotate_left
          · intro w' hSw
            (try dsimp only at hSw)
            (try simp only [List.getElem_toArray]); (try simp only [List.getElem_cons_succ]); (try simp only [List.getElem_cons_zero])
            go_simp
            try with_reducible rfl
          (try simp only [Act.put]); (try simp only [List.getElem_toArray]); (try simp only [List.getElem_cons_succ]); (try simp only [List.getElem_cons_zero]); (try simp only [List.setIfInBounds_toArray]); (try simp only [List.set_cons_succ]); (try simp only [List.set_cons_zero])
          refine wpAnyH_take (i := 10) (v := ?_) rfl (by kernel_rfl) (by kernel_rfl) (by kernel_rfl) (fun _ _ _ h => h) (Or.inl ⟨by kernel_rfl, ?_⟩) hHeld ?_
          rotate_left
          · intro w' hSw
            (try dsimp only at hSw)
            (try simp only [List.getElem_toArray]); (try simp only [List.getElem_cons_succ]); (try simp only [List.getElem_cons_zero])
            go_simp
            try with_reducible rfl
          (try simp only [Act.put]); (try simp only [List.getElem_toArray]); (try simp only [List.getElem_cons_succ]); (try simp only [List.getElem_cons_zero]); (try simp only [List.setIfInBounds_toArray]); (try simp only [List.set_cons_succ]); (try simp only [List.set_cons_zero])
          refine wpAnyH_take (i := 11) (v := ?_) rfl (by kernel_rfl) (by kernel_rfl) (by kernel_rfl) (fun _ _ _ h => h) (Or.inl ⟨by kernel_rfl, ?_⟩) hHeld ?_
          rotate_left
          · intro w' hSw
            (try dsimp only at hSw)
            (try simp only [List.getElem_toArray]); (try simp only [List.getElem_cons_succ]); (try simp only [List.getElem_cons_zero])
            go_simp
            try with_reducible rfl
          (try simp only [Act.put]); (try simp only [List.getElem_toArray]); (try simp only [List.getElem_cons_succ]); (try simp only [List.getElem_cons_zero]); (try simp only [List.setIfInBounds_toArray]); (try simp only [List.set_cons_succ]); (try simp only [List.set_cons_zero])
          refine wpAnyH_take (i := 12) (v := ?_) rfl (by kernel_rfl) (by kernel_rfl) (by kernel_rfl) (fun _ _ _ h => h) (Or.inl ⟨by kernel_rfl, ?_⟩) hHeld ?_
          rotate_left
          · intro w' hSw
            (try dsimp only at hSw)
            (try simp only [List.getElem_toArray]); (try simp only [List.getElem_cons_succ]); (try simp only [List.getElem_cons_zero])
            go_simp
            try with_reducible rfl
          (try simp only [Act.put]); (try simp only [List.getElem_toArray]); (try simp only [List.getElem_cons_succ]); (try simp only [List.getElem_cons_zero]); (try simp only [List.setIfInBounds_toArray]); (try simp only [List.set_cons_succ]); (try simp only [List.set_cons_zero])
          refine wpAnyH_take (i := 13) (v := ?_) rfl (by kernel_rfl) (by kernel_rfl) (by kernel_rfl) (fun _ _ _ h => h) (Or.inl ⟨by kernel_rfl, ?_⟩) hHeld ?_
          rotate_left
          · intro w' hSw
            (try dsimp only at hSw)
            (try simp only [List.getElem_toArray]); (try simp only [List.getElem_cons_succ]); (try simp only [List.getElem_cons_zero])
            go_simp
            try with_reducible rfl
          (try simp only [Act.put]); (try simp only [List.getElem_toArray]); (try simp only [List.getElem_cons_succ]); (try simp only [List.getElem_cons_zero]); (try simp only [List.setIfInBounds_toArray]); (try simp only [List.set_cons_succ]); (try simp only [List.set_cons_zero])
          refine wpAnyH_take (i := 14) (v := ?_) rfl (by kernel_rfl) (by kernel_rfl) (by kernel_rfl) (fun _ _ _ h => h) (Or.inl ⟨by kernel_rfl, ?_⟩) hHeld ?_
          rotate_left
          · intro w' hSw
            (try dsimp only at hSw)
            (try simp only [List.getElem_toArray]); (try simp only [List.getElem_cons_succ]); (try simp only [List.getElem_cons_zero])
            go_simp
            try with_reducible rfl
          (try simp only [Act.put]); (try simp only [List.getElem_toArray]); (try simp only [List.getElem_cons_succ]); (try simp only [List.getElem_cons_zero]); (try simp only [List.setIfInBounds_toArray]); (try simp only [List.set_cons_succ]); (try simp only [List.set_cons_zero])
          refine wpAnyH_take (i := 15) (v := ?_) rfl (by kernel_rfl) (by kernel_rfl) (by kernel_rfl) (fun _ _ _ h => h) (Or.inl ⟨by kernel_rfl, ?_⟩) hHeld ?_
          rotate_left
          · intro w' hSw
            (try dsimp only at hSw)
            (try simp only [List.getElem_toArray]); (try simp only [List.getElem_cons_succ]); (try simp only [List.getElem_cons_zero])
            go_simp
            try with_reducible rfl
          (try simp only [Act.put]); (try simp only [List.getElem_toArray]); (try simp only [List.getElem_cons_succ]); (try simp only [List.getElem_cons_zero]); (try simp only [List.setIfInBounds_toArray]); (try simp only [List.set_cons_succ]); (try simp only [List.set_cons_zero])
          refine wpAnyH_take (i := 16) (v := ?_) rfl (by kernel_rfl) (by kernel_rfl) (by kernel_rfl) (fun _ _ _ h => h) (Or.inl ⟨by kernel_rfl, ?_⟩) hHeld ?_
          rotate_left
          · intro w' hSw
            (try dsimp only at hSw)
            (try simp only [List.getElem_toArray]); (try simp only [List.getElem_cons_succ]); (try simp only [List.getElem_cons_zero])
            go_simp
            try with_reducible rfl
          (try simp only [Act.put]); (try simp only [List.getElem_toArray]); (try simp only [List.getElem_cons_succ]); (try simp only [List.getElem_cons_zero]); (try simp only [List.setIfInBounds_toArray]); (try simp only [List.set_cons_succ]); (try simp only [List.set_cons_zero])
          refine wpAnyH_take (i := 17) (v := ?_) rfl (by kernel_rfl) (by kernel_rfl) (by kernel_rfl) (fun _ _ _ h => h) (Or.inl ⟨by kernel_rfl, ?_⟩) hHeld ?_
          rotate_left
          · intro w' hSw
            (try dsimp only at hSw)
            (try simp only [List.getElem_toArray]); (try simp only [List.getElem_cons_succ]); (try simp only [List.getElem_cons_zero])
            go_simp
            try with_reducible rfl
          (try simp only [Act.put]); (try simp only [List.getElem_toArray]); (try simp only [List.getElem_cons_succ]); (try simp only [List.getElem_cons_zero]); (try simp only [List.setIfInBounds_toArray]); (try simp only [List.set_cons_succ]); (try simp only [List.set_cons_zero])
          refine wpAnyH_take (i := 18) (v := ?_) rfl (by kernel_rfl) (by kernel_rfl) (by kernel_rfl) (fun _ _ _ h => h) (Or.inl ⟨by kernel_rfl, ?_⟩) hHeld ?_
          rotate_left
          · intro w' hSw
            (try dsimp only at hSw)
            (try simp only [List.getElem_toArray]); (try simp only [List.getElem_cons_succ]); (try simp only [List.getElem_cons_zero])
            go_simp
            try with_reducible rfl
          (try simp only [Act.put]); (try simp only [List.getElem_toArray]); (try simp only [List.getElem_cons_succ]); (try simp only [List.getElem_cons_zero]); (try simp only [List.setIfInBounds_toArray]); (try simp only [List.set_cons_succ]); (try simp only [List.set_cons_zero])
          refine wpAnyH_take (i := 19) (v := ?_) rfl (by kernel_rfl) (by kernel_rfl) (by kernel_rfl) (fun _ _ _ h => h) (Or.inl ⟨by kernel_rfl, ?_⟩) hHeld ?_
          rotate_left
          · intro w' hSw
            (try dsimp only at hSw)
            (try simp only [List.getElem_toArray]); (try simp only [List.getElem_cons_succ]); (try simp only [List.getElem_cons_zero])
            go_simp
            try with_reducible rfl
          (try simp only [Act.put]); (try simp only [List.getElem_toArray]); (try simp only [List.getElem_cons_succ]); (try simp only [List.getElem_cons_zero]); (try simp only [List.setIfInBounds_toArray]); (try simp only [List.set_cons_succ]); (try simp only [List.set_cons_zero])
          refine wpAnyH_take (i := 20) (v := ?_) rfl (by kernel_rfl) (by kernel_rfl) (by kernel_rfl) (fun _ _ _ h => h) (Or.inl ⟨by kernel_rfl, ?_⟩) hHeld ?_
          rotate_left
          · intro w' hSw
            (try dsimp only at hSw)
            (try simp only [List.getElem_toArray]); (try simp only [List.getElem_cons_succ]); (try simp only [List.getElem_cons_zero])
            go_simp
            try with_reducible rfl
          (try simp only [Act.put]); (try simp only [List.getElem_toArray]); (try simp only [List.getElem_cons_succ]); (try simp only [List.getElem_cons_zero]); (try simp only [List.setIfInBounds_toArray]); (try simp only [List.set_cons_succ]); (try simp only [List.set_cons_zero])
          refine wpAnyH_take (i := 21) (v := ?_) rfl (by kernel_rfl) (by kernel_rfl) (by kernel_rfl) (fun _ _ _ h => h) (Or.inl ⟨by kernel_rfl, ?_⟩) hHeld ?_
          rotate_left
          · intro w' hSw
            (try dsimp only at hSw)
            (try simp only [List.getElem_toArray]); (try simp only [List.getElem_cons_succ]); (try simp only [List.getElem_cons_zero])
            go_simp
            try with_reducible rfl
          (try simp only [Act.put]); (try simp only [List.getElem_toArray]); (try simp only [List.getElem_cons_succ]); (try simp only [List.getElem_cons_zero]); (try simp only [List.setIfInBounds_toArray]); (try simp only [List.set_cons_succ]); (try simp only [List.set_cons_zero])
          refine wpAnyH_take (i := 22) (v := ?_) rfl (by kernel_rfl) (by kernel_rfl) (by kernel_rfl) (fun _ _ _ h => h) (Or.inl ⟨by kernel_rfl, ?_⟩) hHeld ?_
          rotate_left
          · intro w' hSw
            (try dsimp only at hSw)
            (try simp only [List.getElem_toArray]); (try simp only [List.getElem_cons_succ]); (try simp only [List.getElem_cons_zero])
            go_simp
            try with_reducible rfl
          (try simp only [Act.put]); (try simp only [List.getElem_toArray]); (try simp only [List.getElem_cons_succ]); (try simp only [List.getElem_cons_zero]); (try simp only [List.setIfInBounds_toArray]); (try simp only [List.set_cons_succ]); (try simp only [List.set_cons_zero])
          refine wpAnyH_take (i := 23) (v := ?_) rfl (by kernel_rfl) (by kernel_rfl) (by kernel_rfl) (fun _ _ _ h => h) (Or.inl ⟨by kernel_rfl, ?_⟩) hHeld ?_
          rotate_left
          · intro w' hSw
            (try dsimp only at hSw)
            (try simp only [List.getElem_toArray]); (try simp only [List.getElem_cons_succ]); (try simp only [List.getElem_cons_zero])
            go_simp
            try with_reducible rfl
          (try simp only [Act.put]); (try simp only [List.getElem_toArray]); (try simp only [List.getElem_cons_succ]); (try simp only [List.getElem_cons_zero]); (try simp only [List.setIfInBounds_toArray]); (try simp only [List.set_cons_succ]); (try simp only [List.set_cons_zero])
          refine wpAnyH_take (i := 24) (v := ?_) rfl (by kernel_rfl) (by kernel_rfl) (by kernel_rfl) (fun _ _ _ h => h) (Or.inl ⟨by kernel_rfl, ?_⟩) hHeld ?_
          rotate_left
          · intro w' hSw
            (try dsimp only at hSw)
            (try simp only [List.getElem_toArray]); (try simp only [List.getElem_cons_succ]); (try simp only [List.getElem_cons_zero])
            go_simp
            try with_reducible rfl
          (try simp only [Act.put]); (try simp only [List.getElem_toArray]); (try simp only [List.getElem_cons_succ]); (try simp only [List.getElem_cons_zero]); (try simp only [List.setIfInBounds_toArray]); (try simp only [List.set_cons_succ]); (try simp only [List.set_cons_zero])
          refine wpAnyH_ready (rs := [25]) (by kernel_rfl) (by simp) ?_
          refine AllReadyH.cons rfl (fun K hK => ?_) AllReadyH.nil
          go_simp
          refine hK.out _ _ (HS8.out) (fun hHeld => ?_)
          clear hK K
          (try simp only [Act.put]); (try simp only [List.getElem_toArray]); (try simp only [List.getElem_cons_succ]); (try simp only [List.getElem_cons_zero]); (try simp only [List.setIfInBounds_toArray]); (try simp only [List.set_cons_succ]); (try simp only [List.set_cons_zero])
          refine wpAnyH_done (by kernel_rfl) ?_ _
          clear hHeld y0d y1d z0d zj HS8 xS fS
          go_wp2_with fail
          go_roundw
          case rel => exact ⟨j + 1, by omega, by go_num, hXn.out, HK.out⟩
          case measure => simp [intOf]; omega
        · obtain rfl : j = n := by omega
          rw [show ((l.take j).map bv).length = j from by rw [List.length_map, List.length_take]; omega] at HX
          have row8 : RowIs wr gS 64 (secs (Sk.set k1 (mixF j Sk[k1] l)) ++ rest) := HX.out ▸ rowJ
          have hs64 : ∀ c ∈ Sk.set k1 (mixF j Sk[k1] l), c.length = 64 := fun c hc => by
            rcases List.mem_or_eq_of_mem_set hc with h' | h'
            · exact h64 c h'
            · rw [h']; exact mix_len (h64 _ (List.getElem_mem hk1)) hq64 hn64
          have hsl := secs_len hs64
          rw [List.length_set] at hsl
          have HO := Lib.hid (row_own row8 hb0 (by rw [← hlr, List.length_append, List.length_append, hsl, hsl0]) hsl hnr hmr)
          have HNX : Hid (fallF S Q keep (k + 1) = Sk.set k1 (mixF j Sk[k1] l)) := (by
            show _ = _
            rw [hnx.out, Int.toNat_natCast, List.getD_eq_getElem?_getD, List.getElem?_eq_getElem hk1]; rfl)
          have HKK := Lib.hid (kk.then kj (fun i _ hi => by rw [hi]; rfl))
          clear row8 kj kk rowJ hs64 hsl hnx HX howq2 zl row2
          go_wp2_with fail
          go_roundw
          case rel => exact ⟨k + 1, by omega, by go_num, by rw [HNX.out, List.length_set]; exact HO.out, HKK.out⟩
          case measure => simp [intOf]; omega
    · obtain rfl : k = Q.length := by omega
      have f1 := row2.frozen 1
      have k7 : Keep (· = g) wo (wo.setCell ⟨g, 1, none⟩ (.slice none 0 0)) := (Keep.refl (· = g) wo).setCell (fun _ => rfl) _
      have hown7 := owned_keep hown k7 (fun b hb e => (hap.out b (by rw [fall_len] at hb; exact hb)).2 e)
      have row7 := row2.set 1 (.slice none 0 0)
      have HO := Lib.hid hown7
      have HR := Lib.hid row7
      have HK := Lib.hid (((k2.mono (T := p) (fun i hi => by rw [hi]; exact hp)).then kk (fun i _ hi => (hap.out i hi).1)).then k7 (fun i _ hi => by rw [hi]; exact hp))
      clear hown7 row7 k7 hown howq2 kk row2
      go_wp2_with fail
      go_end0
      refine ⟨rfl, ⟨aS, cS, none, 0, ?_, HO.out, ⟨rfl, .inl ⟨rfl, rfl⟩⟩, .inl hp, fun b hb => ?_, fun b hb => by cases hb⟩, HK.out⟩
      · rw [fall_len]; exact HR.out
      · have hb' : OwnB (.slice aS S.length cS) b := by rw [fall_len] at hb; exact hb
        exact ⟨.inl (hap.out b hb').1, (hap.out b hb').2⟩
end Go.Proofs.Ytdnbpfohmhhmkaa
