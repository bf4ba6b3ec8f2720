/- DEDUP: Load. Printed by mac.py. -/
import Derived.Test.YthchpdflnpfjkaaQKdP
namespace Go.Proofs.Ythchpdflnpfjkaa
open Go.RowKit

theorem bEqual_c {p q : Nat → Prop} (a b : Option Addr) (n ca m cb : Nat) (la lb : List UInt8) (w : World) (hn : la.length = n) (hm : lb.length = m) (ha : Lies w p a (la.map bv)) (hb : Lies w q b (lb.map bv)) :
    Calls Try.prog 36 #[.slice a n ca, .slice b m cb] w fun e w' => e = .returned (.bool (decide (la = lb))) ∧ w = w' := by
  have h1 := conv_bytes (P := Try.prog) Try.underlying31 Try.underlying5 Try.underlying9 (cap := ca) hn ha
  have h2 := conv_bytes (P := Try.prog) Try.underlying31 Try.underlying5 Try.underlying9 (cap := cb) hm hb
  clear ha hb hn hm
  go_enter Try.func36, Try.ntmps36
  go_wp2
  go_ret
  exact ⟨ret_bool (strB_eq _ _), rfl⟩
theorem textS_le (m : Nat) (s : RdS) : (textS m s).1.length ≤ s.B.length := by
  unfold textS
  split
  · exact Nat.zero_le _
  · split
    · exact Nat.zero_le _
    · split
      · exact Nat.zero_le _
      · simp only [List.length_take, List.length_drop]; omega
def preOf (E : List Ent) : Option Int := E.getLast?.map (·.1)
def aheadI (E : List Ent) : Int := (preOf E).getD 0
theorem preOf_snoc (E : List Ent) (x : Ent) : preOf (E ++ [x]) = some x.1 := by simp [preOf]
theorem aheadI_snoc (E : List Ent) (x : Ent) : aheadI (E ++ [x]) = x.1 := by simp [aheadI, preOf_snoc]
theorem preOf_pos {E : List Ent} (h : 0 < E.length) : preOf E = some (aheadI E) := by
  unfold aheadI preOf
  cases hq : E.getLast? with
  | none => rw [List.getLast?_eq_none_iff] at hq; subst hq; simp at h
  | some x => rfl
theorem encE_len (x : Ent) : 1 ≤ (encE x).length := by
  have := (numB_len x.1.toNat).2
  unfold encE; rw [List.length_append]; omega
noncomputable def mLoadF (l : List UInt8) : Option (List Ent × List (List UInt8)) := match loadP l with | none => none | some y => (tapeP y.2).map (fun L => (y.1, L))
def MLoadPost (w : World) (O : Nat → Prop) (bD bT : Nat) (l : List UInt8) (e : Ending) (w' : World) : Prop :=
  match mLoadF l with
  | none => e = .returned (.bool false) ∧ Keep O w w'
  | some y => e = .returned (.bool true) ∧ ∃ O', Mach w' O' bD bT y.1.length y.2 (lastOf y.1) ∧ Keep O w w' ∧ ∀ b, O' b → O b ∨ w.heap.size ≤ b
theorem load_no {w w' : World} {O : Nat → Prop} {bD bT : Nat} {l : List UInt8} (h : mLoadF l = none) (k : Keep O w w') : MLoadPost w O bD bT l (.returned (.bool false)) w' := by
  unfold MLoadPost; rw [h]; exact ⟨rfl, k⟩
theorem mLoad_none {l : List UInt8} (h : loadP l = none) : mLoadF l = none := by unfold mLoadF; rw [h]
section
attribute [local go_sem ↓] stz_told ldz_told
set_option maxRecDepth 100000 in
set_option maxHeartbeats 8000000 in
theorem load_c {p : Nat → Prop} (O : Nat → Prop) (bD bT n : Nat) (tp : List (List UInt8)) (last : Last) (a : Option Addr) (nn ca : Nat) (l : List UInt8) (w : World) (hm : Mach w O bD bT n tp last) (hn : l.length = nn) (ha : Lies w p a (l.map bv)) (hr : nn ≤ 100000) (hT : (tapeB tp).length ≤ 100000000) (hL : tp.length ≤ 100000) :
    Calls Try.prog 15 #[.pointer (some ⟨bD, 0, none⟩), .slice a nn ca] w (MLoadPost w O bD bT l) := by
  subst hn
  obtain ⟨lt, bM, g, D, rowD, tape, pa, mp⟩ := hm
  have x0 := rowD.cell 0
  (try simp only [List.getElem?_cons_zero] at x0)
  have hqq : ∀ w', (binOp .eql 61 (.iface 24 (.pointer (some ⟨bT, 0, none⟩))) .nilIface).run Try.prog w' = .ok (.bool false) w' := fun _ => by rfl
  have hmm := @run_makeMap Try.prog
  have ROWD := Lib.hid rowD
  have TP := Lib.hid tape
  have PA := Lib.hid pa
  have HLT := Lib.hid lt
  have hDs := lt bD pa.oD
  have hTs := lt bT pa.oT
  have HN := Lib.hid (New_rd a l.length ca l w rfl ha (by omega))
  clear ha rowD tape pa lt mp
  go_enter Try.func15, Try.ntmps15
  go_wp2_with fail
  go_fit HN.out
  rintro e w1 ⟨r, rfl, hr1, rd1, k1⟩
  have hr2 := rd1.lt
  have hs1 := k1.size
  have rd1 := (rd1.tight).mono (q := fun b => w.heap.size ≤ b ∧ b < w1.heap.size ∧ b ≠ r) (fun b hb => ⟨hb.1.1, hb.2, hb.1.2⟩) (fun h => h.2.2 rfl)
  have kA : Keep Nix w1 (w1.alloc (.map #[] 0)) := (Keep.refl Nix w1).alloc _
  have mp0 := MapIs.made w1 (fun _ => False)
  have KA := Lib.hid (k1.trans kA)
  have HC := Small_rd r _ _ (w1.alloc (.map #[] 0)) (rd1.nix kA) 1048576 ⟨by decide, by decide⟩
  replace HC : Calls Try.prog 31 #[.pointer (some ⟨r, 0, none⟩), .int .i64 1048576] (w1.alloc (.map #[] 0)) fun e w' => e = .returned (.int .i64 (numS M20 ⟨l, 0, 0, []⟩).1) ∧ IsRd w' 99 r (fun b => w.heap.size ≤ b ∧ b < w1.heap.size ∧ b ≠ r) (numS M20 ⟨l, 0, 0, []⟩).2 ∧ Keep (· = r) (w1.alloc (.map #[] 0)) w' := HC
  have hfB := (numS_fields M20 ⟨l, 0, 0, []⟩).1
  have hNle := numS_le M20 ⟨l, 0, 0, []⟩
  obtain ⟨N, s0, hs0⟩ : ∃ N s0, Hid (numS M20 ⟨l, 0, 0, []⟩ = (N, s0)) := ⟨_, _, rfl⟩
  rw [hs0.out] at HC hfB hNle
  replace HC := Lib.hid HC
  have MP0 := Lib.hid mp0
  unfold M20 at hNle
  simp only at hNle hfB
  clear HN x0 rd1 k1 kA mp0
  go_wp2_with fail
  go_fit HC.out
  rintro e w2 ⟨rfl, rd2, k2⟩
  have hs2 := k2.size
  have hsA : w1.heap.size + 1 ≤ w2.heap.size := by simp at hs2; exact hs2
  have mp2 := (MP0.out.keep k2 (by omega) (fun b h => h.elim)).mono (q := fun b => w1.heap.size < b ∧ b < w2.heap.size) (fun b h => h.elim)
  have KB := Lib.hid (KA.out.then k2 (fun i hi (e : i = r) => (by omega : False)))
  have hpl := rd2.place
  have HP0 : Hid (s0.B = l ∧ 0 ≤ s0.pos ∧ s0.pos ≤ l.length) := ⟨hfB, Nat.zero_le _, by rw [← hfB]; exact hpl⟩
  clear HC MP0 k2 KA hmm hs2 hpl hfB
  go_wp2_with fail
  go_loopw [8, 29] (fun v i wr => ∃ (k : Nat) (E : List Ent) (s : RdS) (D : DataW Value), k ≤ N ∧ i = .int .i64 (k : Int) ∧ E.length = k ∧ v = .int .u64 (aheadI E) ∧ Hid (entsP N none s0 = (entsP (N - k) (preOf E) s).map (fun y => (E ++ y.1, y.2))) ∧ IsRd wr 99 r (fun b => w.heap.size ≤ b ∧ b < w1.heap.size ∧ b ≠ r) s ∧ MapIs wr (fun b => w1.heap.size < b ∧ b < wr.heap.size) w1.heap.size k D (lastOf E) ∧ Keep (fun b => b = r ∨ b = w1.heap.size) w2 wr ∧ Hid (s.B = l ∧ k ≤ s.pos ∧ s.pos ≤ l.length) ∧ Hid (isU64 (aheadI E))) (fun _ i _ => N - (intOf i).toNat)
  case atStart => exact ⟨0, [], s0, _, Nat.zero_le _, rfl, rfl, rfl, by show _ = _; rw [show preOf [] = none from rfl, Nat.sub_zero]; cases entsP N none s0 <;> rfl, rd2, mp2, Keep.refl _ _, HP0.out, (⟨by decide, by decide⟩ : isU64 0)⟩
  case round =>
    clear rd2 mp2
    obtain ⟨k, E, s, D, hk, rfl, hEk, rfl, hq, rd, mp, kk, hps, hau⟩ := hrel
    have hsw := kk.size
    have hkp := hps.out.2.1
    have hpl := hps.out.2.2
    have RD := Lib.hid rd
    have MP := Lib.hid mp
    have HKK := Lib.hid kk
    have hau2 := hau.out
    clear rd mp kk
    by_cases hlt : k < N
    · have hi1 : (k : Int) < (N : Int) := by omega
      have hwk : IntKind.i64.wrap ((k : Int) + 1) = (k : Int) + 1 := by rw [IntKind.wrap_i64]; omega
      have HC1 := Num_rd r _ s wr RD.out
      obtain ⟨c1, s1, h1⟩ : ∃ c1 s1, Hid (numS maxU s = (c1, s1)) := ⟨_, _, rfl⟩
      obtain ⟨q1, s2, h2⟩ : ∃ q1 s2, Hid (numS maxU s1 = (q1, s2)) := ⟨_, _, rfl⟩
      obtain ⟨t1, s3, h3⟩ : ∃ t1 s3, Hid (textS M30 s2 = (t1, s3)) := ⟨_, _, rfl⟩
      have hEnt : Hid (entP s = (((c1 : Int), (q1 : Int), t1), s3)) := by
        show _ = _
        unfold entP
        rw [h1.out]; simp only
        rw [h2.out]; simp only
        rw [h3.out]
      have hcu : isU64 (c1 : Int) ∧ isU64 (q1 : Int) := by have := entP_u64 s; rw [hEnt.out] at this; exact this
      rw [h1.out] at HC1
      replace HC1 := Lib.hid HC1
      go_wp2_with fail
      go_fit HC1.out
      rintro e w3 ⟨rfl, rd3, k3⟩
      have HC2 := Num_rd r _ s1 w3 rd3
      rw [h2.out] at HC2
      replace HC2 := Lib.hid HC2
      clear rd3 HC1 RD
      go_wp2_with fail
      go_fit HC2.out
      rintro e w4 ⟨rfl, rd4, k4⟩
      have HC3 := Text_rd r _ s2 w4 rd4 1073741824 ⟨by decide, by decide⟩
      replace HC3 : Calls Try.prog 33 #[.pointer (some ⟨r, 0, none⟩), .int .i64 1073741824] w4 fun e w' => ∃ a' cap', e = .returned (.slice a' (textS M30 s2).1.length cap') ∧ w'.ownsRow w4.heap.size 5 1 (.slice a' (textS M30 s2).1.length cap') (textS M30 s2).1.length ((textS M30 s2).1.map bv) ∧ IsRd w' 99 r (fun b => w.heap.size ≤ b ∧ b < w1.heap.size ∧ b ≠ r) (textS M30 s2).2 ∧ Keep (· = r) w4 w' := HC3
      rw [h3.out] at HC3
      replace HC3 := Lib.hid HC3
      have htl : t1.length ≤ M30 := by have := textS_len M30 s2; rw [h3.out] at this; exact this
      unfold M30 at htl
      have K34 := Lib.hid (k3.trans k4)
      clear rd4 HC2 k3 k4
      go_wp2_with fail
      go_fit HC3.out
      rintro e w5 ⟨a5, c5, rfl, own5, rd5, k5⟩
      obtain ⟨hst, rowX, kX⟩ := boxed (P := Try.prog) (zs := [.int .u64 0, .slice none 0 0]) (cs := [.int .u64 (q1 : Int), .slice a5 t1.length c5]) S_told w5 rfl rfl rfl
      have kr5 := K34.out.trans k5
      have hs4 := K34.out.size
      have hs5 := k5.size
      have hsx := kX.size
      have OW5 := Lib.hid (owned_keep own5 kX (fun _ _ h => h))
      have RD5 := Lib.hid (rd5.nix kX)
      have MP5 := Lib.hid ((MP.out.keep kr5 (fun (e : w1.heap.size = r) => by omega) (fun b hb (e : b = r) => by have := hb.1; omega)).keep kX id (fun _ _ h => h))
      have KB5 := Lib.hid ((KB.out.then HKK.out (fun i hi h => (by rcases h with h | h <;> omega : False))).then (kr5.then kX (fun _ _ h => h.elim)) (fun i hi (e : i = r) => (by omega : False)))
      have KK5 := Lib.hid ((HKK.out.trans (kr5.mono (fun b hb => .inl hb))).trans kX.nix)
      have ROWX := Lib.hid rowX
      clear MP HKK K34 own5 rd5 k5 kX rowX kr5 HC3
      go_wp2_with fail
      clear hst
      generalize hbx : w5.heap.size = bX at *
      generalize (w5.alloc (.cells [.int .u64 0, .slice none 0 0].toArray 73)).setRow bX ([.int .u64 (q1 : Int), .slice a5 t1.length c5] : List Value).toArray = w6 at *
      go_fit (Err_rq r _ s3 w6 RD5.out)
      rintro e w7 ⟨rfl, rfl⟩
      have y0 : w6.cell? ⟨bX, 0, none⟩ = some (.int .u64 (q1 : Int)) := by simpa using ROWX.out.cell 0
      by_cases he3 : s3.e = 0
      · have te : (s3.e != 0) = false := by simp [he3]
        have HE3 := Lib.hid he3
        clear he3
        by_cases hq0 : q1 = 0
        · subst hq0
          have hno : Hid (loadP l = none) := by
            show _ = _
            unfold loadP
            rw [hs0.out]
            simp only
            rw [hq.out, show N - k = (N - (k + 1)) + 1 by omega]
            simp only [entsP]
            rw [hEnt.out, if_pos (by unfold badE; exact .inr (.inl rfl))]
            rfl
          have tq : ((((0 : Nat) : Int)) == 0) = true := rfl
          go_wp2_with fail
          go_ret
          exact load_no (mLoad_none hno.out) KB5.out.nix
        · have tq : ((q1 : Int) == 0) = false := by simp [hq0]
          by_cases hk0 : k = 0
          · have hk1 : ¬ (0 : Int) < (k : Int) := by omega
            have hk2 : decide ((k : Int) > 0) = false := decide_eq_false hk1
            have HPRE : Hid (¬ ∃ b, preOf E = some b ∧ (c1 : Int) ≤ b) := fun ⟨b, hb, _⟩ => by
              have : E = [] := List.eq_nil_of_length_eq_zero (by omega)
              subst this; cases hb
            have hnext : Hid (entsP N none s0 = (entsP (N - (k + 1)) (preOf (E ++ [((c1 : Int), (q1 : Int), t1)])) s3).map (fun y => ((E ++ [((c1 : Int), (q1 : Int), t1)]) ++ y.1, y.2))) := by
              show _ = _
              rw [hq.out, show N - k = (N - (k + 1)) + 1 by omega]
              simp only [entsP]
              rw [hEnt.out, if_neg (by unfold badE; rintro (h | h | h); exact h HE3.out; exact hq0 (by simpa using h); exact HPRE.out h), preOf_snoc]
              cases entsP (N - (k + 1)) (some (c1 : Int)) s3 <;> simp
            obtain ⟨f1, f2, f3⟩ := entP_form (s := s) (by rw [hEnt.out]; exact HE3.out) (by rw [hps.out.1]; exact hpl)
            rw [hEnt.out] at f1 f2 f3
            have hps3 : Hid (s3.B = l ∧ k + 1 ≤ s3.pos ∧ s3.pos ≤ l.length) := by
              have hB := hps.out.1
              rw [hB] at f2 f3
              refine ⟨by show s3.B = l; have : s3 = _ := f1; rw [this]; exact hB, ?_, f3⟩
              have h5 := congrArg List.length f2
              simp only [List.length_drop, List.length_append] at h5
              have h6 := encE_len ((c1 : Int), (q1 : Int), t1)
              have f3' : s3.pos ≤ l.length := f3
              show k + 1 ≤ s3.pos
              omega
            clear f1 f2 f3
            have hv : RdT w6 (fun b => w1.heap.size < b ∧ b < w6.heap.size) (.agg ([.int .u64 (q1 : Int), .slice a5 t1.length c5] : List Value).toArray) (some ((q1 : Int), t1)) := ⟨a5, c5, rfl, Lies.mono (Lies.of_owned OW5.out) (fun b hb => ⟨by have := hb.1; omega, (OW5.out.lt b hb.2).2⟩), by show t1.length ≤ _; omega, hcu.2⟩
            obtain ⟨wU, hU, mpU, kU⟩ := put_run (MP5.out.mono (q := fun b => w1.heap.size < b ∧ b < w6.heap.size) (fun b hb => ⟨hb.1, by have := hb.2; omega⟩)) (by omega) hcu.1 (fun h => Nat.lt_irrefl _ h.1) hv
            have hld := Whole.row (P := Try.prog) (T := 73) S_told rfl ROWX.out
            unfold Whole at hld
            have MPU := Lib.hid (mpU.mono (q := fun b => w1.heap.size < b ∧ b < wU.heap.size) (fun b hb => ⟨hb.1, Nat.lt_of_lt_of_le hb.2 kU.size⟩))
            have KKU := Lib.hid (KK5.out.then kU (fun i hi h => .inr h))
            have RDU := Lib.hid (RD5.out.keep kU (fun (e : r = w1.heap.size) => by omega) (fun b hb (e : b = w1.heap.size) => by have := hb.2.1; omega))
            clear mpU kU hv
            go_wp2_with fail
            go_roundw
            case rel => exact ⟨k + 1, E ++ [((c1 : Int), (q1 : Int), t1)], s3, _, by omega, by go_num, by rw [List.length_append, List.length_singleton, hEk], by rw [aheadI_snoc], hnext, RDU.out, by rw [lastOf_snoc]; exact MPU.out, KKU.out, hps3, by show isU64 _; rw [aheadI_snoc]; exact hcu.1⟩
            case measure => simp [intOf]; omega
          · have hk1 : (0 : Int) < (k : Int) := by omega
            have hk2 : decide ((k : Int) > 0) = true := decide_eq_true hk1
            have hpe := Lib.hid (preOf_pos (E := E) (by omega))
            by_cases hca : (c1 : Int) ≤ aheadI E
            · have hno : Hid (loadP l = none) := by
                show _ = _
                unfold loadP
                rw [hs0.out]
                simp only
                rw [hq.out, show N - k = (N - (k + 1)) + 1 by omega]
                simp only [entsP]
                rw [hEnt.out, if_pos (by unfold badE; exact .inr (.inr ⟨_, hpe.out, hca⟩))]
                rfl
              have hc2 : decide ((c1 : Int) ≤ aheadI E) = true := decide_eq_true hca
              go_wp2_with fail
              go_ret
              exact load_no (mLoad_none hno.out) KB5.out.nix
            · have hc2 : decide ((c1 : Int) ≤ aheadI E) = false := decide_eq_false hca
              have HPRE : Hid (¬ ∃ b, preOf E = some b ∧ (c1 : Int) ≤ b) := fun ⟨b, hb, h⟩ => by
                rw [hpe.out] at hb; cases hb; exact hca h
              have hnext : Hid (entsP N none s0 = (entsP (N - (k + 1)) (preOf (E ++ [((c1 : Int), (q1 : Int), t1)])) s3).map (fun y => ((E ++ [((c1 : Int), (q1 : Int), t1)]) ++ y.1, y.2))) := by
                show _ = _
                rw [hq.out, show N - k = (N - (k + 1)) + 1 by omega]
                simp only [entsP]
                rw [hEnt.out, if_neg (by unfold badE; rintro (h | h | h); exact h HE3.out; exact hq0 (by simpa using h); exact HPRE.out h), preOf_snoc]
                cases entsP (N - (k + 1)) (some (c1 : Int)) s3 <;> simp
              obtain ⟨f1, f2, f3⟩ := entP_form (s := s) (by rw [hEnt.out]; exact HE3.out) (by rw [hps.out.1]; exact hpl)
              rw [hEnt.out] at f1 f2 f3
              have hps3 : Hid (s3.B = l ∧ k + 1 ≤ s3.pos ∧ s3.pos ≤ l.length) := by
                have hB := hps.out.1
                rw [hB] at f2 f3
                refine ⟨by show s3.B = l; have : s3 = _ := f1; rw [this]; exact hB, ?_, f3⟩
                have h5 := congrArg List.length f2
                simp only [List.length_drop, List.length_append] at h5
                have h6 := encE_len ((c1 : Int), (q1 : Int), t1)
                have f3' : s3.pos ≤ l.length := f3
                show k + 1 ≤ s3.pos
                omega
              clear f1 f2 f3
              have hv : RdT w6 (fun b => w1.heap.size < b ∧ b < w6.heap.size) (.agg ([.int .u64 (q1 : Int), .slice a5 t1.length c5] : List Value).toArray) (some ((q1 : Int), t1)) := ⟨a5, c5, rfl, Lies.mono (Lies.of_owned OW5.out) (fun b hb => ⟨by have := hb.1; omega, (OW5.out.lt b hb.2).2⟩), by show t1.length ≤ _; omega, hcu.2⟩
              obtain ⟨wU, hU, mpU, kU⟩ := put_run (MP5.out.mono (q := fun b => w1.heap.size < b ∧ b < w6.heap.size) (fun b hb => ⟨hb.1, by have := hb.2; omega⟩)) (by omega) hcu.1 (fun h => Nat.lt_irrefl _ h.1) hv
              have hld := Whole.row (P := Try.prog) (T := 73) S_told rfl ROWX.out
              unfold Whole at hld
              have MPU := Lib.hid (mpU.mono (q := fun b => w1.heap.size < b ∧ b < wU.heap.size) (fun b hb => ⟨hb.1, Nat.lt_of_lt_of_le hb.2 kU.size⟩))
              have KKU := Lib.hid (KK5.out.then kU (fun i hi h => .inr h))
              have RDU := Lib.hid (RD5.out.keep kU (fun (e : r = w1.heap.size) => by omega) (fun b hb (e : b = w1.heap.size) => by have := hb.2.1; omega))
              clear mpU kU hv
              go_wp2_with fail
              go_roundw
              case rel => exact ⟨k + 1, E ++ [((c1 : Int), (q1 : Int), t1)], s3, _, by omega, by go_num, by rw [List.length_append, List.length_singleton, hEk], by rw [aheadI_snoc], hnext, RDU.out, by rw [lastOf_snoc]; exact MPU.out, KKU.out, hps3, by show isU64 _; rw [aheadI_snoc]; exact hcu.1⟩
              case measure => simp [intOf]; omega
      · have te : (s3.e != 0) = true := by simp [he3]
        have hno : Hid (loadP l = none) := by
          show _ = _
          unfold loadP
          rw [hs0.out]
          simp only
          rw [hq.out, show N - k = (N - (k + 1)) + 1 by omega]
          simp only [entsP]
          rw [hEnt.out, if_pos (by unfold badE; exact .inl he3)]
          rfl
        clear he3
        go_wp2_with fail
        go_ret
        exact load_no (mLoad_none hno.out) KB5.out.nix
    · obtain rfl : k = N := by omega
      have HY : Hid (entsP k none s0 = some (E, s)) := by show _ = _; rw [hq.out, Nat.sub_self]; simp [entsP]
      have HC3 := Text_rd r _ s wr RD.out 1073741824 ⟨by decide, by decide⟩
      replace HC3 : Calls Try.prog 33 #[.pointer (some ⟨r, 0, none⟩), .int .i64 1073741824] wr fun e w' => ∃ a' cap', e = .returned (.slice a' (textS M30 s).1.length cap') ∧ w'.ownsRow wr.heap.size 5 1 (.slice a' (textS M30 s).1.length cap') (textS M30 s).1.length ((textS M30 s).1.map bv) ∧ IsRd w' 99 r (fun b => w.heap.size ≤ b ∧ b < w1.heap.size ∧ b ≠ r) (textS M30 s).2 ∧ Keep (· = r) wr w' := HC3
      have htl := textS_le M30 s
      rw [hps.out.1] at htl
      obtain ⟨d, s3, h3⟩ : ∃ d s3, Hid (textS M30 s = (d, s3)) := ⟨_, _, rfl⟩
      rw [h3.out] at HC3 htl
      replace HC3 := Lib.hid HC3
      replace htl : d.length ≤ l.length := htl
      clear hlt
      go_wp2_with fail
      go_fit HC3.out
      rintro e w3 ⟨a3, c3, rfl, own3, rd3, k3⟩
      have HC := Lib.hid (End_rd r _ s3 w3 rd3)
      have OW3 := Lib.hid own3
      have MP3 := Lib.hid (MP.out.keep k3 (fun (e : w1.heap.size = r) => by omega) (fun b hb (e : b = r) => by have := hb.1; omega))
      have KB3 := Lib.hid ((KB.out.then HKK.out (fun i hi h => (by rcases h with h | h <;> omega : False))).then k3 (fun i hi (e : i = r) => (by omega : False)))
      have hs3 := k3.size
      clear own3 rd3 k3 HC3 MP HKK RD
      go_wp2_with fail
      go_fit HC.out
      rintro e w4 ⟨rfl, k4⟩
      clear HC
      have KB4 := Lib.hid (KB3.out.trans k4)
      have hs4 := k4.size
      by_cases hend : endS s3 = 0
      · have te : (endS s3 != 0) = false := by simp [hend]
        have HLP : Hid (loadP l = some (E, d)) := by
          show _ = _
          unfold loadP
          rw [hs0.out]
          simp only
          rw [HY.out]
          simp only
          rw [h3.out]
          simp only
          rw [if_pos hend]
        obtain ⟨-, hch, -⟩ := ents_form _ _ _ _ _ (by rw [HP0.out.1]; exact HP0.out.2.2) HY.out
        have rowD := ROWD.out.keep KB4.out id
        have x0 := rowD.cell 0
        (try simp only [List.getElem?_cons_zero] at x0)
        have hmethS : ∀ w', (method 257 24 (.pointer (some ⟨bT, 0, none⟩)) "Save").run Try.prog w' = .ok (106, .pointer (some ⟨bT, 0, none⟩)) w' := fun _ => by kernel_rfl
        have hmethL : ∀ w', (method 257 24 (.pointer (some ⟨bT, 0, none⟩)) "Load").run Try.prog w' = .ok (105, .pointer (some ⟨bT, 0, none⟩)) w' := fun _ => by kernel_rfl
        have HC := Lib.hid (tSave_c bT g tp w4 (TP.out.keep KB4.out id (fun _ _ h => h)) (by omega) hL)
        have OW4 := Lib.hid (owned_keep OW3.out k4 (fun _ _ h => h))
        have MP4 := Lib.hid (MP3.out.keep k4 id (fun _ _ h => h))
        clear hend k4 rowD OW3 MP3 KB3
        go_wp2_with fail
        go_fit HC.out
        rintro e w5 ⟨a5, c5, rfl, own5, k5⟩
        have HC := Lib.hid (cl_c a5 (tapeB tp).length c5 (tapeB tp) w5 rfl (Lies.of_owned own5) (by omega))
        clear x0
        go_wp2_with fail
        go_fit HC.out
        rintro e w6 ⟨a6, c6, rfl, -, k6⟩
        have k56 := k5.trans k6
        have OW6 := Lib.hid (owned_keep OW4.out k56 (fun _ _ h => h))
        have MP6 := Lib.hid (MP4.out.keep k56 id (fun _ _ h => h))
        have KB6 := Lib.hid (KB4.out.trans k56)
        have hs6 := k56.size
        have rowD := ROWD.out.keep KB6.out id
        have x0 := rowD.cell 0
        (try simp only [List.getElem?_cons_zero] at x0)
        clear HC own5 k5 k6 k56 OW4 MP4 KB4
        go_wp2_with fail
        clear x0
        cases htd : tapeP d with
        | none =>
          have hno : Hid (mLoadF l = none) := by show _ = _; unfold mLoadF; rw [HLP.out]; simp only; rw [htd]; rfl
          have kd : Keep Nix w6 w6.drew := (Keep.refl Nix w6).drew
          have KD := Lib.hid (KB6.out.trans kd)
          have OWD := Lib.hid (owned_keep OW6.out kd (fun _ _ h => h))
          have MPD := Lib.hid (MP6.out.keep kd id (fun _ _ h => h))
          have hszd : w6.heap.size ≤ w6.drew.heap.size := kd.size
          have xd : w6.drew.cell? ⟨bD, 0, none⟩ = some (.iface 24 (.pointer (some ⟨bT, 0, none⟩))) := by simpa using (ROWD.out.keep KD.out id).cell 0
          refine wp_region_held_drew (S := (fun w' => w'.cell? ⟨bD, 0, none⟩ = some (.iface 24 (.pointer (some ⟨bT, 0, none⟩))))) (by kernel_rfl) (xd) (fun hHeld => ?_)
          clear xd kd OW6 MP6 KB6
          generalize w6.drew = wd at *
          refine wpAnyH_take (i := 0) (v := ?_) rfl (by kernel_rfl) (by kernel_rfl) (by kernel_rfl) (fun _ _ _ h => h) (Or.inl ⟨by kernel_rfl, ?_⟩) hHeld ?_
          rotate_left
          · intro w' hSw
            (try dsimp only at hSw)
            (try simp only [List.getElem_toArray]); (try simp only [List.getElem_cons_succ]); (try simp only [List.getElem_cons_zero])
            go_simp
            try with_reducible rfl
          (try simp only [Act.put]); (try simp only [List.getElem_toArray]); (try simp only [List.getElem_cons_succ]); (try simp only [List.getElem_cons_zero]); (try simp only [List.setIfInBounds_toArray]); (try simp only [List.set_cons_succ]); (try simp only [List.set_cons_zero])
          refine wpAnyH_take (i := 1) (v := ?_) rfl (by kernel_rfl) (by kernel_rfl) (by kernel_rfl) (fun _ _ _ h => h) (Or.inl ⟨by kernel_rfl, ?_⟩) hHeld ?_
          rotate_left
          · intro w' hSw
            (try dsimp only at hSw)
            (try simp only [List.getElem_toArray]); (try simp only [List.getElem_cons_succ]); (try simp only [List.getElem_cons_zero])
            go_simp
            try with_reducible rfl
          (try simp only [Act.put]); (try simp only [List.getElem_toArray]); (try simp only [List.getElem_cons_succ]); (try simp only [List.getElem_cons_zero]); (try simp only [List.setIfInBounds_toArray]); (try simp only [List.set_cons_succ]); (try simp only [List.set_cons_zero])
          refine wpAnyH_take (i := 2) (v := ?_) rfl (by kernel_rfl) (by kernel_rfl) (by kernel_rfl) (fun _ _ _ h => h) (Or.inl ⟨by kernel_rfl, ?_⟩) hHeld ?_
          rotate_left
          · intro w' hSw
            (try dsimp only at hSw)
            (try simp only [List.getElem_toArray]); (try simp only [List.getElem_cons_succ]); (try simp only [List.getElem_cons_zero])
            go_simp
            try with_reducible rfl
          (try simp only [Act.put]); (try simp only [List.getElem_toArray]); (try simp only [List.getElem_cons_succ]); (try simp only [List.getElem_cons_zero]); (try simp only [List.setIfInBounds_toArray]); (try simp only [List.set_cons_succ]); (try simp only [List.set_cons_zero])
          refine wpAnyH_take (i := 3) (v := ?_) rfl (by kernel_rfl) (by kernel_rfl) (by kernel_rfl) (fun _ _ _ h => h) (Or.inl ⟨by kernel_rfl, ?_⟩) hHeld ?_
          rotate_left
          · intro w' hSw
            (try dsimp only at hSw)
            (try simp only [List.getElem_toArray]); (try simp only [List.getElem_cons_succ]); (try simp only [List.getElem_cons_zero])
            go_simp
            try with_reducible rfl
          (try simp only [Act.put]); (try simp only [List.getElem_toArray]); (try simp only [List.getElem_cons_succ]); (try simp only [List.getElem_cons_zero]); (try simp only [List.setIfInBounds_toArray]); (try simp only [List.set_cons_succ]); (try simp only [List.set_cons_zero])
          refine wpAnyH_take (i := 4) (v := ?_) rfl (by kernel_rfl) (by kernel_rfl) (by kernel_rfl) (fun _ _ _ h => h) (Or.inl ⟨by kernel_rfl, ?_⟩) hHeld ?_
          rotate_left
          · intro w' hSw
            (try dsimp only at hSw)
            (try simp only [List.getElem_toArray]); (try simp only [List.getElem_cons_succ]); (try simp only [List.getElem_cons_zero])
            go_simp
            try with_reducible rfl
          (try simp only [Act.put]); (try simp only [List.getElem_toArray]); (try simp only [List.getElem_cons_succ]); (try simp only [List.getElem_cons_zero]); (try simp only [List.setIfInBounds_toArray]); (try simp only [List.set_cons_succ]); (try simp only [List.set_cons_zero])
          refine wpAnyH_take (i := 6) (v := ?_) rfl (by kernel_rfl) (by kernel_rfl) (by kernel_rfl) (fun _ _ _ h => h) (Or.inl ⟨by kernel_rfl, ?_⟩) hHeld ?_
          rotate_left
          · intro w' hSw
            (try dsimp only at hSw)
            (try simp only [List.getElem_toArray]); (try simp only [List.getElem_cons_succ]); (try simp only [List.getElem_cons_zero])
            go_simp
            try with_reducible rfl
          (try simp only [Act.put]); (try simp only [List.getElem_toArray]); (try simp only [List.getElem_cons_succ]); (try simp only [List.getElem_cons_zero]); (try simp only [List.setIfInBounds_toArray]); (try simp only [List.set_cons_succ]); (try simp only [List.set_cons_zero])
          refine wpAnyH_take (i := 7) (v := ?_) rfl (by kernel_rfl) (by kernel_rfl) (by kernel_rfl) (fun _ _ _ h => h) (Or.inl ⟨by kernel_rfl, ?_⟩) hHeld ?_
          rotate_left
          · intro w' hSw
            (try dsimp only at hSw)
            (try simp only [List.getElem_toArray]); (try simp only [List.getElem_cons_succ]); (try simp only [List.getElem_cons_zero])
            go_simp
            try with_reducible rfl
          (try simp only [Act.put]); (try simp only [List.getElem_toArray]); (try simp only [List.getElem_cons_succ]); (try simp only [List.getElem_cons_zero]); (try simp only [List.setIfInBounds_toArray]); (try simp only [List.set_cons_succ]); (try simp only [List.set_cons_zero])
          refine wpAnyH_ready (rs := [5]) (by kernel_rfl) (by simp) ?_
          refine AllReadyH.cons rfl (fun K hK => ?_) AllReadyH.nil
          (try simp only [List.getElem_toArray]); (try simp only [List.getElem_cons_succ]); (try simp only [List.getElem_cons_zero])
          go_simp
          go_fit (cl_c a3 d.length c3 d wd rfl (Lies.of_owned OWD.out) (by omega))
          rintro e w7 ⟨a7, c7, rfl, own7, k7⟩
          go_wp2_with fail
          refine hK.out _ _ (((ROWD.out.keep (KD.out.trans k7) id).cell 0)) (fun hHeld => ?_)
          clear hK K
          (try simp only [Act.put]); (try simp only [List.getElem_toArray]); (try simp only [List.getElem_cons_succ]); (try simp only [List.getElem_cons_zero]); (try simp only [List.setIfInBounds_toArray]); (try simp only [List.set_cons_succ]); (try simp only [List.set_cons_zero])
          refine wpAnyH_ready (rs := [8]) (by kernel_rfl) (by simp) ?_
          refine AllReadyH.cons rfl (fun K hK => ?_) AllReadyH.nil
          (try simp only [List.getElem_toArray]); (try simp only [List.getElem_cons_succ]); (try simp only [List.getElem_cons_zero])
          go_simp
          have hbd := owned_bounds own7
          have HLD := tLoad_c bT g tp a7 d.length c7 d w7 rfl (lies_lt (Lies.of_owned own7)) (fun _ h => h) (TP.out.keep (KD.out.trans k7) id (fun _ _ h => h)) (by omega) hbd.2.1 hbd.2.2
          unfold LoadPost at HLD
          rw [htd] at HLD
          go_fit HLD
          clear HLD
          rintro e w8 hpost
          obtain ⟨rfl, k8⟩ := hpost
          go_wp2_with fail
          refine hK.out _ _ (((ROWD.out.keep ((KD.out.trans k7).trans k8) id).cell 0)) (fun hHeld => ?_)
          clear hK K
          (try simp only [Act.put]); (try simp only [List.getElem_toArray]); (try simp only [List.getElem_cons_succ]); (try simp only [List.getElem_cons_zero]); (try simp only [List.setIfInBounds_toArray]); (try simp only [List.set_cons_succ]); (try simp only [List.set_cons_zero])
          refine wpAnyH_take (i := 9) (v := ?_) rfl (by kernel_rfl) (by kernel_rfl) (by kernel_rfl) (fun _ _ _ h => h) (Or.inl ⟨by kernel_rfl, ?_⟩) hHeld ?_
          rotate_left
          · intro w' hSw
            (try dsimp only at hSw)
            (try simp only [List.getElem_toArray]); (try simp only [List.getElem_cons_succ]); (try simp only [List.getElem_cons_zero])
            go_simp
            try with_reducible rfl
          (try simp only [Act.put]); (try simp only [List.getElem_toArray]); (try simp only [List.getElem_cons_succ]); (try simp only [List.getElem_cons_zero]); (try simp only [List.setIfInBounds_toArray]); (try simp only [List.set_cons_succ]); (try simp only [List.set_cons_zero])
          refine wpAnyH_done (by kernel_rfl) ?_ _
          have KF := Lib.hid ((KD.out.trans k7).trans k8)
          clear hHeld own7 k7 k8
          go_wp2_with fail
          go_ret
          exact load_no hno.out KF.out.nix
        | some L =>
          obtain ⟨hf1, hf2, hf3⟩ := tapeP_form d.length d L (Nat.le_refl _) htd
          obtain ⟨-, hEl, -, hdl, -⟩ := load_save HLP.out hf1 (lastOf_rise hch)
          have hyes : Hid (mLoadF l = some (E, L)) := by show _ = _; unfold mLoadF; rw [HLP.out]; simp only; rw [htd]; rfl
          have HF1 := Lib.hid hf1
          clear hf1 hf2 hch
          have kd : Keep Nix w6 w6.drew := (Keep.refl Nix w6).drew
          have KD := Lib.hid (KB6.out.trans kd)
          have OWD := Lib.hid (owned_keep OW6.out kd (fun _ _ h => h))
          have MPD := Lib.hid (MP6.out.keep kd id (fun _ _ h => h))
          have hszd : w6.heap.size ≤ w6.drew.heap.size := kd.size
          have xd : w6.drew.cell? ⟨bD, 0, none⟩ = some (.iface 24 (.pointer (some ⟨bT, 0, none⟩))) := by simpa using (ROWD.out.keep KD.out id).cell 0
          refine wp_region_held_drew (S := (fun w' => w'.cell? ⟨bD, 0, none⟩ = some (.iface 24 (.pointer (some ⟨bT, 0, none⟩))))) (by kernel_rfl) (xd) (fun hHeld => ?_)
          clear xd kd OW6 MP6 KB6
          generalize w6.drew = wd at *
          refine wpAnyH_take (i := 0) (v := ?_) rfl (by kernel_rfl) (by kernel_rfl) (by kernel_rfl) (fun _ _ _ h => h) (Or.inl ⟨by kernel_rfl, ?_⟩) hHeld ?_
          rotate_left
          · intro w' hSw
            (try dsimp only at hSw)
            (try simp only [List.getElem_toArray]); (try simp only [List.getElem_cons_succ]); (try simp only [List.getElem_cons_zero])
            go_simp
            try with_reducible rfl
          (try simp only [Act.put]); (try simp only [List.getElem_toArray]); (try simp only [List.getElem_cons_succ]); (try simp only [List.getElem_cons_zero]); (try simp only [List.setIfInBounds_toArray]); (try simp only [List.set_cons_succ]); (try simp only [List.set_cons_zero])
          refine wpAnyH_take (i := 1) (v := ?_) rfl (by kernel_rfl) (by kernel_rfl) (by kernel_rfl) (fun _ _ _ h => h) (Or.inl ⟨by kernel_rfl, ?_⟩) hHeld ?_
          rotate_left
          · intro w' hSw
            (try dsimp only at hSw)
            (try simp only [List.getElem_toArray]); (try simp only [List.getElem_cons_succ]); (try simp only [List.getElem_cons_zero])
            go_simp
            try with_reducible rfl
          (try simp only [Act.put]); (try simp only [List.getElem_toArray]); (try simp only [List.getElem_cons_succ]); (try simp only [List.getElem_cons_zero]); (try simp only [List.setIfInBounds_toArray]); (try simp only [List.set_cons_succ]); (try simp only [List.set_cons_zero])
          refine wpAnyH_take (i := 2) (v := ?_) rfl (by kernel_rfl) (by kernel_rfl) (by kernel_rfl) (fun _ _ _ h => h) (Or.inl ⟨by kernel_rfl, ?_⟩) hHeld ?_
          rotate_left
          · intro w' hSw
            (try dsimp only at hSw)
            (try simp only [List.getElem_toArray]); (try simp only [List.getElem_cons_succ]); (try simp only [List.getElem_cons_zero])
            go_simp
            try with_reducible rfl
          (try simp only [Act.put]); (try simp only [List.getElem_toArray]); (try simp only [List.getElem_cons_succ]); (try simp only [List.getElem_cons_zero]); (try simp only [List.setIfInBounds_toArray]); (try simp only [List.set_cons_succ]); (try simp only [List.set_cons_zero])
          refine wpAnyH_take (i := 3) (v := ?_) rfl (by kernel_rfl) (by kernel_rfl) (by kernel_rfl) (fun _ _ _ h => h) (Or.inl ⟨by kernel_rfl, ?_⟩) hHeld ?_
          rotate_left
          · intro w' hSw
            (try dsimp only at hSw)
            (try simp only [List.getElem_toArray]); (try simp only [List.getElem_cons_succ]); (try simp only [List.getElem_cons_zero])
            go_simp
            try with_reducible rfl
          (try simp only [Act.put]); (try simp only [List.getElem_toArray]); (try simp only [List.getElem_cons_succ]); (try simp only [List.getElem_cons_zero]); (try simp only [List.setIfInBounds_toArray]); (try simp only [List.set_cons_succ]); (try simp only [List.set_cons_zero])
          refine wpAnyH_take (i := 4) (v := ?_) rfl (by kernel_rfl) (by kernel_rfl) (by kernel_rfl) (fun _ _ _ h => h) (Or.inl ⟨by kernel_rfl, ?_⟩) hHeld ?_
          rotate_left
          · intro w' hSw
            (try dsimp only at hSw)
            (try simp only [List.getElem_toArray]); (try simp only [List.getElem_cons_succ]); (try simp only [List.getElem_cons_zero])
            go_simp
            try with_reducible rfl
          (try simp only [Act.put]); (try simp only [List.getElem_toArray]); (try simp only [List.getElem_cons_succ]); (try simp only [List.getElem_cons_zero]); (try simp only [List.setIfInBounds_toArray]); (try simp only [List.set_cons_succ]); (try simp only [List.set_cons_zero])
          refine wpAnyH_take (i := 6) (v := ?_) rfl (by kernel_rfl) (by kernel_rfl) (by kernel_rfl) (fun _ _ _ h => h) (Or.inl ⟨by kernel_rfl, ?_⟩) hHeld ?_
          rotate_left
          · intro w' hSw
            (try dsimp only at hSw)
            (try simp only [List.getElem_toArray]); (try simp only [List.getElem_cons_succ]); (try simp only [List.getElem_cons_zero])
            go_simp
            try with_reducible rfl
          (try simp only [Act.put]); (try simp only [List.getElem_toArray]); (try simp only [List.getElem_cons_succ]); (try simp only [List.getElem_cons_zero]); (try simp only [List.setIfInBounds_toArray]); (try simp only [List.set_cons_succ]); (try simp only [List.set_cons_zero])
          refine wpAnyH_take (i := 7) (v := ?_) rfl (by kernel_rfl) (by kernel_rfl) (by kernel_rfl) (fun _ _ _ h => h) (Or.inl ⟨by kernel_rfl, ?_⟩) hHeld ?_
          rotate_left
          · intro w' hSw
            (try dsimp only at hSw)
            (try simp only [List.getElem_toArray]); (try simp only [List.getElem_cons_succ]); (try simp only [List.getElem_cons_zero])
            go_simp
            try with_reducible rfl
          (try simp only [Act.put]); (try simp only [List.getElem_toArray]); (try simp only [List.getElem_cons_succ]); (try simp only [List.getElem_cons_zero]); (try simp only [List.setIfInBounds_toArray]); (try simp only [List.set_cons_succ]); (try simp only [List.set_cons_zero])
          refine wpAnyH_ready (rs := [5]) (by kernel_rfl) (by simp) ?_
          refine AllReadyH.cons rfl (fun K hK => ?_) AllReadyH.nil
          (try simp only [List.getElem_toArray]); (try simp only [List.getElem_cons_succ]); (try simp only [List.getElem_cons_zero])
          go_simp
          go_fit (cl_c a3 d.length c3 d wd rfl (Lies.of_owned OWD.out) (by omega))
          rintro e w7 ⟨a7, c7, rfl, own7, k7⟩
          go_wp2_with fail
          refine hK.out _ _ (((ROWD.out.keep (KD.out.trans k7) id).cell 0)) (fun hHeld => ?_)
          clear hK K
          (try simp only [Act.put]); (try simp only [List.getElem_toArray]); (try simp only [List.getElem_cons_succ]); (try simp only [List.getElem_cons_zero]); (try simp only [List.setIfInBounds_toArray]); (try simp only [List.set_cons_succ]); (try simp only [List.set_cons_zero])
          refine wpAnyH_ready (rs := [8]) (by kernel_rfl) (by simp) ?_
          refine AllReadyH.cons rfl (fun K hK => ?_) AllReadyH.nil
          (try simp only [List.getElem_toArray]); (try simp only [List.getElem_cons_succ]); (try simp only [List.getElem_cons_zero])
          go_simp
          have hbd := owned_bounds own7
          have HLD := tLoad_c bT g tp a7 d.length c7 d w7 rfl (lies_lt (Lies.of_owned own7)) (fun _ h => h) (TP.out.keep (KD.out.trans k7) id (fun _ _ h => h)) (by omega) hbd.2.1 hbd.2.2
          unfold LoadPost at HLD
          rw [htd] at HLD
          go_fit HLD
          clear HLD
          rintro e w8 hpost
          obtain ⟨rfl, gN, it8, k8, hg8⟩ := hpost
          have hDT : bD ≠ bT := PA.out.dt
          have rowD8 := (ROWD.out.keep (KD.out.trans k7) id).keep k8 hDT
          go_wp2_with fail
          refine hK.out _ _ ((rowD8.cell 0)) (fun hHeld => ?_)
          clear hK K
          (try simp only [Act.put]); (try simp only [List.getElem_toArray]); (try simp only [List.getElem_cons_succ]); (try simp only [List.getElem_cons_zero]); (try simp only [List.setIfInBounds_toArray]); (try simp only [List.set_cons_succ]); (try simp only [List.set_cons_zero])
          refine wpAnyH_take (i := 9) (v := ?_) rfl (by kernel_rfl) (by kernel_rfl) (by kernel_rfl) (fun _ _ _ h => h) (Or.inl ⟨by kernel_rfl, ?_⟩) hHeld ?_
          rotate_left
          · intro w' hSw
            (try dsimp only at hSw)
            (try simp only [List.getElem_toArray]); (try simp only [List.getElem_cons_succ]); (try simp only [List.getElem_cons_zero])
            go_simp
            try with_reducible rfl
          (try simp only [Act.put]); (try simp only [List.getElem_toArray]); (try simp only [List.getElem_cons_succ]); (try simp only [List.getElem_cons_zero]); (try simp only [List.setIfInBounds_toArray]); (try simp only [List.set_cons_succ]); (try simp only [List.set_cons_zero])
          refine wpAnyH_done (by kernel_rfl) ?_ _
          have KF8 := Lib.hid (((KD.out.trans k7).nix (S := O)).then k8 (fun i hi (e : i = bT) => e ▸ PA.out.oT))
          have OW8 := Lib.hid (owned_keep (owned_keep OWD.out k7 (fun _ _ h => h)) k8 (fun b hb (e : b = bT) => by have := (OWD.out.lt b hb).1; omega))
          have MP8 := Lib.hid ((MPD.out.keep k7 id (fun _ _ h => h)).keep k8 (fun (e : w1.heap.size = bT) => by omega) (fun b hb (e : b = bT) => by have := hb.1; omega))
          have IT8 := Lib.hid it8
          have HG8 := Lib.hid hg8
          have hs7 := k7.size
          have hs8 := k8.size
          have RW8 := Lib.hid rowD8
          have x0 := rowD8.cell 0
          (try simp only [List.getElem?_cons_zero] at x0)
          have HC := Lib.hid (tSave_c bT gN L w8 it8 (by rw [HF1.out]; omega) (by omega))
          clear hHeld own7 k7 k8 it8 hg8 rowD8 KD OWD MPD
          go_wp2_with fail
          go_fit HC.out
          rintro e w9 ⟨a9, c9, rfl, own9, k9⟩
          have HE := bEqual_c a9 a3 (tapeB L).length c9 d.length c3 (tapeB L) d w9 rfl rfl (Lies.of_owned own9) (Lies.of_owned (owned_keep OW8.out k9 (fun _ _ h => h)))
          rw [show decide (tapeB L = d) = true from decide_eq_true HF1.out] at HE
          replace HE := Lib.hid HE
          clear x0 HC own9 OW8
          go_wp2_with fail
          go_fit HE.out
          rintro e w10 ⟨rfl, rfl⟩
          have rowD9 := RW8.out.keep k9 id
          have x1 := rowD9.cell 1
          have f1 := rowD9.frozen 1
          (try simp only [List.getElem?_cons_succ] at x1); (try simp only [List.getElem?_cons_zero] at x1)
          have RW9 := Lib.hid rowD9
          have KF9 := Lib.hid (KF8.out.trans k9.nix)
          have MP9 := Lib.hid (MP8.out.keep k9 id (fun _ _ h => h))
          have IT9 := Lib.hid (IT8.out.keep k9 id (fun _ _ h => h))
          have hs9 := k9.size
          clear rowD9 k9 HE MP8 IT8 KF8 RW8
          go_wp2_with fail
          clear x1 f1
          have kS : Keep (· = bD) w9 (w9.setCell ⟨bD, 1, none⟩ (.map (some w1.heap.size))) := (Keep.refl (· = bD) w9).setCell (p := ⟨bD, 1, none⟩) (fun _ => rfl) _
          have rowF := RW9.out.set 1 (.map (some w1.heap.size))
          (try simp only [List.set_cons_succ] at rowF); (try simp only [List.set_cons_zero] at rowF)
          have HRF := Lib.hid rowF
          clear rowF
          go_ret
          unfold MLoadPost
          rw [hyes.out]
          have hsS := kS.size
          have hgN : ∀ b, gN = some b → w.heap.size ≤ b ∧ wr.heap.size ≤ b ∧ b < w9.heap.size := fun b hb => by have h1 := HG8.out b hb; have h2 := IT9.out.glt b hb; exact ⟨by omega, by omega, h2⟩
          refine ⟨rfl, fun b => O b ∨ (w.heap.size ≤ b ∧ b < (w9.setCell ⟨bD, 1, none⟩ (.map (some w1.heap.size))).heap.size), ⟨fun b hb => hb.elim (fun h => by have := HLT.out b h; omega) (·.2), w1.heap.size, gN, D, HRF.out, IT9.out.keep kS (fun (e : bT = bD) => PA.out.dt e.symm) (fun b hb (e : b = bD) => by have := hgN b hb; omega), ⟨.inl PA.out.oD, .inl PA.out.oT, .inr ⟨by omega, by omega⟩, fun b hb => .inr ⟨(hgN b hb).1, by have := hgN b hb; omega⟩, PA.out.dt, by omega, by omega, fun e => by have := hgN _ e; omega, fun e => by have := hgN _ e; omega, fun e => by have := hgN _ e; omega⟩, ?_⟩, KF9.out.then kS (fun i hi (e : i = bD) => e ▸ PA.out.oD), fun b hb => hb.imp id (·.1)⟩
          show MapIs _ _ _ E.length D (lastOf E)
          rw [hEk]
          refine (MP9.out.keep kS (fun (e : w1.heap.size = bD) => by omega) (fun b hb (e : b = bD) => by have := hb.1; omega)).mono (fun b hb => ⟨.inr ⟨by have := hb.1; omega, by have := hb.2; omega⟩, by have := hb.1; omega, by have := hb.1; omega, by have := hb.1; omega, fun e => by have := hgN b e; have := hb.2; omega⟩)
      · have te : (endS s3 != 0) = true := by simp [hend]
        have hno : Hid (loadP l = none) := by
          show _ = _
          unfold loadP
          rw [hs0.out]
          simp only
          rw [HY.out]
          simp only
          rw [h3.out]
          simp only
          rw [if_neg hend]
        clear hend
        go_wp2_with fail
        go_ret
        exact load_no (mLoad_none hno.out) KB4.out.nix
end
end Go.Proofs.Ythchpdflnpfjkaa
