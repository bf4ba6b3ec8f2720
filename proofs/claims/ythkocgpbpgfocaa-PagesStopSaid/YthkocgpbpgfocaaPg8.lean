/- PAGES: find. Printed by mac.py. -/
import Derived.Test.YthkocgpbpgfocaaPg7
namespace Go.Proofs.Ythkocgpbpgfocaa
open Go.RowKit

def ltP (x y : GPair) : Prop := ltB x.fKey y.fKey = true
def RisingL (L : List (List GPair)) : Prop := L.flatten.Pairwise ltP
structure FindP (L : List (List GPair)) (key : List UInt8) (i k : Nat) (is : Bool) : Prop where
  hi : i < L.length
  hk : k ≤ L[i].length
  lo : ∀ x ∈ (L.take i).flatten ++ L[i].take k, ltB x.fKey key = true
  up : ∀ x ∈ L[i].drop k ++ (L.drop (i + 1)).flatten, ltB x.fKey key = false
  yes : is = true → ∃ h : k < L[i].length, L[i][k].fKey = key
  no : is = false → ∀ x ∈ L.flatten, x.fKey ≠ key
theorem mem_take_flat {L : List (List GPair)} {i : Nat} {x : GPair} (h : x ∈ (L.take i).flatten) : ∃ j, ∃ hj : j < L.length, j < i ∧ x ∈ L[j] := by
  obtain ⟨l, hl, hx⟩ := List.mem_flatten.1 h
  obtain ⟨j, hj, rfl⟩ := List.mem_iff_getElem.1 hl
  rw [List.length_take] at hj
  exact ⟨j, by omega, by omega, by rw [List.getElem_take] at hx; exact hx⟩
theorem mem_drop_flat {L : List (List GPair)} {i : Nat} {x : GPair} (h : x ∈ (L.drop i).flatten) : ∃ j, ∃ hj : j < L.length, i ≤ j ∧ x ∈ L[j] := by
  obtain ⟨l, hl, hx⟩ := List.mem_flatten.1 h
  obtain ⟨j, hj, rfl⟩ := List.mem_iff_getElem.1 hl
  rw [List.length_drop] at hj
  exact ⟨i + j, by omega, by omega, by rw [List.getElem_drop] at hx; exact hx⟩
theorem mem_flat {L : List (List GPair)} {x : GPair} (h : x ∈ L.flatten) : ∃ j, ∃ hj : j < L.length, x ∈ L[j] := by
  obtain ⟨l, hl, hx⟩ := List.mem_flatten.1 h
  obtain ⟨j, hj, rfl⟩ := List.mem_iff_getElem.1 hl
  exact ⟨j, hj, hx⟩
theorem RisingL.page {L : List (List GPair)} (h : RisingL L) {i : Nat} (hi : i < L.length) : L[i].Pairwise ltP := (List.pairwise_flatten.1 h).1 _ (List.getElem_mem hi)
theorem RisingL.across {L : List (List GPair)} (h : RisingL L) {i j : Nat} (hj : j < L.length) (hij : i < j) {x y : GPair} (hx : x ∈ L[i]'(by omega)) (hy : y ∈ L[j]) : ltB x.fKey y.fKey = true :=
  List.pairwise_iff_getElem.1 (List.pairwise_flatten.1 h).2 i j (by omega) hj hij x hx y hy
theorem RisingL.keys {L : List (List GPair)} (h : RisingL L) {i : Nat} (hi : i < L.length) : Rising (L[i].map (·.fKey)) := by
  unfold Rising; rw [List.pairwise_map]; exact h.page hi
theorem RisingL.firsts {L : List (List GPair)} (h : RisingL L) (hne : ∀ l ∈ L, 0 < l.length) : Rising (L.map keyOf) := by
  unfold Rising
  rw [List.pairwise_iff_getElem]
  intro i j hi hj hij
  rw [List.length_map] at hi hj
  rw [List.getElem_map, List.getElem_map, keyOf_at (hne _ (List.getElem_mem hi)), keyOf_at (hne _ (List.getElem_mem hj))]
  exact h.across hj hij (List.getElem_mem _) (List.getElem_mem _)
theorem first_le {L : List (List GPair)} (h : RisingL L) {i : Nat} (hi : i < L.length) (h0 : 0 < L[i].length) {x : GPair} (hx : x ∈ L[i]) : ltB x.fKey (L[i][0]).fKey = false := by
  obtain ⟨q, hq, rfl⟩ := List.mem_iff_getElem.1 hx
  rcases Nat.eq_zero_or_pos q with e | e
  · subst e; exact ltB_irrefl _
  · exact ltB_asymm (List.pairwise_iff_getElem.1 (h.page hi) 0 q h0 hq e)
theorem find_plain {L : List (List GPair)} {key : List UInt8} {i0 k : Nat} (h : RisingL L) (hne : ∀ l ∈ L, 0 < l.length) (hL : 0 < L.length) (h0 : Lower (L.map keyOf) key i0) {i : Nat} (hi0 : i = if foundB (L.map keyOf) key i0 then i0 else i0 - 1) (hi : i < L.length) (h1 : Lower (L[i].map (·.fKey)) key k) :
    FindP L key i k (foundB (L[i].map (·.fKey)) key k) := by
  have hp := fun j (hj : j < L.length) => hne _ (List.getElem_mem hj)
  have hf : ∀ j (hj : j < L.length), (L.map keyOf)[j]'(by rw [List.length_map]; exact hj) = ((L[j]'hj)[0]'(hp j hj)).fKey := fun j hj => by rw [List.getElem_map, keyOf_at (hp j hj)]
  obtain ⟨a1, a2, a3⟩ := h0
  rw [List.length_map] at a1
  have H : (i = 0 ∨ ltB key ((L[i])[0]'(hp i hi)).fKey = false) ∧ ∀ h : i + 1 < L.length, ltB key ((L[i + 1])[0]'(hp (i + 1) h)).fKey = true := by
    cases hfb : foundB (L.map keyOf) key i0 with
    | true =>
      rw [hfb, if_pos rfl] at hi0
      subst hi0
      have e : ((L[i])[0]'(hp i hi)).fKey = key := by
        unfold foundB at hfb
        rw [List.getElem?_eq_getElem (by rw [List.length_map]; exact hi), hf i hi] at hfb
        exact of_decide_eq_true hfb
      exact ⟨.inr (by rw [e]; exact ltB_irrefl _), fun h2 => by rw [← e]; exact h.across h2 (Nat.lt_succ_self _) (List.getElem_mem _) (List.getElem_mem _)⟩
    | false =>
      rw [hfb, if_neg (by decide)] at hi0
      have hg : ∀ h2 : i0 < L.length, ltB key ((L[i0])[0]'(hp i0 h2)).fKey = true := fun h2 => by
        have b1 := a3 i0 (by rw [List.length_map]; exact h2) (Nat.le_refl _)
        rw [hf i0 h2] at b1
        cases b2 : ltB key ((L[i0])[0]'(hp i0 h2)).fKey with
        | true => rfl
        | false =>
          have b3 := ltB_total b1 b2
          unfold foundB at hfb
          rw [List.getElem?_eq_getElem (by rw [List.length_map]; exact h2), hf i0 h2] at hfb
          exact absurd b3 (of_decide_eq_false hfb)
      rcases Nat.eq_zero_or_pos i0 with e | e
      · subst e
        subst hi0
        exact ⟨.inl rfl, fun h2 => ltB_trans (hg hL) (h.across h2 (by omega) (List.getElem_mem _) (List.getElem_mem _))⟩
      · refine ⟨.inr ?_, fun h2 => ?_⟩
        · have b1 := a2 i (by rw [List.length_map]; exact hi) (by omega)
          rw [hf i hi] at b1
          exact ltB_asymm b1
        · have e2 : i + 1 = i0 := by omega
          subst e2
          exact hg h2
  obtain ⟨H1, H3⟩ := H
  obtain ⟨b1, b2, b3⟩ := h1
  rw [List.length_map] at b1
  have lo1 : ∀ j (hj : j < L.length), j < i → ∀ x ∈ L[j], ltB x.fKey key = true := fun j hj hji x hx => by
    rcases H1 with H1 | H1
    · omega
    · exact ltB_lt_ge (h.across hi hji hx (List.getElem_mem (hp i hi))) H1
  have up1 : ∀ j (hj : j < L.length), i + 1 ≤ j → ∀ x ∈ L[j], ltB key x.fKey = true := fun j hj hji x hx => by
    have c1 := H3 (by omega)
    by_cases e : j = i + 1
    · subst e
      exact ltB_lt_ge c1 (first_le h hj (hp _ hj) hx)
    · exact ltB_trans c1 (h.across hj (by omega) (List.getElem_mem (hp (i + 1) (by omega))) hx)
  refine ⟨hi, b1, fun x hx => ?_, fun x hx => ?_, fun hy => ?_, fun hn x hx e => ?_⟩
  · rcases List.mem_append.1 hx with hx | hx
    · obtain ⟨j, hj, hji, hx⟩ := mem_take_flat hx
      exact lo1 j hj hji x hx
    · obtain ⟨q, hq, rfl⟩ := List.mem_iff_getElem.1 hx
      rw [List.length_take] at hq
      have := b2 q (by rw [List.length_map]; omega) (by omega)
      rw [List.getElem_map] at this
      rw [List.getElem_take]
      exact this
  · rcases List.mem_append.1 hx with hx | hx
    · obtain ⟨q, hq, rfl⟩ := List.mem_iff_getElem.1 hx
      rw [List.length_drop] at hq
      have := b3 (k + q) (by rw [List.length_map]; omega) (by omega)
      rw [List.getElem_map] at this
      rw [List.getElem_drop]
      exact this
    · obtain ⟨j, hj, hji, hx⟩ := mem_drop_flat hx
      exact ltB_asymm (up1 j hj hji x hx)
  · unfold foundB at hy
    by_cases hk : k < L[i].length
    · rw [List.getElem?_eq_getElem (by rw [List.length_map]; exact hk), List.getElem_map] at hy
      exact ⟨hk, of_decide_eq_true hy⟩
    · rw [List.getElem?_eq_none (by rw [List.length_map]; omega)] at hy
      cases hy
  · obtain ⟨j, hj, hx⟩ := mem_flat hx
    rcases Nat.lt_trichotomy j i with hji | hji | hji
    · have := lo1 j hj hji x hx
      rw [e, ltB_irrefl] at this
      cases this
    · subst hji
      obtain ⟨q, hq, rfl⟩ := List.mem_iff_getElem.1 hx
      rcases Nat.lt_trichotomy q k with hqk | hqk | hqk
      · have := b2 q (by rw [List.length_map]; exact hq) hqk
        rw [List.getElem_map, e, ltB_irrefl] at this
        cases this
      · subst hqk
        unfold foundB at hn
        rw [List.getElem?_eq_getElem (by rw [List.length_map]; exact hq), List.getElem_map] at hn
        exact of_decide_eq_false hn e
      · have c1 := List.pairwise_iff_getElem.1 (h.page hj) k q (by omega) hq hqk
        have c2 := b3 k (by rw [List.length_map]; omega) (Nat.le_refl _)
        rw [List.getElem_map] at c2
        unfold ltP at c1
        rw [e, c2] at c1
        cases c1
    · have := up1 j hj hji x hx
      rw [e, ltB_irrefl] at this
      cases this
def rPages : RD (List (List GPair)) := rList (rList rGPair)
theorem rPages_lawful : Lawful rPages 1 := rList_lawful (rList_lawful rGPair_lawful)
def FindR (L : List (List GPair)) (key : List UInt8) (w : World) (e : Ending) (w' : World) : Prop := ∃ (i k : Nat) (is : Bool), e = .returned (.tuple #[.int .i64 i, .int .i64 k, .bool is]) ∧ FindP L key i k is ∧ Keep Nix w w'
set_option maxRecDepth 100000 in
set_option maxHeartbeats 2000000 in
theorem find_c {p q : Nat → Prop} (g : Nat) (aP b : Option Addr) (cP cb : Nat) (L : List (List GPair)) (key : List UInt8) (w : World) (row : RowIs w g 65 [.slice aP L.length cP]) (hl : rPages w p [.slice aP L.length cP] L) (hne : ∀ l ∈ L, 0 < l.length) (hr : RisingL L) (hL : 0 < L.length) (hk : Lies w q b (key.map bv)) :
    Calls Try.prog 31 #[.pointer (some ⟨g, 0, none⟩), .slice b key.length cb] w (FindR L key w) := by
  have hfar : L.length ≤ 140737488351232 := by have := (rList_len hl).2.2; have := far_len; omega
  have hl0 : ((L.length : Int) == 0) = false := by simp only [beq_eq_false_iff_ne]; omega
  have HL := Lib.hid hl
  have hcall := bs1_c aP b L.length cP cb L key w hl hne (hr.firsts hne) hk
  have x0 := row.cell 0
  (try simp only [List.getElem?_cons_zero] at x0)
  have HR := Lib.hid hr
  have HNE := Lib.hid hne
  clear hl hne hr
  go_enter Try.func31, Try.ntmps31
  go_wp2_with fail
  go_fit hcall
  clear hcall
  rintro e w1 ⟨i0, rfl, hlow, k1⟩
  have HLo := Lib.hid hlow
  have hi0 : i0 ≤ L.length := by have := hlow.1; rw [List.length_map] at this; exact this
  obtain ⟨f0, hf0⟩ : ∃ f, foundB (L.map keyOf) key i0 = f := ⟨_, rfl⟩
  have HF0 := Lib.hid hf0
  have hf0i : f0 = true → i0 < L.length := fun h => by
    rw [← hf0] at h
    unfold foundB at h
    by_cases hx : i0 < L.length
    · exact hx
    · rw [List.getElem?_eq_none (by rw [List.length_map]; omega)] at h; cases h
  rw [hf0]
  replace row := row.keep k1 id
  clear x0 hlow hf0
  obtain ⟨i, hi⟩ : ∃ i, i = if f0 then i0 else i0 - 1 := ⟨_, rfl⟩
  have hiL : i < L.length := by
    cases f0 with
    | true => rw [hi]; exact hf0i rfl
    | false => rw [hi]; show i0 - 1 < L.length; omega
  have HI := Lib.hid hi
  clear hi
  go_upto_if 30 with fail
  go_cut [7] from 7 to 48 (fun s7 wx => s7 = .int .i64 (i : Int) ∧ w1 = wx)
  case first =>
    as_aux_lemma =>
    cases f0 with
    | true =>
      have e : i = i0 := HI.out
      clear HI
      subst e
      go_wp2_with fail
      go_meet
      exact ⟨rfl, rfl⟩
    | false =>
      have e : i = i0 - 1 := HI.out
      have hw : IntKind.i64.wrap ((i0 : Int) - 1) = (i0 : Int) - 1 := by unfold IntKind.wrap; simp [IntKind.bits, IntKind.signed]; omega
      clear HI
      go_wp2_with fail
      all_goals
        go_meet
        exact ⟨congrArg (Value.int .i64) (by omega), rfl⟩
  case rest =>
  obtain ⟨rfl, rfl⟩ := hcut
  have x0 := row.cell 0
  (try simp only [List.getElem?_cons_zero] at x0)
  have hii0 : (0 : Int) ≤ (i : Int) := by omega
  have hii1 : (i : Int) < (L.length : Int) := by omega
  obtain ⟨ba, oa, _, _, e1, -, hba, xr, xc⟩ := rList_at (rList_lawful rGPair_lawful) (by decide) (rPages_lawful.nix HL.out k1) i hiL
  simp only [List.cons.injEq, Value.slice.injEq, and_true] at e1
  obtain ⟨rfl, -, rfl⟩ := e1
  obtain ⟨a1, c1, css1, hcc, hrr⟩ := xr
  subst hcc
  have xr : rList rGPair w1 p [.slice a1 L[i].length c1] L[i] := ⟨a1, c1, css1, rfl, hrr⟩
  have y0 := xc 0 _ rfl
  (try simp only [Nat.mul_one, Nat.add_zero] at y0)
  have hcall := bs2_c a1 b L[i].length c1 cb L[i] key w1 xr (HR.out.keys hiL) (hk.keep k1 (fun _ _ h => h))
  clear hrr xc xr
  go_wp2_with fail
  go_fit hcall
  clear hcall
  rintro e w2 ⟨k, rfl, hlow2, k2⟩
  have HP := Lib.hid (find_plain HR.out HNE.out hL HLo.out (by rw [HF0.out]; exact HI.out) hiL hlow2)
  clear x0 y0 hlow2
  obtain ⟨is, his⟩ : ∃ is, foundB (L[i].map (·.fKey)) key k = is := ⟨_, rfl⟩
  rw [his] at HP ⊢
  clear his
  go_wp2_with fail
  go_ret3
  exact ⟨i, k, is, rfl, HP.out, k1.trans k2⟩
end Go.Proofs.Ythkocgpbpgfocaa
