/- PAGES: a key's place: the two searches; find. Printed by mac.py. -/
import Derived.Test.YthkocgpbpgfocaaPg3
import Derived.Test.YthkocgpbpgfocaaOpens
import Derived.Test.YthkocgpbpgfocaaOrd
namespace Go.Proofs.Ythkocgpbpgfocaa
open Go.RowKit

theorem find1_c {p q : Nat → Prop} (a b : Option Addr) (n c cb : Nat) (l : List GPair) (key : List UInt8) (w : World) (hl : rList rGPair w p [.slice a n c] l) (h0 : 0 < l.length) (hk : Lies w q b (key.map bv)) :
    Calls Try.prog 44 #[.slice a n c, .slice b key.length cb] w fun e w' => e = .returned (.int .i64 (Lib.compareBytes (l[0]).fKey key)) ∧ w = w' := by
  have hn := (rList_len hl).1
  obtain ⟨ba, oa, _, _, e1, -, hba, xr, xc⟩ := rList_at rGPair_lawful (by decide) hl 0 h0
  simp only [List.cons.injEq, Value.slice.injEq, and_true] at e1
  obtain ⟨rfl, -, rfl⟩ := e1
  generalize l[0] = x at *
  obtain ⟨aK, cK, aV, cV, rfl, hK, -⟩ := rGPair_open xr
  have x0 := xc 0 _ rfl
  (try simp only [Nat.zero_mul, Nat.add_zero] at x0)
  have hi : (0 : Int) < (n : Int) := by omega
  have hcall := cmpB_c aK b x.fKey.length cK key.length cb x.fKey key w rfl rfl hK.1 hk
  generalize Lib.compareBytes x.fKey key = m at *
  clear xr xc hK hk hl
  go_enter Try.func44, Try.ntmps44
  go_wp2_with fail
  go_fit hcall
  rintro e w' ⟨rfl, rfl⟩
  go_wp2_with fail
  go_ret
  exact ⟨rfl, rfl⟩
theorem find2_c {p q : Nat → Prop} (x : GPair) (cs : List Value) (b : Option Addr) (cb : Nat) (key : List UInt8) (w : World) (hx : rGPair w p cs x) (hk : Lies w q b (key.map bv)) :
    Calls Try.prog 47 #[.agg cs.toArray, .slice b key.length cb] w fun e w' => e = .returned (.int .i64 (Lib.compareBytes x.fKey key)) ∧ Keep Nix w w' := by
  obtain ⟨aK, cK, aV, cV, rfl, hK, -⟩ := rGPair_open hx
  have kk : Keep Nix w (w.alloc (.cells #[.slice aK x.fKey.length cK, .slice aV x.fValue.length cV, .int .i64 x.fVersion] 29)) := (Keep.refl Nix w).alloc _
  have row := RowIs.alloc w #[.slice aK x.fKey.length cK, .slice aV x.fValue.length cV, .int .i64 x.fVersion] 29
  have x0 := row.cell 0
  (try simp only [List.getElem?_cons_zero] at x0)
  have hcall := cmpB_c aK b x.fKey.length cK key.length cb x.fKey key _ rfl rfl (hK.1.keep kk (fun _ _ h => h)) (hk.keep kk (fun _ _ h => h))
  generalize Lib.compareBytes x.fKey key = m at *
  clear hK hk hx row
  go_enter Try.func47, Try.ntmps47
  go_wp2_with fail
  go_fit hcall
  rintro e w' ⟨rfl, rfl⟩
  go_wp2_with fail
  go_ret
  exact ⟨rfl, kk⟩
def keyOf (l : List GPair) : List UInt8 := match l with
  | x :: _ => x.fKey
  | [] => []
theorem keyOf_at {l : List GPair} (h : 0 < l.length) : keyOf l = l[0].fKey := by
  cases l with
  | nil => simp at h
  | cons _ _ => rfl
set_option maxRecDepth 100000 in
set_option maxHeartbeats 2000000 in
theorem bs1_c {p q : Nat → Prop} (a b : Option Addr) (n c cb : Nat) (L : List (List GPair)) (key : List UInt8) (w : World) (hl : rList (rList rGPair) w p [.slice a n c] L) (hne : ∀ l ∈ L, 0 < l.length) (hs : Rising (L.map keyOf)) (hk : Lies w q b (key.map bv)) :
    Calls Try.prog 43 #[.slice a n c, .slice b key.length cb, .func (.func 44) #[] #[]] w fun e w' => ∃ i : Nat, e = .returned (.tuple #[.int .i64 i, .bool (foundB (L.map keyOf) key i)]) ∧ Lower (L.map keyOf) key i ∧ Keep Nix w w' := by
  obtain ⟨hn, -, hf⟩ := rList_len hl
  subst hn
  have hfar : L.length ≤ 140737488351232 := by have := far_len; omega
  have HS := Lib.hid hs
  have HN := Lib.hid hne
  clear hs hf hne
  go_enter Try.func43, Try.ntmps43
  go_wp2_with fail
  go_loopw [9, 10] (fun i j wr => ∃ x y : Nat, x ≤ y ∧ y ≤ L.length ∧ i = .int .i64 x ∧ j = .int .i64 y ∧ Hid ((∀ q (h : q < (L.map keyOf).length), q < x → ltB (L.map keyOf)[q] key = true) ∧ ∀ q (h : q < (L.map keyOf).length), y ≤ q → ltB (L.map keyOf)[q] key = false) ∧ Keep Nix w wr) (fun i j _ => (intOf j).toNat - (intOf i).toNat)
  case atStart => exact ⟨0, L.length, by omega, by omega, rfl, rfl, ⟨fun q _ h => absurd h (Nat.not_lt_zero _), fun q h1 h2 => by rw [List.length_map] at h1; omega⟩, Keep.refl _ _⟩
  case round =>
    obtain ⟨x, y, hxy, hy, rfl, rfl, HI, kk⟩ := hrel
    by_cases hlt : x < y
    · have hi1 : (x : Int) < (y : Int) := by omega
      have hw1 : IntKind.i64.wrap ((x : Int) + (y : Int)) = (x : Int) + (y : Int) := by unfold IntKind.wrap; simp [IntKind.bits, IntKind.signed]; omega
      obtain ⟨m, hm⟩ : ∃ m : Nat, ((x : Int) + (y : Int)) / 2 = (m : Int) := ⟨(x + y) / 2, by omega⟩
      have hm1 : x ≤ m ∧ m < y := by omega
      have hmL : m < L.length := by omega
      have hmi0 : (0 : Int) ≤ (m : Int) := by omega
      have hmi1 : (m : Int) < (L.length : Int) := by omega
      have hwm : IntKind.i64.wrap ((m : Int) + 1) = (m : Int) + 1 := by unfold IntKind.wrap; simp [IntKind.bits, IntKind.signed]; omega
      obtain ⟨ba, oa, _, _, e1, -, hba, xr, xc⟩ := rList_at (rList_lawful rGPair_lawful) (by decide) ((rList_lawful (rList_lawful rGPair_lawful)).nix hl kk) m hmL
      simp only [List.cons.injEq, Value.slice.injEq, and_true] at e1
      obtain ⟨rfl, -, rfl⟩ := e1
      have h0 := HN.out L[m] (List.getElem_mem hmL)
      obtain ⟨a1, c1, css1, hcc, hrr⟩ := xr
      subst hcc
      have xr : rList rGPair wr p [.slice a1 L[m].length c1] L[m] := ⟨a1, c1, css1, rfl, hrr⟩
      have x0 := xc 0 _ rfl
      (try simp only [Nat.mul_one, Nat.add_zero] at x0)
      clear hrr xc
      have hkm : (L.map keyOf)[m]'(by rw [List.length_map]; exact hmL) = keyOf L[m] := List.getElem_map _
      have hcall := find1_c a1 b L[m].length c1 cb L[m] key wr xr h0 (hk.keep kk (fun _ _ h => h))
      have hlt2 := cmp_lt (L[m][0].fKey) key
      rw [← keyOf_at h0, ← hkm] at hcall hlt2
      have HK := Lib.hid hkm
      clear hkm xr h0
      generalize Lib.compareBytes ((L.map keyOf)[m]'(by rw [List.length_map]; exact hmL)) key = z at *
      cases hv : ltB ((L.map keyOf)[m]'(by rw [List.length_map]; exact hmL)) key with
      | true =>
        have hz : z < 0 := by rw [hv] at hlt2; simpa using hlt2
        have HI2 : Hid ((∀ q (h : q < (L.map keyOf).length), q < m + 1 → ltB (L.map keyOf)[q] key = true) ∧ ∀ q (h : q < (L.map keyOf).length), y ≤ q → ltB (L.map keyOf)[q] key = false) :=
          ⟨fun q h h2 => by
            by_cases e : q = m
            · subst e; exact hv
            · exact ltB_trans (HS.out.lt (by rw [List.length_map]; exact hmL) (by omega)) hv, HI.out.2⟩
        clear hlt2 hv
        go_wp2_with fail
        go_fit hcall
        rintro e w2 ⟨rfl, rfl⟩
        clear hcall
        go_wp2_with fail
        go_roundw
        case rel => exact ⟨m + 1, y, by omega, hy, by go_num, rfl, HI2.out, kk⟩
        case measure => simp [intOf]; omega
      | false =>
        have hz : 0 ≤ z := by rw [hv] at hlt2; simpa using hlt2
        have HI2 : Hid ((∀ q (h : q < (L.map keyOf).length), q < x → ltB (L.map keyOf)[q] key = true) ∧ ∀ q (h : q < (L.map keyOf).length), m ≤ q → ltB (L.map keyOf)[q] key = false) :=
          ⟨HI.out.1, fun q h h2 => by
            by_cases e : q = m
            · subst e; exact hv
            · cases h3 : ltB (L.map keyOf)[q] key with
              | false => rfl
              | true => rw [ltB_trans (HS.out.lt h (show m < q by omega)) h3] at hv; cases hv⟩
        clear hlt2 hv
        go_wp2_with fail
        go_fit hcall
        rintro e w2 ⟨rfl, rfl⟩
        clear hcall
        go_wp2_with fail
        go_roundw
        case rel => exact ⟨x, m, by omega, by omega, rfl, rfl, HI2.out, kk⟩
        case measure => simp [intOf]; omega
    · obtain rfl : x = y := by omega
      have HLo : Hid (Lower (L.map keyOf) key x) := ⟨by rw [List.length_map]; exact hy, HI.out.1, HI.out.2⟩
      clear HI
      by_cases hx : x < L.length
      · have hi1 : (x : Int) < (L.length : Int) := by omega
        have hi0 : (0 : Int) ≤ (x : Int) := by omega
        obtain ⟨ba, oa, _, _, e1, -, hba, xr, xc⟩ := rList_at (rList_lawful rGPair_lawful) (by decide) ((rList_lawful (rList_lawful rGPair_lawful)).nix hl kk) x hx
        simp only [List.cons.injEq, Value.slice.injEq, and_true] at e1
        obtain ⟨rfl, -, rfl⟩ := e1
        have h0 := HN.out L[x] (List.getElem_mem hx)
        obtain ⟨a1, c1, css1, hcc, hrr⟩ := xr
        subst hcc
        have xr : rList rGPair wr p [.slice a1 L[x].length c1] L[x] := ⟨a1, c1, css1, rfl, hrr⟩
        have x0 := xc 0 _ rfl
        (try simp only [Nat.mul_one, Nat.add_zero] at x0)
        clear hrr xc
        have hF : Hid (foundB (L.map keyOf) key x = decide (L[x][0].fKey = key)) := by
          show _ = _
          unfold foundB
          rw [List.getElem?_eq_getElem (by rw [List.length_map]; exact hx), List.getElem_map, keyOf_at h0]
        have hcall := find1_c a1 b L[x].length c1 cb L[x] key wr xr h0 (hk.keep kk (fun _ _ h => h))
        have he := cmp_eq (L[x][0].fKey) key
        rw [← hF.out] at he
        generalize Lib.compareBytes (L[x][0].fKey) key = z at *
        have HE := Lib.hid he
        clear hF xr h0 he
        go_wp2_with fail
        go_fit hcall
        rintro e w2 ⟨rfl, rfl⟩
        clear hcall
        go_wp2_with fail
        go_ret2
        exact ⟨x, by rw [← HE.out]; rfl, HLo.out, kk⟩
      · have hi1 : (L.length : Int) ≤ (x : Int) := by omega
        have hF : Hid (foundB (L.map keyOf) key x = false) := by
          show _ = _
          unfold foundB
          rw [List.getElem?_eq_none (by rw [List.length_map]; omega)]
        go_wp2_with fail
        go_ret2
        exact ⟨x, by rw [hF.out]; rfl, HLo.out, kk⟩
set_option maxRecDepth 100000 in
set_option maxHeartbeats 2000000 in
theorem bs2_c {p q : Nat → Prop} (a b : Option Addr) (n c cb : Nat) (L : List GPair) (key : List UInt8) (w : World) (hl : rList rGPair w p [.slice a n c] L) (hs : Rising (L.map (·.fKey))) (hk : Lies w q b (key.map bv)) :
    Calls Try.prog 46 #[.slice a n c, .slice b key.length cb, .func (.func 47) #[] #[]] w fun e w' => ∃ i : Nat, e = .returned (.tuple #[.int .i64 i, .bool (foundB (L.map (·.fKey)) key i)]) ∧ Lower (L.map (·.fKey)) key i ∧ Keep Nix w w' := by
  obtain ⟨hn, -, hf⟩ := rList_len hl
  subst hn
  have hfar : L.length ≤ 140737488351232 := by have := far_len; omega
  have HS := Lib.hid hs
  clear hs hf
  go_enter Try.func46, Try.ntmps46
  go_wp2_with fail
  go_loopw [9, 10] (fun i j wr => ∃ x y : Nat, x ≤ y ∧ y ≤ L.length ∧ i = .int .i64 x ∧ j = .int .i64 y ∧ Hid ((∀ q (h : q < (L.map (·.fKey)).length), q < x → ltB (L.map (·.fKey))[q] key = true) ∧ ∀ q (h : q < (L.map (·.fKey)).length), y ≤ q → ltB (L.map (·.fKey))[q] key = false) ∧ Keep Nix w wr) (fun i j _ => (intOf j).toNat - (intOf i).toNat)
  case atStart => exact ⟨0, L.length, by omega, by omega, rfl, rfl, ⟨fun q _ h => absurd h (Nat.not_lt_zero _), fun q h1 h2 => by rw [List.length_map] at h1; omega⟩, Keep.refl _ _⟩
  case round =>
    obtain ⟨x, y, hxy, hy, rfl, rfl, HI, kk⟩ := hrel
    by_cases hlt : x < y
    · have hi1 : (x : Int) < (y : Int) := by omega
      have hw1 : IntKind.i64.wrap ((x : Int) + (y : Int)) = (x : Int) + (y : Int) := by unfold IntKind.wrap; simp [IntKind.bits, IntKind.signed]; omega
      obtain ⟨m, hm⟩ : ∃ m : Nat, ((x : Int) + (y : Int)) / 2 = (m : Int) := ⟨(x + y) / 2, by omega⟩
      have hm1 : x ≤ m ∧ m < y := by omega
      have hmL : m < L.length := by omega
      have hmi0 : (0 : Int) ≤ (m : Int) := by omega
      have hmi1 : (m : Int) < (L.length : Int) := by omega
      have hwm : IntKind.i64.wrap ((m : Int) + 1) = (m : Int) + 1 := by unfold IntKind.wrap; simp [IntKind.bits, IntKind.signed]; omega
      obtain ⟨ba, oa, _, _, e1, -, hba, xr, xc⟩ := rList_at rGPair_lawful (by decide) ((rList_lawful rGPair_lawful).nix hl kk) m hmL
      simp only [List.cons.injEq, Value.slice.injEq, and_true] at e1
      obtain ⟨rfl, -, rfl⟩ := e1
      obtain ⟨aK, cK, aV, cV, hcc, -⟩ := rGPair_open xr
      subst hcc
      have x0 := xc 0 _ rfl
      have x1 := xc 1 _ rfl
      have x2 := xc 2 _ rfl
      (try simp only [Nat.add_zero] at x0)
      clear xc
      have hkm : (L.map (·.fKey))[m]'(by rw [List.length_map]; exact hmL) = L[m].fKey := List.getElem_map _
      have hcall := find2_c L[m] _ b cb key wr xr (hk.keep kk (fun _ _ h => h))
      have hlt2 := cmp_lt (L[m].fKey) key
      generalize Lib.compareBytes (L[m].fKey) key = z at *
      rw [← hkm] at hlt2
      have HK := Lib.hid hkm
      clear hkm xr
      cases hv : ltB ((L.map (·.fKey))[m]'(by rw [List.length_map]; exact hmL)) key with
      | true =>
        have hz : z < 0 := by rw [hv] at hlt2; simpa using hlt2
        have HI2 : Hid ((∀ q (h : q < (L.map (·.fKey)).length), q < m + 1 → ltB (L.map (·.fKey))[q] key = true) ∧ ∀ q (h : q < (L.map (·.fKey)).length), y ≤ q → ltB (L.map (·.fKey))[q] key = false) :=
          ⟨fun q h h2 => by
            by_cases e : q = m
            · subst e; exact hv
            · exact ltB_trans (HS.out.lt (by rw [List.length_map]; exact hmL) (by omega)) hv, HI.out.2⟩
        clear hlt2 hv
        go_wp2_with fail
        go_fit hcall
        rintro e w2 ⟨rfl, k2⟩
        clear hcall
        go_wp2_with fail
        go_roundw
        case rel => exact ⟨m + 1, y, by omega, hy, by go_num, rfl, HI2.out, kk.trans k2⟩
        case measure => simp [intOf]; omega
      | false =>
        have hz : 0 ≤ z := by rw [hv] at hlt2; simpa using hlt2
        have HI2 : Hid ((∀ q (h : q < (L.map (·.fKey)).length), q < x → ltB (L.map (·.fKey))[q] key = true) ∧ ∀ q (h : q < (L.map (·.fKey)).length), m ≤ q → ltB (L.map (·.fKey))[q] key = false) :=
          ⟨HI.out.1, fun q h h2 => by
            by_cases e : q = m
            · subst e; exact hv
            · cases h3 : ltB (L.map (·.fKey))[q] key with
              | false => rfl
              | true => rw [ltB_trans (HS.out.lt h (show m < q by omega)) h3] at hv; cases hv⟩
        clear hlt2 hv
        go_wp2_with fail
        go_fit hcall
        rintro e w2 ⟨rfl, k2⟩
        clear hcall
        go_wp2_with fail
        go_roundw
        case rel => exact ⟨x, m, by omega, by omega, rfl, rfl, HI2.out, kk.trans k2⟩
        case measure => simp [intOf]; omega
    · obtain rfl : x = y := by omega
      have HLo : Hid (Lower (L.map (·.fKey)) key x) := ⟨by rw [List.length_map]; exact hy, HI.out.1, HI.out.2⟩
      clear HI
      by_cases hx : x < L.length
      · have hi1 : (x : Int) < (L.length : Int) := by omega
        have hi0 : (0 : Int) ≤ (x : Int) := by omega
        obtain ⟨ba, oa, _, _, e1, -, hba, xr, xc⟩ := rList_at rGPair_lawful (by decide) ((rList_lawful rGPair_lawful).nix hl kk) x hx
        simp only [List.cons.injEq, Value.slice.injEq, and_true] at e1
        obtain ⟨rfl, -, rfl⟩ := e1
        obtain ⟨aK, cK, aV, cV, hcc, -⟩ := rGPair_open xr
        subst hcc
        have x0 := xc 0 _ rfl
        have x1 := xc 1 _ rfl
        have x2 := xc 2 _ rfl
        (try simp only [Nat.add_zero] at x0)
        clear xc
        have hF : Hid (foundB (L.map (·.fKey)) key x = decide (L[x].fKey = key)) := by
          show _ = _
          unfold foundB
          rw [List.getElem?_eq_getElem (by rw [List.length_map]; exact hx), List.getElem_map]
        have hcall := find2_c L[x] _ b cb key wr xr (hk.keep kk (fun _ _ h => h))
        have he := cmp_eq (L[x].fKey) key
        rw [← hF.out] at he
        generalize Lib.compareBytes (L[x].fKey) key = z at *
        have HE := Lib.hid he
        clear hF xr he
        go_wp2_with fail
        go_fit hcall
        rintro e w2 ⟨rfl, k2⟩
        clear hcall
        go_wp2_with fail
        go_ret2
        exact ⟨x, by rw [← HE.out]; rfl, HLo.out, kk.trans k2⟩
      · have hi1 : (L.length : Int) ≤ (x : Int) := by omega
        have hF : Hid (foundB (L.map (·.fKey)) key x = false) := by
          show _ = _
          unfold foundB
          rw [List.getElem?_eq_none (by rw [List.length_map]; omega)]
        go_wp2_with fail
        go_ret2
        exact ⟨x, by rw [hF.out]; rfl, HLo.out, kk⟩
end Go.Proofs.Ythkocgpbpgfocaa
