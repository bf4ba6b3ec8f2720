/- THE WALKS of package armoirehelp over bytes: Plain, Same, Bytes, Own, Kept, Spoil. -/
import Derived.Test.YthchpdflnpfjkaaQArgs
namespace Go.Proofs.Ythchpdflnpfjkaa
open Go.RowKit

theorem T_bytes : SliceT Try.prog 31 5 1 1 := SliceT.mk' Try.underlying31 (z := .int .u8 0) (by kernel_rfl) rfl (by decide)
theorem bv_eq (c d : UInt8) : ((c.toNat : Int) == (d.toNat : Int)) = (c == d) := by
  rw [Bool.eq_iff_iff, beq_iff_eq, beq_iff_eq]
  exact ⟨fun h => UInt8.toNat_inj.1 (by omega), fun h => by rw [h]⟩
theorem bv_at (l : List UInt8) (k : Nat) (h : k < l.length) : (l.map bv)[k]? = some (.int .u8 (l[k].toNat : Int)) := by simp [bv, h]
theorem byteEq_c (c d : Int) (w : World) : Calls Try.prog 53 #[.int .u8 c, .int .u8 d] w fun e w' => e = .returned (.bool (c == d)) ∧ w = w' := by
  go_enter Try.func53, Try.ntmps53
  go_wp2
  go_ret
  exact ⟨rfl, rfl⟩

/-- Two byte slices: are they alike? -/
theorem sameB_c {p q : Nat → Prop} (a b : Option Addr) (n ca m cb : Nat) (la lb : List UInt8) (w : World) (hn : la.length = n) (hm : lb.length = m) (ha : Lies w p a (la.map bv)) (hb : Lies w q b (lb.map bv)) (hnb : n ≤ maxLen) :
    Calls Try.prog 52 #[.slice a n ca, .slice b m cb, .func (.func 53) #[] #[]] w fun e w' => e = .returned (.bool (decide (la = lb))) ∧ Keep Nix w w' := by
  unfold maxLen at hnb
  by_cases h : n = m
  · subst h
    have hh : ((n : Int) != (n : Int)) = false := by simp
    have HN := Lib.hid hn
    have HM := Lib.hid hm
    clear hn hm
    go_enter Try.func52, Try.ntmps52
    go_wp2_with fail
    go_loopw [6, 7] (fun r i wr => ∃ k : Nat, k ≤ n ∧ i = .int .i64 k ∧ r = .bool false ∧ Hid (la.take k = lb.take k) ∧ Keep Nix w wr) (fun _ i _ => n - (intOf i).toNat)
    case atStart => exact ⟨0, by omega, rfl, rfl, rfl, Keep.refl _ _⟩
    case round =>
      obtain ⟨k, hk, rfl, rfl, hsame, kk⟩ := hrel
      by_cases hlt : k < n
      · have l1 : k < la.length := by rw [HN.out]; exact hlt
        have l2 : k < lb.length := by rw [HM.out]; exact hlt
        obtain ⟨ba, oa, rfl, -, hba, hca⟩ := ha (by intro e; rw [List.map_eq_nil_iff] at e; subst e; simp at l1)
        obtain ⟨bb, ob, rfl, -, hbb, hcb⟩ := hb (by intro e; rw [List.map_eq_nil_iff] at e; subst e; simp at l2)
        have ga := (kk.cell (p := ⟨ba, oa + k, none⟩) hba id).trans (hca k _ (bv_at la k l1))
        have gb := (kk.cell (p := ⟨bb, ob + k, none⟩) hbb id).trans (hcb k _ (bv_at lb k l2))
        have hst : Hid (la.take (k + 1) = lb.take (k + 1) ↔ la[k] = lb[k]) := by
          show _ ↔ _
          rw [List.take_succ_eq_append_getElem l1, List.take_succ_eq_append_getElem l2, hsame.out, List.append_cancel_left_eq]; simp
        have hne : la[k] ≠ lb[k] → la ≠ lb := by rintro h1 rfl; exact h1 rfl
        have HNE := Lib.hid hne
        clear hca hcb ha hb hne
        generalize la[k] = x at ga hst HNE
        generalize lb[k] = y at gb hst HNE
        clear l1 l2
        have hxy : (((x.toNat : Int) == (y.toNat : Int)) = true ∧ x = y) ∨ (((x.toNat : Int) == (y.toNat : Int)) = false ∧ x ≠ y) := by
          rw [bv_eq]; by_cases e : x = y
          · exact .inl ⟨by simp [e], e⟩
          · exact .inr ⟨by simp [e], e⟩
        rcases hxy with ⟨hb1, he⟩ | ⟨hb1, he⟩
        · have HE := Lib.hid he
          clear he
          go_wp2_with fail
          go_quiet ((go_at_call 53; exact quiet_eq (byteEq_c _ _ _)))
          go_wp2
          go_roundw
          case rel => exact ⟨k + 1, by omega, by go_num, rfl, hst.out.2 HE.out, kk.drewN _⟩
          case measure => simp [intOf]; omega
        · have HE := Lib.hid he
          clear he
          go_wp2_with fail
          go_quiet ((go_at_call 53; exact quiet_eq (byteEq_c _ _ _)))
          go_wp2
          go_ret
          exact ⟨ret_bool (by simp [HNE.out HE.out]), kk.drewN _⟩
      · go_wp2_with fail
        go_ret
        obtain rfl : k = n := by omega
        have e : la = lb := by
          have := hsame.out
          rwa [List.take_of_length_le (by rw [HN.out]; omega), List.take_of_length_le (by rw [HM.out]; omega)] at this
        exact ⟨ret_bool (by simp [e]), kk⟩
  · have hh : ((n : Int) != (m : Int)) = true := by simp; omega
    have hne : la ≠ lb := by rintro rfl; omega
    have HNE := Lib.hid hne
    clear hne h hn hm
    go_enter Try.func52, Try.ntmps52
    go_wp2_with fail
    go_ret
    exact ⟨ret_bool (by simp [HNE.out]), Keep.refl _ _⟩
theorem plainB_c {p q : Nat → Prop} (a b : Option Addr) (n ca m cb : Nat) (la lb : List UInt8) (w : World) (hn : la.length = n) (hm : lb.length = m) (ha : Lies w p a (la.map bv)) (hb : Lies w q b (lb.map bv)) (hnb : n ≤ maxLen) :
    Calls Try.prog 37 #[.slice a n ca, .slice b m cb] w fun e w' => e = .returned (.bool (decide (la = lb))) ∧ Keep Nix w w' := by
  have hmf : ∀ (fn : Fn) (first cap : Array Value) (w : World), (Instr.makeFunc fn first cap).run Try.prog w = .ok (.func fn first cap) w := fun _ _ _ _ => rfl
  go_enter Try.func37, Try.ntmps37
  go_wp2_with fail
  refine (sameB_c a b n ca m cb la lb w hn hm ha hb hnb).mono ?_
  rintro e w1 ⟨rfl, kk⟩
  go_wp2
  go_ret
  exact ⟨rfl, kk⟩
theorem bytes_c {p q : Nat → Prop} (a b : Option Addr) (n ca m cb : Nat) (la lb : List UInt8) (w : World) (hn : la.length = n) (hm : lb.length = m) (ha : Lies w p a (la.map bv)) (hb : Lies w q b (lb.map bv)) :
    Calls Try.prog 12 #[.slice a n ca, .slice b m cb] w fun e w' => e = .returned (.bool (decide (la = lb))) ∧ w = w' := by
  have h1 := conv_bytes (P := Try.prog) Try.underlying31 Try.underlying5 Try.underlying9 (cap := ca) hn ha
  have h2 := conv_bytes (P := Try.prog) Try.underlying31 Try.underlying5 Try.underlying9 (cap := cb) hm hb
  clear ha hb hn hm
  go_enter Try.func12, Try.ntmps12
  go_wp2
  go_ret
  exact ⟨ret_bool (strB_eq _ _), rfl⟩

/-- 'Own': a copy with three bytes behind it. -/
theorem ownB_c {p : Nat → Prop} (a : Option Addr) (n ca : Nat) (l : List UInt8) (f : UInt8) (w : World) (hn : l.length = n) (ha : Lies w p a (l.map bv)) (hr : n ≤ 140737488351232) :
    Calls Try.prog 17 #[.slice a n ca, .int .u8 f.toNat] w fun e w' => ∃ b, e = .returned (.slice (some ⟨b, 0, none⟩) n (n + 3)) ∧ w.heap.size ≤ b ∧ RowIs w' b 5 ((l ++ [f, f, f]).map bv) ∧ Keep Nix w w' := by
  subst hn
  go_enter Try.func17, Try.ntmps17
  go_wp2_with (at_make; refine wpl_make T_bytes rfl _ _ rfl w.heap.size (l.length + 3) rfl rfl (by omega) (by omega) (by unfold maxLen; omega) (Nat.le_refl _) ?_)
  intro w1 own1 k1
  go_wp2_with (at_builtin; refine wpl_fits T_bytes rfl (.tmp 12) (.tmp 13) rfl w.heap.size rfl own1 (l.map bv) rfl (by simp) (ha.keep k1 (fun _ _ h => h)) (bv_one l) (by omega) ?_)
  intro w2 own2 k2
  obtain ⟨b, rest, hb, -, row, hlen⟩ := RowIs.of_owned own2
  cases hb
  have hrl : rest.length = 3 := by simp at hlen; omega
  match rest, hrl with
  | [x, y, z], _ =>
    have kk := (k1.then k2 (fun i hi (e : i = _) => absurd hi (by omega))).nix (S := Nix)
    clear own1 own2 k1 k2 hlen hrl ha
    go_wp2
    go_loopw [7] (fun i wr => ∃ j : Nat, j ≤ 3 ∧ i = .int .i64 ((l.length + j : Nat) : Int) ∧ RowIs wr w.heap.size 5 (l.map bv ++ (List.replicate j (bv f) ++ [x, y, z].drop j)) ∧ Keep Nix w wr) (fun i _ => l.length + 3 - (intOf i).toNat)
    case atStart => exact ⟨0, by omega, rfl, row, kk⟩
    case round =>
      obtain ⟨j, hj, rfl, row, kk⟩ := hrel
      by_cases hlt : j < 3
      · have hc : ∃ u, wr.cell? ⟨w.heap.size, l.length + j, none⟩ = some u := by
          rw [row.cell, List.getElem?_append_right (by simp)]
          match j, hlt with
          | 0, _ => exact ⟨_, by simp; rfl⟩
          | 1, _ => exact ⟨_, by simp; rfl⟩
          | 2, _ => exact ⟨_, by simp; rfl⟩
        obtain ⟨u, hu⟩ := hc
        have hf := row.frozen (l.length + j)
        have row' := row.set (l.length + j) (.int .u8 f.toNat)
        have kk' := kk.setCell (p := ⟨w.heap.size, l.length + j, none⟩) (fun h => absurd h (by simp)) (.int .u8 f.toNat)
        have hrow : (l.map bv ++ (List.replicate j (bv f) ++ [x, y, z].drop j)).set (l.length + j) (.int .u8 f.toNat) = l.map bv ++ (List.replicate (j + 1) (bv f) ++ [x, y, z].drop (j + 1)) := by
          rw [List.set_append_right _ _ (by simp)]
          match j, hlt with
          | 0, _ => simp [bv]
          | 1, _ => simp [bv, List.replicate]
          | 2, _ => simp [bv, List.replicate]
        rw [hrow] at row'
        clear hrow row kk
        go_wp2
        go_roundw
        case rel => exact ⟨j + 1, by omega, by go_num, row', kk'⟩
        case measure => simp [intOf]; omega
      · obtain rfl : j = 3 := by omega
        go_wp2
        go_ret
        exact ⟨_, rfl, Nat.le_refl _, by simpa [List.replicate] using row, kk⟩

/-- 'Kept': is it as it was, and what is behind it? -/
theorem keptB_c {p : Nat → Prop} (b : Nat) (a : Option Addr) (n ca : Nat) (l : List UInt8) (f : UInt8) (w : World) (hn : l.length = n) (ha : Lies w p a (l.map bv)) (hr : n ≤ 140737488351232)
    (row : RowIs w b 5 ((l ++ [f, f, f]).map bv)) :
    Calls Try.prog 18 #[.slice (some ⟨b, 0, none⟩) n (n + 3), .slice a n ca, .int .u8 f.toNat] w fun e w' => e = .returned (.bool true) ∧ Keep Nix w w' := by
  have hl1 : Lies w (fun _ => True) (some ⟨b, 0, none⟩) (l.map bv) := row.lies _ trivial (fun j u hu => by
    rw [List.map_append, Nat.zero_add, List.getElem?_append_left (List.getElem?_eq_some_iff.1 hu).1]; exact hu)
  go_enter Try.func18, Try.ntmps18
  go_wp2_with fail
  refine (plainB_c _ _ n _ n ca l l w hn hn hl1 ha (by unfold maxLen; omega)).mono ?_
  rintro e w1 ⟨rfl, kk⟩
  have row1 := row.keep kk id
  have hd : decide (l = l) = true := by simp
  clear hl1 ha
  go_wp2
  go_loopw [6, 8] (fun r i wr => ∃ j : Nat, j ≤ 3 ∧ i = .int .i64 ((n + j : Nat) : Int) ∧ r = .bool false ∧ Keep Nix w wr ∧ RowIs wr b 5 ((l ++ [f, f, f]).map bv)) (fun _ i _ => n + 3 - (intOf i).toNat)
  case atStart => exact ⟨0, by omega, rfl, rfl, kk, row1⟩
  case round =>
    obtain ⟨j, hj, rfl, rfl, kk, row⟩ := hrel
    by_cases hlt : j < 3
    · have hc : wr.cell? ⟨b, n + j, none⟩ = some (.int .u8 f.toNat) := by
        rw [row.cell, List.map_append, List.getElem?_append_right (by simp; omega)]
        match j, hlt with
        | 0, _ => simp [hn, bv]
        | 1, _ => simp [hn, bv]
        | 2, _ => simp [hn, bv]
      go_wp2
      go_roundw
      case rel => exact ⟨j + 1, by omega, by go_num, rfl, kk, row⟩
      case measure => simp [intOf]; omega
    · obtain rfl : j = 3 := by omega
      go_wp2
      go_ret
      exact ⟨rfl, kk⟩
/-- 'Spoil': each byte is another one, in a block of one's own. -/
theorem spoil_c (b n ca : Nat) (cs : List Value) (l : List UInt8) (w : World) (hn : l.length = n) (row : RowIs w b 5 cs) (hl : ∀ (j : Nat) (u : Value), (l.map bv)[j]? = some u → cs[j]? = some u) (hr : n ≤ maxLen) :
    Calls Try.prog 16 #[.slice (some ⟨b, 0, none⟩) n ca] w fun e w' => e = .returned (.tuple #[]) ∧ Keep (· = b) w w' := by
  subst hn
  unfold maxLen at hr
  go_enter Try.func16, Try.ntmps16
  go_wp2
  go_loopw [2] (fun i wr => ∃ (k : Nat) (cs' : List Value), k ≤ l.length ∧ i = .int .i64 k ∧ RowIs wr b 5 cs' ∧ Hid (∀ (j : Nat) (u : Value), k ≤ j → (l.map bv)[j]? = some u → cs'[j]? = some u) ∧ Keep (· = b) w wr) (fun i _ => l.length - (intOf i).toNat)
  case atStart => exact ⟨0, cs, by omega, rfl, row, fun j u _ h => hl j u h, Keep.refl _ _⟩
  case round =>
    obtain ⟨k, cs', hk, rfl, row, hc, kk⟩ := hrel
    clear hl
    by_cases hlt : k < l.length
    · have hc0 : wr.cell? ⟨b, k, none⟩ = some (.int .u8 (l[k].toNat : Int)) := by rw [row.cell]; exact hc.out k _ (Nat.le_refl _) (bv_at l k hlt)
      have hf := row.frozen k
      have row' := row.set k (.int .u8 (bits BinOp.xor IntKind.u8 (l[k].toNat : Int) 85))
      have kk' := kk.setCell (p := ⟨b, k, none⟩) (fun _ => rfl) (.int .u8 (bits BinOp.xor IntKind.u8 (l[k].toNat : Int) 85))
      have hc' : Hid (∀ (j : Nat) (u : Value), k + 1 ≤ j → (l.map bv)[j]? = some u → (cs'.set k (.int .u8 (bits BinOp.xor IntKind.u8 (l[k].toNat : Int) 85)))[j]? = some u) := fun j u hj hu => by
        rw [List.getElem?_set_ne (by omega)]; exact hc.out j u (by omega) hu
      clear row kk hc
      generalize l[k] = c at hc0 row' kk' hc'
      go_wp2
      go_roundw
      case rel => exact ⟨k + 1, _, by omega, by go_num, row', hc', kk'⟩
      case measure => simp [intOf]; omega
    · go_wp2
      go_end0
      exact ⟨rfl, kk⟩
end Go.Proofs.Ythchpdflnpfjkaa
