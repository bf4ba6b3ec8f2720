/- THE READERS of package code and of the reference: what they read, plainly; then their walks. -/
import Derived.Test.YtibaehlfpgipfaaGreatQCode
namespace Go.Proofs.YtibaehlfpgipfaaGreat
open Go.RowKit

/-- A number out of bytes: its value, how many bytes, why not (8: too short; 9: no form). -/
def lookF : Nat → Nat → Nat → List UInt8 → Nat × Nat × Int
  | 0, _, _, _ => (0, 0, 9)
  | _ + 1, _, _, [] => (0, 0, 8)
  | f + 1, i, v, c :: l =>
    if i = 9 ∧ 1 < c.toNat then (0, 0, 9)
    else if c.toNat < 128 then (if c.toNat = 0 ∧ 0 < i then (0, 0, 9) else (v + c.toNat % 128 * 2 ^ (7 * i), i + 1, 0))
    else lookF f (i + 1) (v + c.toNat % 128 * 2 ^ (7 * i)) l
def lookB (l : List UInt8) : Nat × Nat × Int := lookF 10 0 0 l
structure RdS where
  B : List UInt8
  pos : Nat
  e : Int
  /-- What lies behind the reader's own cells, in its block. -/
  rest : List Value
def numS (most : Nat) (s : RdS) : Nat × RdS :=
  if s.e ≠ 0 then (0, s)
  else if (lookB (s.B.drop s.pos)).2.2 ≠ 0 then (0, { s with e := (lookB (s.B.drop s.pos)).2.2 })
  else if most < (lookB (s.B.drop s.pos)).1 then (0, { s with e := 9 })
  else ((lookB (s.B.drop s.pos)).1, { s with pos := s.pos + (lookB (s.B.drop s.pos)).2.1 })
def textS (most : Nat) (s : RdS) : List UInt8 × RdS :=
  if s.e ≠ 0 then ([], s)
  else if (numS most s).2.e ≠ 0 then ([], (numS most s).2)
  else if s.B.length - (numS most s).2.pos < (numS most s).1 then ([], { s with e := 8 })
  else ((s.B.drop (numS most s).2.pos).take (numS most s).1, { s with pos := (numS most s).2.pos + (numS most s).1 })

/-- A number under way fits its seven bits a byte. -/
def Under (k v : Nat) : Prop := v < 2 ^ (7 * k)
theorem lookF_fine : ∀ (f i v : Nat) (l : List UInt8), f + i = 10 → Under i v →
    ((lookF f i v l).2.2 = 0 ∧ (lookF f i v l).1 < 2 ^ 64 ∧ i < (lookF f i v l).2.1 ∧ (lookF f i v l).2.1 ≤ i + l.length ∧ (lookF f i v l).2.1 ≤ 10) ∨
    (((lookF f i v l).2.2 = 8 ∨ (lookF f i v l).2.2 = 9) ∧ (lookF f i v l).1 = 0 ∧ (lookF f i v l).2.1 = 0)
  | 0, i, v, l, _, _ => .inr ⟨.inr rfl, rfl, rfl⟩
  | f + 1, i, v, [], _, _ => .inr ⟨.inl rfl, rfl, rfl⟩
  | f + 1, i, v, c :: l, hf, hv => by
    unfold lookF
    by_cases h1 : i = 9 ∧ 1 < c.toNat
    · rw [if_pos h1]; exact .inr ⟨.inr rfl, rfl, rfl⟩
    rw [if_neg h1]
    have hp : 2 ^ (7 * (i + 1)) = 2 ^ (7 * i) * 128 := by rw [Nat.mul_succ, Nat.pow_add]
    have hm : c.toNat % 128 * 2 ^ (7 * i) ≤ 127 * 2 ^ (7 * i) := Nat.mul_le_mul_right _ (by omega)
    have hu : Under (i + 1) (v + c.toNat % 128 * 2 ^ (7 * i)) := by unfold Under at *; rw [hp]; omega
    by_cases h2 : c.toNat < 128
    · rw [if_pos h2]
      by_cases h3 : c.toNat = 0 ∧ 0 < i
      · rw [if_pos h3]; exact .inr ⟨.inr rfl, rfl, rfl⟩
      · rw [if_neg h3]
        refine .inl ⟨rfl, ?_, by simp, by simp, by simp; omega⟩
        by_cases h9 : i = 9
        · subst h9
          have : c.toNat % 128 ≤ 1 := by omega
          have : c.toNat % 128 * 2 ^ 63 ≤ 1 * 2 ^ 63 := Nat.mul_le_mul_right _ this
          unfold Under at hv; simp at *; omega
        · unfold Under at hu
          exact Nat.lt_of_lt_of_le hu (Nat.pow_le_pow_right (by decide) (by omega))
    · rw [if_neg h2]
      rcases lookF_fine f (i + 1) _ l (by omega) hu with ⟨a, b, c1, d, e⟩ | h
      · exact .inl ⟨a, b, by omega, by simp only [List.length_cons]; omega, e⟩
      · exact .inr h
theorem lookB_fine (l : List UInt8) : ((lookB l).2.2 = 0 ∧ (lookB l).1 < 2 ^ 64 ∧ 0 < (lookB l).2.1 ∧ (lookB l).2.1 ≤ l.length ∧ (lookB l).2.1 ≤ 10) ∨ (((lookB l).2.2 = 8 ∨ (lookB l).2.2 = 9) ∧ (lookB l).1 = 0 ∧ (lookB l).2.1 = 0) := by
  have := lookF_fine 10 0 0 l rfl (by simp [Under])
  simpa [lookB] using this

/-! ### bits -/
theorem and127 (c : UInt8) : bits BinOp.and IntKind.u8 (c.toNat : Int) 127 = ((c.toNat % 128 : Nat) : Int) := by
  have hlt : c.toNat < 256 := c.toNat_lt
  generalize c.toNat = m at hlt
  revert m
  decide +kernel
theorem or_under {k v x : Nat} (hk : k ≤ 9) (hv : Under k v) (hx : x < 128) (h9 : k = 9 → x ≤ 1) : bits BinOp.or IntKind.u64 (v : Int) (IntKind.u64.wrap ((x : Int) * 2 ^ (7 * k))) = ((v + x * 2 ^ (7 * k) : Nat) : Int) := by
  have hp : 2 ^ (7 * (k + 1)) = 2 ^ (7 * k) * 128 := by rw [Nat.mul_succ, Nat.pow_add]
  have hm : x * 2 ^ (7 * k) ≤ 127 * 2 ^ (7 * k) := Nat.mul_le_mul_right _ (by omega)
  have hs : v + x * 2 ^ (7 * k) < 2 ^ 64 := by
    by_cases h : k = 9
    · subst h
      have : x * 2 ^ 63 ≤ 1 * 2 ^ 63 := Nat.mul_le_mul_right _ (h9 rfl)
      unfold Under at hv; simp at *; omega
    · have : v + x * 2 ^ (7 * k) < 2 ^ (7 * (k + 1)) := by unfold Under at hv; omega
      exact Nat.lt_of_lt_of_le this (Nat.pow_le_pow_right (by decide) (by omega))
  have e1 : IntKind.u64.wrap ((x : Int) * 2 ^ (7 * k)) = ((x * 2 ^ (7 * k) : Nat) : Int) := by
    rw [IntKind.wrap_u64]
    have : ((x : Int) * 2 ^ (7 * k)) = ((x * 2 ^ (7 * k) : Nat) : Int) := by push_cast; rfl
    rw [this]; omega
  rw [e1]
  show IntKind.u64.wrap (((BitVec.ofInt 64 (v : Int) ||| BitVec.ofInt 64 ((x * 2 ^ (7 * k) : Nat) : Int) : BitVec 64).toNat : Nat) : Int) = _
  rw [IntKind.wrap_u64, BitVec.toNat_or, BitVec.ofInt_natCast, BitVec.ofInt_natCast, BitVec.toNat_ofNat, BitVec.toNat_ofNat, Nat.mod_eq_of_lt (by omega), Nat.mod_eq_of_lt (by omega)]
  have e2 : v ||| x * 2 ^ (7 * k) = v + x * 2 ^ (7 * k) := by
    rw [Nat.or_comm, Nat.mul_comm x, ← Nat.two_pow_add_eq_or_of_lt hv]; omega
  rw [e2]; omega

/-! ### a reader in memory: bytes, place, fault -/
def RdAt (w : World) (T r : Nat) (a : Option Addr) (cap : Nat) (s : RdS) : Prop := RowIs w r T (.slice a s.B.length cap :: .int .i64 s.pos :: .int .i64 s.e :: s.rest)
structure IsRd (w : World) (T r : Nat) (p : Nat → Prop) (s : RdS) : Prop where
  row : ∃ a cap, RdAt w T r a cap s ∧ Lies w p a (s.B.map bv) ∧ s.B.length ≤ cap ∧ s.B.length ≤ 140737488355328
  apart : ¬ p r
  place : s.pos ≤ s.B.length
theorem IsRd.keep {S : Nat → Prop} {w w' : World} {T r : Nat} {p : Nat → Prop} {s : RdS} (h : IsRd w T r p s) (k : Keep S w w') (hr : ¬ S r) (hp : ∀ b, p b → ¬ S b) : IsRd w' T r p s := by
  obtain ⟨⟨a, cap, h1, h2, h3⟩, h4, h5⟩ := h
  exact ⟨⟨a, cap, RowIs.keep h1 k hr, h2.keep k hp, h3⟩, h4, h5⟩
theorem IsRd.same {w w' : World} {T r : Nat} {p : Nat → Prop} {s : RdS} (h : IsRd w T r p s) (hh : w'.heap = w.heap := by rfl) : IsRd w' T r p s := by
  obtain ⟨⟨a, cap, h1, h2, h3⟩, h4, h5⟩ := h
  exact ⟨⟨a, cap, RowIs.same h1 hh, h2.same hh, h3⟩, h4, h5⟩
theorem drop_at (l : List UInt8) (k : Nat) (h : k < l.length) : l.drop k = l[k] :: l.drop (k + 1) := by rw [List.drop_eq_getElem_cons h]

/-- What 'look' hands back. -/
def lookT (pos : Nat) (L : Nat × Nat × Int) : Value := .tuple #[.int .u64 L.1, .int .i64 (if L.2.2 = 0 then ((pos + L.2.1 : Nat) : Int) else 0), .int .i64 L.2.2]
theorem lookF_short (k v : Nat) (hk : k ≤ 9) : lookF (10 - k) k v [] = (0, 0, 8) := by rw [show 10 - k = (9 - k) + 1 by omega]; rfl
theorem lookF_form9 (v : Nat) (c : UInt8) (l : List UInt8) (h : 1 < c.toNat) : lookF (10 - 9) 9 v (c :: l) = (0, 0, 9) := by simp [lookF, h]
theorem lookF_zero (k v : Nat) (c : UInt8) (l : List UInt8) (hk : k ≤ 9) (h0 : c.toNat = 0) (h1 : 0 < k) : lookF (10 - k) k v (c :: l) = (0, 0, 9) := by
  rw [show 10 - k = (9 - k) + 1 by omega]; unfold lookF
  rw [if_neg (by omega), if_pos (by omega), if_pos ⟨h0, h1⟩]
theorem lookF_end (k v : Nat) (c : UInt8) (l : List UInt8) (hk : k ≤ 9) (h9 : ¬ (k = 9 ∧ 1 < c.toNat)) (h1 : c.toNat < 128) (h0 : ¬ (c.toNat = 0 ∧ 0 < k)) : lookF (10 - k) k v (c :: l) = (v + c.toNat % 128 * 2 ^ (7 * k), k + 1, 0) := by
  rw [show 10 - k = (9 - k) + 1 by omega]; unfold lookF
  rw [if_neg h9, if_pos h1, if_neg h0]
theorem lookF_on (k v : Nat) (c : UInt8) (l : List UInt8) (hk : k ≤ 9) (h9 : ¬ (k = 9 ∧ 1 < c.toNat)) (h1 : ¬ c.toNat < 128) : lookF (10 - k) k v (c :: l) = lookF (10 - (k + 1)) (k + 1) (v + c.toNat % 128 * 2 ^ (7 * k)) l := by
  rw [show 10 - k = (10 - (k + 1)) + 1 by omega]
  conv => lhs; unfold lookF
  rw [if_neg h9, if_neg h1]
theorem Under.next {k v x : Nat} (h : Under k v) (hx : x < 128) : Under (k + 1) (v + x * 2 ^ (7 * k)) := by
  have hp : 2 ^ (7 * (k + 1)) = 2 ^ (7 * k) * 128 := by rw [Nat.mul_succ, Nat.pow_add]
  have hm : x * 2 ^ (7 * k) ≤ 127 * 2 ^ (7 * k) := Nat.mul_le_mul_right _ (by omega)
  unfold Under at *; rw [hp]; omega
set_option maxRecDepth 100000 in
set_option maxHeartbeats 2000000 in
/-- 'look'. -/
theorem look_c (r : Nat) (p : Nat → Prop) (s : RdS) (w : World) (h : IsRd w 151 r p s) :
    Calls Tryz.prog 129 #[.pointer (some ⟨r, 0, none⟩)] w fun e w' =>
      e = .returned (lookT s.pos (lookB (s.B.drop s.pos))) ∧ Keep Nix w w' := by
  obtain ⟨⟨a, cap, row, lies, hc, hcm⟩, ap, hp⟩ := h
  obtain ⟨B, pos, e⟩ := s
  simp only at lies hc hcm hp ⊢
  have c0 := RowIs.cell row 0
  have c1 := RowIs.cell row 1
  simp only [List.getElem?_cons_zero, List.getElem?_cons_succ] at c0 c1
  generalize hL : lookB (B.drop pos) = L
  have HL := Lib.hid hL
  clear hL
  have hrlt : r < w.heap.size := RowIs.lt row
  clear row
  generalize hn : B.length = n at *
  have HN := Lib.hid hn
  clear hn
  go_enter Tryz.func129, Tryz.ntmps129
  go_wp2
  go_loopw [5, 8] (fun v i wr => ∃ k v' : Nat, k ≤ 9 ∧ i = .int .i64 k ∧ v = .int .u64 v' ∧ Under k v' ∧ pos + k ≤ n ∧ Hid (L = lookF (10 - k) k v' (B.drop (pos + k))) ∧ Keep Nix w wr) (fun _ i _ => 10 - (intOf i).toNat)
  case atStart => exact ⟨0, 0, by omega, rfl, rfl, by simp [Under], hp, HL.out.symm, Keep.refl _ _⟩
  case round =>
    obtain ⟨k, v', hk, rfl, rfl, hu, hpk, hl, kk⟩ := hrel
    have d0 := (kk.cell (p := ⟨r, 0, none⟩) hrlt id).trans c0
    have d1 := (kk.cell (p := ⟨r, 1, none⟩) hrlt id).trans c1
    by_cases hlt : pos + k < n
    · have hltB : pos + k < B.length := by rw [HN.out]; exact hlt
      obtain ⟨ba, oa, rfl, -, hba, hca⟩ := lies (by intro e; rw [List.map_eq_nil_iff] at e; subst e; simp at hltB)
      have dc := (kk.cell (p := ⟨ba, oa + (pos + k), none⟩) hba id).trans (hca (pos + k) _ (bv_at B (pos + k) hltB))
      have hdr := drop_at B (pos + k) hltB
      have hcl := (B[pos + k]).toNat_lt
      generalize B[pos + k] = c at dc hdr hcl
      have h127 := and127 c
      have hl' : Hid (L = lookF (10 - k) k v' (c :: B.drop (pos + k + 1))) := by have := hl.out; rw [hdr] at this; exact this
      clear hdr hl hca lies hltB
      generalize hx : c.toNat = x at dc hcl h127
      by_cases h9 : k = 9 ∧ 1 < x
      · obtain ⟨rfl, h1⟩ := h9
        go_wp2_with fail
        go_quiet (fail)
        go_wp2_with fail
        go_quiet (fail)
        go_wp2_with fail
        go_ret3
        refine ⟨?_, kk.same⟩
        rw [show L = (0, 0, 9) by rw [hl'.out]; exact lookF_form9 v' c _ (by rw [hx]; exact h1)]
        rfl
      · have hor : Hid (bits BinOp.or IntKind.u64 (v' : Int) (IntKind.u64.wrap ((x : Int) % 128 * 2 ^ (7 * k))) = ((v' + x % 128 * 2 ^ (7 * k) : Nat) : Int)) := by
          have := or_under (x := x % 128) hk hu (by omega) (fun h => by omega)
          rwa [Int.natCast_emod] at this
        have hnext := Under.next (x := x % 128) hu (by omega)
        by_cases h128 : x < 128
        · by_cases h0 : x = 0 ∧ 0 < k
          · have hL : Hid (L = (0, 0, 9)) := by rw [hl'.out]; exact lookF_zero k v' c _ hk (by rw [hx]; exact h0.1) h0.2
            have t0 : ((x : Int) == 0) = true := by simp [h0.1]
            have hk0 := h0.2
            clear hl' HL hx h0
            rcases test_eq k 9 with ⟨t9, k9⟩ | ⟨t9, k9⟩
            case' inl => have x1 : ¬ 1 < x := fun h => h9 ⟨by have := k9.out; omega, h⟩
            all_goals
              clear h9
              go_wp2_with fail
              go_quiet (fail)
              go_wp2_with fail
              go_quiet (fail)
              go_wp2_with fail
              go_ret3
              exact ⟨by rw [hL.out]; rfl, kk.same⟩
          · have hL : Hid (L = (v' + x % 128 * 2 ^ (7 * k), k + 1, 0)) := by rw [hl'.out, lookF_end k v' c _ hk (by rw [hx]; exact h9) (by rw [hx]; exact h128) (by rw [hx]; exact h0), hx]; rfl
            clear hl' HL hx
            have hk0 : ((x : Int) == 0) = true → ¬ 0 < k := fun h1 h2 => h0 ⟨by simpa using h1, h2⟩
            have x1 : ((k : Int) == 9) = true → ¬ 1 < x := fun h1 h2 => h9 ⟨by have : (k : Int) = 9 := by simpa using h1
                                                                               omega, h2⟩
            clear h0 h9
            rcases test_eq x 0 with ⟨t0, -⟩ | ⟨t0, -⟩
            case' inl => have k0 := hk0 t0
            all_goals rcases test_eq k 9 with ⟨t9, -⟩ | ⟨t9, -⟩
            case' inl.inl | inr.inl => have x1' := x1 t9
            all_goals
              clear x1 hk0
              go_wp2_with fail
              go_quiet (fail)
              go_wp2_with fail
              go_quiet (fail)
              go_wp2_with fail
              go_quiet (fail)
              go_wp2_with fail
              go_ret3
              refine ⟨?_, kk.same⟩
              rw [hL.out, lookT, ← hor.out]
              first | rfl | (simp; omega)
        · have hL := hl'.out
          rw [lookF_on k v' c _ hk (by rw [hx]; exact h9) (by rw [hx]; exact h128), hx] at hL
          have HL2 := Lib.hid hL
          clear hL hl' HL
          have hk9 : k ≠ 9 := fun h => h9 ⟨h, by omega⟩
          clear h9
          · go_wp2_with fail
            go_quiet (fail)
            go_wp2_with fail
            go_quiet (fail)
            go_wp2_with fail
            go_roundw
            case rel => exact ⟨k + 1, v' + x % 128 * 2 ^ (7 * k), by omega, by go_num, by rw [← hor.out], hnext, by omega, HL2, kk.same⟩
            case measure => simp [intOf]; omega
    · go_wp2_with fail
      go_quiet (fail)
      go_wp2_with fail
      go_ret3
      have e : B.drop (pos + k) = [] := List.drop_eq_nil_of_le (by rw [HN.out]; omega)
      refine ⟨?_, kk.drewN _⟩
      rw [show L = (0, 0, 8) by rw [hl.out, e, lookF_short k v' hk]]
      rfl

end Go.Proofs.YtibaehlfpgipfaaGreat
