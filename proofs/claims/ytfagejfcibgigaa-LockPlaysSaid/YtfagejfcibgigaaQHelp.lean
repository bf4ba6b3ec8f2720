/- THE WALKS of package armoirehelp over bytes: Plain, Same, Bytes, Own, Kept, Spoil. -/
import Derived.Test.YtfagejfcibgigaaQArgs
namespace Go.Proofs.Ytfagejfcibgigaa
open Go.RowKit

theorem T_bytes : SliceT Try.prog 42 5 1 1 := SliceT.mk' Try.underlying42 (z := .int .u8 0) (by kernel_rfl) rfl (by decide)
theorem bv_eq (c d : UInt8) : ((c.toNat : Int) == (d.toNat : Int)) = (c == d) := by
  rw [Bool.eq_iff_iff, beq_iff_eq, beq_iff_eq]
  exact ⟨fun h => UInt8.toNat_inj.1 (by omega), fun h => by rw [h]⟩
theorem bv_at (l : List UInt8) (k : Nat) (h : k < l.length) : (l.map bv)[k]? = some (.int .u8 (l[k].toNat : Int)) := by simp [bv, h]
theorem bytes_c {p q : Nat → Prop} (a b : Option Addr) (n ca m cb : Nat) (la lb : List UInt8) (w : World) (hn : la.length = n) (hm : lb.length = m) (ha : Lies w p a (la.map bv)) (hb : Lies w q b (lb.map bv)) :
    Calls Try.prog 17 #[.slice a n ca, .slice b m cb] w fun e w' => e = .returned (.bool (decide (la = lb))) ∧ w = w' := by
  have h1 := conv_bytes (P := Try.prog) Try.underlying42 Try.underlying5 Try.underlying9 (cap := ca) hn ha
  have h2 := conv_bytes (P := Try.prog) Try.underlying42 Try.underlying5 Try.underlying9 (cap := cb) hm hb
  clear ha hb hn hm
  go_enter Try.func17, Try.ntmps17
  go_wp2
  go_ret
  exact ⟨ret_bool (strB_eq _ _), rfl⟩

/-- 'Spoil': each byte is another one, in a block of one's own. -/
theorem spoil_c (b n ca : Nat) (cs : List Value) (l : List UInt8) (w : World) (hn : l.length = n) (row : RowIs w b 5 cs) (hl : ∀ (j : Nat) (u : Value), (l.map bv)[j]? = some u → cs[j]? = some u) (hr : n ≤ maxLen) :
    Calls Try.prog 23 #[.slice (some ⟨b, 0, none⟩) n ca] w fun e w' => e = .returned (.tuple #[]) ∧ Keep (· = b) w w' := by
  subst hn
  unfold maxLen at hr
  go_enter Try.func23, Try.ntmps23
  go_wp2
  go_loopw [2] (fun i wr => ∃ (k : Nat) (cs' : List Value), k ≤ l.length ∧ i = .int .i64 k ∧ RowIs wr b 5 cs' ∧ Hid (∀ (j : Nat) (u : Value), k ≤ j → (l.map bv)[j]? = some u → cs'[j]? = some u) ∧ Keep (· = b) w wr) (fun i _ => l.length - (intOf i).toNat)
  case atStart => exact ⟨0, cs, by omega, rfl, row, fun j u _ h => hl j u h, Keep.refl _ _⟩
  case round =>
    obtain ⟨k, cs', hk, rfl, row, hc, kk⟩ := hrel
    clear hl
    by_cases hlt : k < l.length
    · have hc0 : wr.cell? ⟨b, k, none⟩ = some (.int .u8 (l[k].toNat : Int)) := by rw [row.cell]; exact hc.out k _ (Nat.le_refl _) (bv_at l k hlt)
      have hf := row.frozen k
      have row' := row.set k (.int .u8 (bits BinOp.xor IntKind.u8 (l[k].toNat : Int) 85))
      have kk' := kk.setCell (p := ⟨b, k, none⟩) (fun _ => rfl) (.int .u8 (bits BinOp.xor IntKind.u8 (l[k].toNat : Int) 85))
      have hc' : Hid (∀ (j : Nat) (u : Value), k + 1 ≤ j → (l.map bv)[j]? = some u → (cs'.set k (.int .u8 (bits BinOp.xor IntKind.u8 (l[k].toNat : Int) 85)))[j]? = some u) := fun j u hj hu => by
        rw [List.getElem?_set_ne (by omega)]; exact hc.out j u (by omega) hu
      clear row kk hc
      generalize l[k] = c at hc0 row' kk' hc'
      go_wp2
      go_roundw
      case rel => exact ⟨k + 1, _, by omega, by go_num, row', hc', kk'⟩
      case measure => simp [intOf]; omega
    · go_wp2
      go_end0
      exact ⟨rfl, kk⟩
end Go.Proofs.Ytfagejfcibgigaa
