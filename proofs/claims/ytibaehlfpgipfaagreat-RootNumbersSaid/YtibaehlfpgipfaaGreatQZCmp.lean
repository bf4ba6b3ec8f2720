/- bytes.Compare, by the model's entry at two slices. -/
import Derived.Test.YtibaehlfpgipfaaGreatQZBase
import Derived.Lib.BytesEntry
import Derived.Lib.Bytealg
namespace Go.Proofs.YtibaehlfpgipfaaGreat
open Go.RowKit
theorem run_bytesOf {P : Program} {w : World} {p : Nat → Prop} {a : Option Addr} {n cap : Nat} {l : List UInt8} (hn : l.length = n) (h : Lies w p a (l.map bv)) : (Extern.Bytes.bytesOf (.slice a n cap)).run P w = .ok (strB l) w := by
 subst hn
 cases l with
 | nil => cases a <;> rfl
 | cons c l =>
  obtain ⟨b, off, rfl, -, -, hc⟩ := h (by simp)
  have hl := Lib.run_loadBytesX (P := P) w ((c :: l).map fun x => (x.toNat : Int)) ⟨b, off, none⟩ .empty (fun j x hj => by
   rw [Addr.add_lit]
   refine hc j _ ?_
   rw [List.getElem?_map] at hj ⊢
   cases hg : (c :: l)[j]? with
   | none => rw [hg] at hj; cases hj
   | some y => rw [hg] at hj; simp at hj; subst hj; rfl)
  rw [List.length_map] at hl
  refine hl.trans ?_
  congr 1
  simp [strB]
  simp [Lib.bytesOf, Function.comp_def]
theorem run_cmpB {P : Program} {w : World} {p q : Nat → Prop} {a b : Option Addr} {n m ca cb : Nat} {la lb : List UInt8} (hn : la.length = n) (hm : lb.length = m) (ha : Lies w p a (la.map bv)) (hb : Lies w q b (lb.map bv)) :
  (Extern.BytealgCompare.compare #[.slice a n ca, .slice b m cb]).run P w = .ok (.int .i64 (Lib.compareBytes la lb)) w := by
 change Sem.run P (do pure (goInt (Extern.BytealgCompare.cmp (← Extern.Bytes.bytesOf (.slice a n ca)) (← Extern.Bytes.bytesOf (.slice b m cb))))) w = _
 simp only [Sem.run_bind, run_bytesOf hn ha, run_bytesOf hm hb, Sem.run_pure, Result.andThen]
 rw [Lib.cmp_eq, strB_list, strB_list]
 rfl
theorem cmpB_c {p q : Nat → Prop} (a b : Option Addr) (n ca m cb : Nat) (la lb : List UInt8) (w : World) (hn : la.length = n) (hm : lb.length = m) (ha : Lies w p a (la.map bv)) (hb : Lies w q b (lb.map bv)) :
  Calls Tryz.prog 84 #[.slice a n ca, .slice b m cb] w fun e w' => e = .returned (.int .i64 (Lib.compareBytes la lb)) ∧ w = w' := by
 have hC := @run_callFunc_extern Tryz.prog 138 _ Extern.BytealgCompare.compare Tryz.func138 (by kernel_rfl) (by kernel_rfl) (by kernel_rfl) (by kernel_rfl)
 have hR := run_cmpB (P := Tryz.prog) (w := w) (ca := ca) (cb := cb) hn hm ha hb
 clear ha hb hn hm
 go_enter Tryz.func84, Tryz.ntmps84
 go_wp2
 go_ret
 exact ⟨rfl, rfl⟩
/-! ### the order -/
end Go.Proofs.YtibaehlfpgipfaaGreat
