/- BYTES THAT ARE SPOILED: cells that hold bytes hold bytes, all others are as they were. -/
import Derived.Test.YtabgbleldbapbaaGreatWT
import Derived.Test.YtabgbleldbapbaaGreatHelp
namespace Go.Proofs.YtabgbleldbapbaaGreat
open Go.RowKit

/-- n cells that hold bytes, and may be written. -/
def U8s (w : World) (p : Nat → Prop) (a : Option Addr) (n : Nat) : Prop :=
  0 < n → ∃ b off, a = some ⟨b, off, none⟩ ∧ p b ∧ b < w.heap.size ∧ (∀ j, j < n → ∃ m, w.cell? ⟨b, off + j, none⟩ = some (.int .u8 m)) ∧ ∀ j, w.frozen? ⟨b, j, none⟩ = false
theorem U8s.of {w : World} {p : Nat → Prop} {a : Option Addr} {l : List UInt8} (h : LiesW w p a (l.map bv)) : U8s w p a l.length := by
  intro hn
  obtain ⟨b, off, h1, h2, h3, h4, h5⟩ := h (by intro e; rw [List.map_eq_nil_iff] at e; subst e; simp at hn)
  exact ⟨b, off, h1, h2, h3, fun j hj => ⟨_, h4 j _ (bv_at l j hj)⟩, h5⟩
/-- From one world to another, in which bytes of the blocks p may be others. -/
structure Bent (p : Nat → Prop) (w w' : World) : Prop where
  keep : Keep p w w'
  cells : ∀ b o u, w.cell? ⟨b, o, none⟩ = some u → w'.cell? ⟨b, o, none⟩ = some u ∨ ∃ m m', u = .int .u8 m ∧ w'.cell? ⟨b, o, none⟩ = some (.int .u8 m')
  frozen : ∀ b o, b < w.heap.size → w'.frozen? ⟨b, o, none⟩ = w.frozen? ⟨b, o, none⟩
theorem Bent.refl (p : Nat → Prop) (w : World) : Bent p w w := ⟨Keep.refl _ _, fun _ _ _ h => .inl h, fun _ _ _ => rfl⟩
theorem Bent.trans {p : Nat → Prop} {a b c : World} (h : Bent p a b) (k : Bent p b c) : Bent p a c :=
  ⟨h.keep.trans k.keep, fun x o u hu => by
    rcases h.cells x o u hu with h1 | ⟨m, m', rfl, h1⟩
    · exact k.cells x o u h1
    · rcases k.cells x o _ h1 with h2 | ⟨m2, m3, -, h2⟩
      · exact .inr ⟨m, m', rfl, h2⟩
      · exact .inr ⟨m, m3, rfl, h2⟩,
   fun x o hx => (k.frozen x o (Nat.lt_of_lt_of_le hx h.keep.size)).trans (h.frozen x o hx)⟩
theorem U8s.bent {w w' : World} {p q : Nat → Prop} {a : Option Addr} {n : Nat} (h : U8s w p a n) (k : Bent q w w') : U8s w' p a n := by
  intro hn
  obtain ⟨b, off, h1, h2, h3, h4, h5⟩ := h hn
  refine ⟨b, off, h1, h2, Nat.lt_of_lt_of_le h3 k.keep.size, fun j hj => ?_, fun j => (k.frozen b j h3).trans (h5 j)⟩
  obtain ⟨m, hm⟩ := h4 j hj
  rcases k.cells _ _ _ hm with h6 | ⟨m1, m2, -, h6⟩
  · exact ⟨m, h6⟩
  · exact ⟨m2, h6⟩
theorem U8s.keep {w w' : World} {p S : Nat → Prop} {a : Option Addr} {n : Nat} (h : U8s w p a n) (k : Keep S w w') (hs : ∀ b, p b → ¬ S b) : U8s w' p a n := by
  intro hn
  obtain ⟨b, off, h1, h2, h3, h4, h5⟩ := h hn
  refine ⟨b, off, h1, h2, Nat.lt_of_lt_of_le h3 k.size, fun j hj => ?_, fun j => (k.frozen (p := ⟨b, j, none⟩) h3 (hs b h2)).trans (h5 j)⟩
  obtain ⟨m, hm⟩ := h4 j hj
  exact ⟨m, (k.cell (p := ⟨b, off + j, none⟩) h3 (hs b h2)).trans hm⟩
/-- One byte more is another one. -/
theorem Bent.set {p : Nat → Prop} {w w' : World} (h : Bent p w w') {b o : Nat} {m : Int} (hp : p b) (hc : w'.cell? ⟨b, o, none⟩ = some (.int .u8 m)) (m' : Int) : Bent p w (w'.setCell ⟨b, o, none⟩ (.int .u8 m')) := by
  refine h.trans ⟨(Keep.refl _ _).setCell (fun _ => hp) _, fun b2 o2 u hu => ?_, fun b2 o2 _ => by simp⟩
  by_cases e : b2 = b ∧ o2 = o
  · obtain ⟨rfl, rfl⟩ := e
    rw [hc] at hu
    simp only [Option.some.injEq] at hu
    exact .inr ⟨m, m', hu.symm, World.cell?_setCell_same' _ _ _ (by rw [hc]; rfl)⟩
  · left
    have hne : (⟨b, o, none⟩ : Addr) ≠ ⟨b2, o2, none⟩ := fun e2 => by
      simp only [Addr.mk.injEq, and_true] at e2
      exact e ⟨e2.1.symm, e2.2.symm⟩
    rw [World.cell?_setCell_other (h := hne)]
    exact hu
set_option maxRecDepth 100000 in
theorem spoilU_c {p : Nat → Prop} (a : Option Addr) (n ca : Nat) (w : World) (h : U8s w p a n) (hr : n ≤ maxLen) :
    Calls Tryz.prog 22 #[.slice a n ca] w fun e w' => e = .returned (.tuple #[]) ∧ Bent p w w' := by
  unfold maxLen at hr
  have hb0 : Bent p w w := Bent.refl _ _
  go_enter Tryz.func22, Tryz.ntmps22
  go_wp2_with fail
  go_loopw [2] (fun i wr => ∃ k : Nat, k ≤ n ∧ i = .int .i64 k ∧ Bent p w wr) (fun i _ => n - (intOf i).toNat)
  case atStart => exact ⟨0, by omega, rfl, hb0⟩
  case round =>
    clear hb0
    obtain ⟨k, hk, rfl, hb⟩ := hrel
    by_cases hlt : k < n
    · obtain ⟨b, off, rfl, hp, hsz, hcs, hfr⟩ := (h.bent hb) (by omega)
      obtain ⟨m, hc⟩ := hcs k hlt
      have hf := hfr (off + k)
      have hset := hb.set hp hc (bits BinOp.xor IntKind.u8 m 85)
      clear hb hcs hfr h
      go_wp2
      go_roundw
      case rel => exact ⟨k + 1, by omega, by go_num, hset⟩
      case measure => simp [intOf]; omega
    · go_wp2_with fail
      go_end0
      exact ⟨rfl, hb⟩
end Go.Proofs.YtabgbleldbapbaaGreat
