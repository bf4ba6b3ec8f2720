/- LOCK: readings of locks whose keys may be written; bytes that are spoiled. Printed by mac.py. -/
import Derived.Test.YtfagejfcibgigaaQLkA
namespace Go.Proofs.Ytfagejfcibgigaa
open Go.RowKit

theorem LiesW.mono {w : World} {p q : Nat → Prop} {a : Option Addr} {xs : List Value} (h : LiesW w p a xs) (hq : ∀ b, p b → q b) : LiesW w q a xs := fun hx => by
  obtain ⟨b, off, h1, h2, r⟩ := h hx
  exact ⟨b, off, h1, hq b h2, r⟩
theorem LiesW.of_owned2 {w : World} {base : Nat} {e sz : Nat} {a : Option Addr} {n m cap : Nat} {xs : List Value} (h : w.ownsRow base e sz (.slice a n cap) m xs) : LiesW w (fun b => base ≤ b ∧ (Value.slice a n cap).ownBlock = some b) a xs := by
  intro hx
  rcases h.2 with ⟨h1, rfl⟩ | ⟨g, cap', cur, h1, hb, hg, _⟩
  · exact absurd (List.eq_nil_of_length_eq_zero (by simpa using h.1)) hx
  · cases h1
    refine ⟨g, 0, rfl, ⟨hb, rfl⟩, (Array.getElem?_eq_some_iff.1 hg).1, fun j u hu => ?_, fun j => frozen_of_row w g j cur e hg⟩
    have := h.cells (g := g) rfl j u hu
    rw [Addr.add_lit] at this
    exact this
theorem Els_to {α : Type} {R R' : RD α} (f : ∀ {w : World} {p : Nat → Prop} {cs : List Value} {x : α}, R w p cs x → R' w p cs x) {w : World} {p : Nat → Prop} {css : List (List Value)} {l : List α} (h : Els R w p css l) : Els R' w p css l :=
  ⟨h.1, fun i c x hc hx => f (h.2 i c x hc hx)⟩
def wGWrite : RD GWrite := fun w p cs x => ∃ (aK : Option Addr) (cK : Nat) (aV : Option Addr) (cV : Nat), cs = [.slice aK x.fKey.length cK, .slice aV x.fValue.length cV, .bool x.fDrop] ∧ rBytesW w p [.slice aK x.fKey.length cK] x.fKey ∧ rBytes w p [.slice aV x.fValue.length cV] x.fValue
theorem wGWrite_lawful : Lawful wGWrite 3 :=
  ⟨fun ⟨_, _, _, _, h, _⟩ => by rw [h]; rfl,
   fun ⟨aK, cK, aV, cV, h, h1, h2⟩ k hs => ⟨aK, cK, aV, cV, h, rBytesW_lawful.keep h1 k hs, rBytes_lawful.keep h2 k hs⟩,
   fun ⟨aK, cK, aV, cV, h, h1, h2⟩ hq => ⟨aK, cK, aV, cV, h, rBytesW_lawful.mono h1 hq, rBytes_lawful.mono h2 hq⟩⟩
theorem bytesR_in {w : World} {p : Nat → Prop} {a : Option Addr} {c : Nat} {l : List UInt8} (h : rBytes w p [.slice a l.length c] l) : Lies w p a (l.map bv) ∧ l.length ≤ c ∧ l.length ≤ far := by
  obtain ⟨a', c', e, h⟩ := h
  simp only [List.cons.injEq, Value.slice.injEq, and_true, true_and] at e
  obtain ⟨rfl, rfl⟩ := e
  exact h
theorem bytesW_in {w : World} {p : Nat → Prop} {a : Option Addr} {c : Nat} {l : List UInt8} (h : rBytesW w p [.slice a l.length c] l) : LiesW w p a (l.map bv) ∧ l.length ≤ c ∧ l.length ≤ far := by
  obtain ⟨a', c', e, h⟩ := h
  simp only [List.cons.injEq, Value.slice.injEq, and_true, true_and] at e
  obtain ⟨rfl, rfl⟩ := e
  exact h
theorem wGWrite_to {w : World} {p : Nat → Prop} {cs : List Value} {x : GWrite} (h : wGWrite w p cs x) : rGWrite w p cs x := by
  obtain ⟨aK, cK, aV, cV, rfl, h1, h2⟩ := h
  exact rGWrite_mk w p (bytesR_in (rBytesW_to h1)) (bytesR_in h2)
/-- A lock whose keys (and the keys that it writes) may be written. -/
def wGHeld : RD GHeld := fun w p cs h => ∃ (aK : Option Addr) (cK : Nat) (aS : Option Addr) (cS : Nat) (aW : Option Addr) (cW : Nat), cs = [.int .u64 h.fTxn, .slice aK h.fKeys.length cK, .slice aS h.fSpans.length cS, .slice aW h.fWrites.length cW] ∧ isU64 h.fTxn ∧ rList rBytesW w p [.slice aK h.fKeys.length cK] h.fKeys ∧ rList rGSpan w p [.slice aS h.fSpans.length cS] h.fSpans ∧ rList wGWrite w p [.slice aW h.fWrites.length cW] h.fWrites
theorem wGHeld_lawful : Lawful wGHeld 4 :=
  ⟨fun ⟨_, _, _, _, _, _, h, _⟩ => by rw [h]; rfl,
   fun ⟨aK, cK, aS, cS, aW, cW, h, ht, h1, h2, h3⟩ k hs => ⟨aK, cK, aS, cS, aW, cW, h, ht, (rList_lawful rBytesW_lawful).keep h1 k hs, (rList_lawful rGSpan_lawful).keep h2 k hs, (rList_lawful wGWrite_lawful).keep h3 k hs⟩,
   fun ⟨aK, cK, aS, cS, aW, cW, h, ht, h1, h2, h3⟩ hq => ⟨aK, cK, aS, cS, aW, cW, h, ht, (rList_lawful rBytesW_lawful).mono h1 hq, (rList_lawful rGSpan_lawful).mono h2 hq, (rList_lawful wGWrite_lawful).mono h3 hq⟩⟩
theorem wGHeld_to {w : World} {p : Nat → Prop} {cs : List Value} {h : GHeld} (H : wGHeld w p cs h) : rGHeld w p cs h := by
  obtain ⟨aK, cK, aS, cS, aW, cW, rfl, ht, h1, h2, h3⟩ := H
  exact rGHeld_mk w p ht (rList_to (fun h => rBytesW_to h) h1) h2 (rList_to (fun h => wGWrite_to h) h3)
/-- n cells that hold bytes, and may be written. -/
def U8s (w : World) (p : Nat → Prop) (a : Option Addr) (n : Nat) : Prop :=
  0 < n → ∃ b off, a = some ⟨b, off, none⟩ ∧ p b ∧ b < w.heap.size ∧ (∀ j, j < n → ∃ m, w.cell? ⟨b, off + j, none⟩ = some (.int .u8 m)) ∧ ∀ j, w.frozen? ⟨b, j, none⟩ = false
theorem U8s.of {w : World} {p : Nat → Prop} {a : Option Addr} {l : List UInt8} (h : LiesW w p a (l.map bv)) : U8s w p a l.length := by
  intro hn
  obtain ⟨b, off, h1, h2, h3, h4, h5⟩ := h (by intro e; rw [List.map_eq_nil_iff] at e; subst e; simp at hn)
  exact ⟨b, off, h1, h2, h3, fun j hj => ⟨_, h4 j _ (bv_at l j hj)⟩, h5⟩
/-- From one world to another, in which numbers of the blocks p may be others, of the same kinds. -/
structure Bent (p : Nat → Prop) (w w' : World) : Prop where
  keep : Keep p w w'
  cells : ∀ b o u, w.cell? ⟨b, o, none⟩ = some u → w'.cell? ⟨b, o, none⟩ = some u ∨ ∃ k m m', u = .int k m ∧ w'.cell? ⟨b, o, none⟩ = some (.int k m')
  frozen : ∀ b o, b < w.heap.size → w'.frozen? ⟨b, o, none⟩ = w.frozen? ⟨b, o, none⟩
theorem Bent.refl (p : Nat → Prop) (w : World) : Bent p w w := ⟨Keep.refl _ _, fun _ _ _ h => .inl h, fun _ _ _ => rfl⟩
theorem Bent.trans {p : Nat → Prop} {a b c : World} (h : Bent p a b) (k : Bent p b c) : Bent p a c :=
  ⟨h.keep.trans k.keep, fun x o u hu => by
    rcases h.cells x o u hu with h1 | ⟨q, m, m', rfl, h1⟩
    · exact k.cells x o u h1
    · rcases k.cells x o _ h1 with h2 | ⟨q2, m2, m3, e, h2⟩
      · exact .inr ⟨q, m, m', rfl, h2⟩
      · cases e
        exact .inr ⟨q, m, m3, rfl, h2⟩,
   fun x o hx => (k.frozen x o (Nat.lt_of_lt_of_le hx h.keep.size)).trans (h.frozen x o hx)⟩
/-- A slice is as it was. -/
theorem Bent.slice {p : Nat → Prop} {w w' : World} (h : Bent p w w') {b o : Nat} {a : Option Addr} {n c : Nat} (hc : w.cell? ⟨b, o, none⟩ = some (.slice a n c)) : w'.cell? ⟨b, o, none⟩ = some (.slice a n c) := by
  rcases h.cells b o _ hc with h1 | ⟨_, _, _, e, -⟩
  · exact h1
  · cases e
theorem Bent.num {p : Nat → Prop} {w w' : World} (h : Bent p w w') {b o : Nat} {k : IntKind} {m : Int} (hc : w.cell? ⟨b, o, none⟩ = some (.int k m)) : ∃ m', w'.cell? ⟨b, o, none⟩ = some (.int k m') := by
  rcases h.cells b o _ hc with h1 | ⟨_, _, m', e, h1⟩
  · exact ⟨m, h1⟩
  · cases e; exact ⟨m', h1⟩
theorem U8s.bent {w w' : World} {p q : Nat → Prop} {a : Option Addr} {n : Nat} (h : U8s w p a n) (k : Bent q w w') : U8s w' p a n := by
  intro hn
  obtain ⟨b, off, h1, h2, h3, h4, h5⟩ := h hn
  refine ⟨b, off, h1, h2, Nat.lt_of_lt_of_le h3 k.keep.size, fun j hj => ?_, fun j => (k.frozen b j h3).trans (h5 j)⟩
  obtain ⟨m, hm⟩ := h4 j hj
  exact k.num hm
/-- One number more is another one. -/
theorem Bent.set {p : Nat → Prop} {w w' : World} (h : Bent p w w') {b o : Nat} {k : IntKind} {m : Int} (hp : p b) (hc : w'.cell? ⟨b, o, none⟩ = some (.int k m)) (m' : Int) : Bent p w (w'.setCell ⟨b, o, none⟩ (.int k m')) := by
  refine h.trans ⟨(Keep.refl _ _).setCell (fun _ => hp) _, fun b2 o2 u hu => ?_, fun b2 o2 _ => by simp⟩
  by_cases e : b2 = b ∧ o2 = o
  · obtain ⟨rfl, rfl⟩ := e
    rw [hc] at hu
    simp only [Option.some.injEq] at hu
    exact .inr ⟨k, m, m', hu.symm, World.cell?_setCell_same' _ _ _ (by rw [hc]; rfl)⟩
  · left
    have hne : (⟨b, o, none⟩ : Addr) ≠ ⟨b2, o2, none⟩ := fun e2 => by
      simp only [Addr.mk.injEq, and_true] at e2
      exact e ⟨e2.1.symm, e2.2.symm⟩
    rw [World.cell?_setCell_other (h := hne)]
    exact hu
set_option maxRecDepth 100000 in
theorem spoilU_c {p : Nat → Prop} (a : Option Addr) (n ca : Nat) (w : World) (h : U8s w p a n) (hr : n ≤ maxLen) :
    Calls Try.prog 23 #[.slice a n ca] w fun e w' => e = .returned (.tuple #[]) ∧ Bent p w w' := by
  unfold maxLen at hr
  have hb0 : Bent p w w := Bent.refl _ _
  go_enter Try.func23, Try.ntmps23
  go_wp2_with fail
  go_loopw [2] (fun i wr => ∃ k : Nat, k ≤ n ∧ i = .int .i64 k ∧ Bent p w wr) (fun i _ => n - (intOf i).toNat)
  case atStart => exact ⟨0, by omega, rfl, hb0⟩
  case round =>
    clear hb0
    obtain ⟨k, hk, rfl, hb⟩ := hrel
    by_cases hlt : k < n
    · obtain ⟨b, off, rfl, hp, hsz, hcs, hfr⟩ := (h.bent hb) (by omega)
      obtain ⟨m, hc⟩ := hcs k hlt
      have hf := hfr (off + k)
      have hset := hb.set hp hc (bits BinOp.xor IntKind.u8 m 85)
      clear hb hcs hfr h
      go_wp2
      go_roundw
      case rel => exact ⟨k + 1, by omega, by go_num, hset⟩
      case measure => simp [intOf]; omega
    · go_wp2_with fail
      go_end0
      exact ⟨rfl, hb⟩
end Go.Proofs.Ytfagejfcibgigaa
