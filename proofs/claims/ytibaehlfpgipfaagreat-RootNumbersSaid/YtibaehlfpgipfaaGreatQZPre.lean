/- THE WALKS of package wire's writer on lists and structs. Printed by gen4.py. -/
import Derived.Test.YtibaehlfpgipfaaGreatQZWiX
import Derived.Test.YtibaehlfpgipfaaGreatQZEnc
namespace Go.Proofs.YtibaehlfpgipfaaGreat
open Go.RowKit
def PB (p : Nat → Prop) (n : Nat) : Nat → Prop := fun b => p b ∨ b = n
theorem PB.of {p : Nat → Prop} {n : Nat} : ∀ b, p b → PB p n b := fun _ h => .inl h
theorem Wr.box {w : World} {T : TypeId} {r : Nat} {g : Option Nat} {out : List UInt8} {p : Nat → Prop} (h : Wr w T r g out p) (o : Obj) : Wr (w.alloc o) T r g out (PB p w.heap.size) :=
 h.grow ((Keep.refl Nix w).alloc o) id (fun _ _ => id) (fun b hb => by
  rcases hb with hb | rfl
  ·have := (h.hp b hb).1
   exact ⟨by simp; omega, .inl hb⟩
  ·exact ⟨by simp, .inr (Nat.le_refl _)⟩)
theorem Lawful.box {α : Type} {R : RD α} {sz : Nat} (L : Lawful R sz) {w : World} {p : Nat → Prop} {cs : List Value} {x : α} (h : R w p cs x) (o : Obj) : R (w.alloc o) (PB p w.heap.size) cs x :=
 L.mono (L.nix h ((Keep.refl Nix w).alloc o)) PB.of
theorem Lies.box {w : World} {p : Nat → Prop} {a : Option Addr} {xs : List Value} (h : Lies w p a xs) (o : Obj) : Lies (w.alloc o) (PB p w.heap.size) a xs := (h.keep ((Keep.refl Nix w).alloc o) (fun _ _ h => h)).mono PB.of
section
variable {w w' : World} {T : TypeId} {r : Nat} {g g' : Option Nat} {out : List UInt8} {p : Nat → Prop}
theorem Lawful.go {α : Type} {R : RD α} {sz : Nat} (L : Lawful R sz) {cs : List Value} {x : α} (h : R w p cs x) (hw : Wr w T r g out p) (c : Chain r w g w' g') : R w' p cs x := L.keep h c.keep hw.free
theorem Lies.go {a : Option Addr} {xs : List Value} (h : Lies w p a xs) (hw : Wr w T r g out p) (c : Chain r w g w' g') : Lies w' p a xs := h.keep c.keep hw.free
theorem RowIs.go {b : Nat} {e : TypeId} {cs : List Value} (h : RowIs w b e cs) (hw : Wr w T r g out p) (c : Chain r w g w' g') (hp : p b) : RowIs w' b e cs := h.keep c.keep (hw.free b hp)
end
theorem wnumN (w : World) (r : Nat) (g : Option Nat) (out : List UInt8) (p : Nat → Prop) (n : Nat) (hw : Wr w 141 r g out p) (hv : isU64 (n : Int)) (hb : out.length + (numB n).length ≤ far) :
  Calls Tryz.prog 94 #[.pointer (some ⟨r, 0, none⟩), .int .u64 (n : Int)] w (Puts 141 r p w g (out ++ numB n)) := wnum_c w r g out p n hw hv hb
theorem wint_e (w : World) (r : Nat) (g : Option Nat) (out : List UInt8) (p : Nat → Prop) (v : Int) (hw : Wr w 141 r g out p) (hv : isI64 v) (hb : out.length + (encI v).length ≤ far) :
  Calls Tryz.prog 93 #[.pointer (some ⟨r, 0, none⟩), .int .i64 v] w (Puts 141 r p w g (out ++ encI v)) := wint_c w r g out p v hw hv hb
theorem wnum_e (w : World) (r : Nat) (g : Option Nat) (out : List UInt8) (p : Nat → Prop) (v : Int) (hw : Wr w 141 r g out p) (hv : isU64 v) (hb : out.length + (encU v).length ≤ far) :
  Calls Tryz.prog 94 #[.pointer (some ⟨r, 0, none⟩), .int .u64 v] w (Puts 141 r p w g (out ++ encU v)) := wnum_c w r g out p v hw hv hb
theorem ints_arg (w : World) (l : List Int) (h : ∀ v ∈ l, isI64 v) (hl : l.length ≤ far) (t : TypeId) (p : Nat → Prop) (hp : p w.heap.size) (N : Nat) (hN : w.heap.size = N) :
  rList (rInt .i64) (w.alloc (.cells (l.map (Value.int .i64)).toArray t)) p [.slice (some ⟨N, 0, none⟩) l.length l.length] l := by
 subst hN
 refine ⟨_, l.length, l.map fun v => [.int .i64 v], rfl, by simp, ?_, Nat.le_refl _, hl, fun i c x hc hx => ?_⟩
 ·have e : (l.map fun v => [Value.int .i64 v]).flatten = (l.map (Value.int .i64)).toArray.toList := by
   clear h hl
   induction l with
   | nil => rfl
   | cons v l ih => simp [ih]
  rw [e]; exact Lies.block w _ _ _ hp
 ·rw [List.getElem?_map, hx] at hc
  simp only [Option.map_some, Option.some.injEq] at hc
  subst hc
  exact ⟨rfl, Go.WalkArith.wf_i64 (h x (List.mem_of_getElem? hx))⟩
end Go.Proofs.YtibaehlfpgipfaaGreat
