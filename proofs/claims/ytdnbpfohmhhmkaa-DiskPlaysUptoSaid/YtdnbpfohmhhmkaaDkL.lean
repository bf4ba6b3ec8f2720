/- DISK: two disks side by side; Spoil at any row. Printed by mac.py. -/
import Derived.Test.YtdnbpfohmhhmkaaDkK
import Derived.Test.YtdnbpfohmhhmkaaHelpI
import Derived.Test.YtdnbpfohmhhmkaaTypes
namespace Go.Proofs.Ytdnbpfohmhhmkaa
open Go.RowKit

/-- 'Spoil': each byte is another one, in a block of one's own. -/
theorem spoilT_c (tt b n ca : Nat) (cs : List Value) (l : List UInt8) (w : World) (hn : l.length = n) (row : RowIs w b tt cs) (hl : ∀ (j : Nat) (u : Value), (l.map bv)[j]? = some u → cs[j]? = some u) (hr : n ≤ maxLen) :
    Calls Try.prog 19 #[.slice (some ⟨b, 0, none⟩) n ca] w fun e w' => e = .returned (.tuple #[]) ∧ Keep (· = b) w w' := by
  subst hn
  unfold maxLen at hr
  go_enter Try.func19, Try.ntmps19
  go_wp2
  go_loopw [2] (fun i wr => ∃ (k : Nat) (cs' : List Value), k ≤ l.length ∧ i = .int .i64 k ∧ RowIs wr b tt cs' ∧ Hid (∀ (j : Nat) (u : Value), k ≤ j → (l.map bv)[j]? = some u → cs'[j]? = some u) ∧ Keep (· = b) w wr) (fun i _ => l.length - (intOf i).toNat)
  case atStart => exact ⟨0, cs, by omega, rfl, row, fun j u _ h => hl j u h, Keep.refl _ _⟩
  case round =>
    obtain ⟨k, cs', hk, rfl, row, hc, kk⟩ := hrel
    clear hl
    by_cases hlt : k < l.length
    · have hc0 : wr.cell? ⟨b, k, none⟩ = some (.int .u8 (l[k].toNat : Int)) := by rw [row.cell]; exact hc.out k _ (Nat.le_refl _) (bv_at l k hlt)
      have hf := row.frozen k
      have row' := row.set k (.int .u8 (bits BinOp.xor IntKind.u8 (l[k].toNat : Int) 85))
      have kk' := kk.setCell (p := ⟨b, k, none⟩) (fun _ => rfl) (.int .u8 (bits BinOp.xor IntKind.u8 (l[k].toNat : Int) 85))
      have hc' : Hid (∀ (j : Nat) (u : Value), k + 1 ≤ j → (l.map bv)[j]? = some u → (cs'.set k (.int .u8 (bits BinOp.xor IntKind.u8 (l[k].toNat : Int) 85)))[j]? = some u) := fun j u hj hu => by
        rw [List.getElem?_set_ne (by omega)]; exact hc.out j u (by omega) hu
      clear row kk hc
      generalize l[k] = c at hc0 row' kk' hc'
      go_wp2
      go_roundw
      case rel => exact ⟨k + 1, _, by omega, by go_num, row', hc', kk'⟩
      case measure => simp [intOf]; omega
    · go_wp2
      go_end0
      exact ⟨rfl, kk⟩
theorem spoil_nil (w : World) : Calls Try.prog 19 #[.slice none 0 0] w fun e w' => e = .returned (.tuple #[]) ∧ w = w' := by
  go_enter Try.func19, Try.ntmps19
  go_wp2
  refine wp_loop_rounds 1 ?_
  rw [rounds_succ]
  go_wp2
  go_end0
  exact ⟨rfl, rfl⟩
abbrev St := List (List UInt8) × List (Int × List UInt8) × Bool × Int
/-- A disk of the program's and one of the reference's, apart. -/
def Duo (W w : World) (g r : Nat) (s t : St) : Prop := ∃ D R : Nat → Prop, IsDisk w D g s.1 s.2.1 s.2.2.1 s.2.2.2 ∧ IsRef w R r t.1 t.2.1 t.2.2.1 t.2.2.2 ∧ (∀ b, D b → W.heap.size ≤ b ∧ b < w.heap.size) ∧ (∀ b, R b → W.heap.size ≤ b ∧ b < w.heap.size) ∧ (∀ b, D b → ¬ R b) ∧ Keep Nix W w
theorem Duo.nix {W w w' : World} {g r : Nat} {s t : St} (h : Duo W w g r s t) (k : Keep Nix w w') : Duo W w' g r s t := by
  obtain ⟨D, R, hd, hr, hD, hR, hDR, kk⟩ := h
  exact ⟨D, R, hd.keep k (fun _ _ h => h), hr.keep k (fun _ _ h => h), fun b hb => ⟨(hD b hb).1, Nat.lt_of_lt_of_le (hD b hb).2 k.size⟩, fun b hb => ⟨(hR b hb).1, Nat.lt_of_lt_of_le (hR b hb).2 k.size⟩, hDR, kk.trans k⟩
theorem Duo.far {W w w' : World} {g r : Nat} {s t : St} {c : Nat} (h : Duo W w g r s t) (k : Keep (· = c) w w') (hc : ∀ D R : Nat → Prop, IsDisk w D g s.1 s.2.1 s.2.2.1 s.2.2.2 → IsRef w R r t.1 t.2.1 t.2.2.1 t.2.2.2 → (∀ b, D b → b < w.heap.size) → ¬ D c ∧ ¬ R c) (hW : W.heap.size ≤ c) : Duo W w' g r s t := by
  obtain ⟨D, R, hd, hr, hD, hR, hDR, kk⟩ := h
  obtain ⟨h1, h2⟩ := hc D R hd hr (fun b hb => (hD b hb).2)
  exact ⟨D, R, hd.keep k (fun b hb e => h1 (e ▸ hb)), hr.keep k (fun b hb e => h2 (e ▸ hb)), fun b hb => ⟨(hD b hb).1, Nat.lt_of_lt_of_le (hD b hb).2 k.size⟩, fun b hb => ⟨(hR b hb).1, Nat.lt_of_lt_of_le (hR b hb).2 k.size⟩, hDR, kk.then k (fun i hi e => by omega)⟩
theorem Duo.ofD {W w w' : World} {g r : Nat} {s t : St} {D R : Nat → Prop} (hd : IsDisk w' (fun b => D b ∨ w.heap.size ≤ b) g s.1 s.2.1 s.2.2.1 s.2.2.2) (k : Keep D w w') (hr : IsRef w R r t.1 t.2.1 t.2.2.1 t.2.2.2) (hD : ∀ b, D b → W.heap.size ≤ b ∧ b < w.heap.size) (hR : ∀ b, R b → W.heap.size ≤ b ∧ b < w.heap.size) (hDR : ∀ b, D b → ¬ R b) (kk : Keep Nix W w) : Duo W w' g r s t :=
  ⟨fun b => (D b ∨ w.heap.size ≤ b) ∧ b < w'.heap.size, R, hd.tight, hr.keep k (fun b hb h => hDR b h hb), fun b hb => ⟨by rcases hb.1 with h | h; exact (hD b h).1; exact Nat.le_trans kk.size h, hb.2⟩, fun b hb => ⟨(hR b hb).1, Nat.lt_of_lt_of_le (hR b hb).2 k.size⟩, fun b hb h => by rcases hb.1 with h' | h'; exact hDR b h' h; have := (hR b h).2; omega, kk.then k (fun i hi h => by have := (hD i h).1; omega)⟩
theorem Duo.ofR {W w w' : World} {g r : Nat} {s t : St} {D R : Nat → Prop} (hr : IsRef w' (fun b => R b ∨ w.heap.size ≤ b) r t.1 t.2.1 t.2.2.1 t.2.2.2) (k : Keep R w w') (hd : IsDisk w D g s.1 s.2.1 s.2.2.1 s.2.2.2) (hD : ∀ b, D b → W.heap.size ≤ b ∧ b < w.heap.size) (hR : ∀ b, R b → W.heap.size ≤ b ∧ b < w.heap.size) (hDR : ∀ b, D b → ¬ R b) (kk : Keep Nix W w) : Duo W w' g r s t :=
  ⟨D, fun b => (R b ∨ w.heap.size ≤ b) ∧ b < w'.heap.size, hd.keep k (fun b hb h => hDR b hb h), hr.tight, fun b hb => ⟨(hD b hb).1, Nat.lt_of_lt_of_le (hD b hb).2 k.size⟩, fun b hb => ⟨by rcases hb.1 with h | h; exact (hR b h).1; exact Nat.le_trans kk.size h, hb.2⟩, fun b hb h => by rcases h.1 with h' | h'; exact hDR b hb h'; have := (hD b hb).2; omega, kk.then k (fun i hi h => by have := (hR i h).1; omega)⟩
theorem Duo.both {W w1 w2 w3 : World} {g r : Nat} {s t : St} {D R : Nat → Prop} (hd : IsDisk w2 (fun b => D b ∨ w1.heap.size ≤ b) g s.1 s.2.1 s.2.2.1 s.2.2.2) (k2 : Keep D w1 w2) (hr : IsRef w3 (fun b => R b ∨ w2.heap.size ≤ b) r t.1 t.2.1 t.2.2.1 t.2.2.2) (k3 : Keep R w2 w3) (hD : ∀ b, D b → W.heap.size ≤ b ∧ b < w1.heap.size) (hR : ∀ b, R b → W.heap.size ≤ b ∧ b < w1.heap.size) (hDR : ∀ b, D b → ¬ R b) (kk : Keep Nix W w1) : Duo W w3 g r s t := by
  have kk2 : Keep Nix W w2 := kk.then k2 (fun i hi h => by have := (hD i h).1; omega)
  refine Duo.ofR (w := w2) hr k3 hd.tight (fun b hb => ⟨?_, hb.2⟩) (fun b hb => ⟨(hR b hb).1, Nat.lt_of_lt_of_le (hR b hb).2 k2.size⟩) (fun b hb h => ?_) kk2
  · rcases hb.1 with h | h
    · exact (hD b h).1
    · exact Nat.le_trans kk.size h
  · rcases hb.1 with h' | h'
    · exact hDR b h' h
    · have := (hR b h).2; omega
theorem startI {p : Nat → Prop} (g : Nat) (S : List (List UInt8)) (Q : List (Int × List UInt8)) (dn : Bool) (ar : Int) (w : World) (hd : IsDisk w p g S Q dn ar) : Calls Try.prog 14 #[.pointer (some ⟨g, 0, none⟩)] w fun e w' => e = .returned (.int .i64 0) ∧ IsDisk w' p g S (if dn then [] else Q) false 0 ∧ Keep p w w' := by
  obtain ⟨aS, cS, aQ, cQ, row, hown, howq, hp, hap, haq⟩ := hd
  refine (start_c g _ _ _ dn w row).mono ?_
  rintro e w' ⟨rfl, row5, k5⟩
  have hown5 := owned_keep hown k5 (fun b hb e => (hap b hb).2 e)
  have howq5 := owned_keep howq k5 (fun b hb e => (haq b hb).2.1 e)
  refine ⟨rfl, ?_, k5.mono (fun i hi => by rw [hi]; exact hp)⟩
  cases dn with
  | true => exact ⟨aS, cS, none, 0, row5, hown5, ⟨rfl, .inl ⟨rfl, rfl⟩⟩, hp, hap, fun b hb => by cases hb⟩
  | false => exact ⟨aS, cS, aQ, cQ, row5, hown5, howq5, hp, hap, haq⟩
theorem rstartI {p : Nat → Prop} (g : Nat) (S : List (List UInt8)) (Q : List (Int × List UInt8)) (dn : Bool) (ar : Int) (w : World) (hd : IsRef w p g S Q dn ar) : Calls Try.prog 25 #[.pointer (some ⟨g, 0, none⟩)] w fun e w' => e = .returned (.tuple #[]) ∧ IsRef w' p g S (if dn then [] else Q) false 0 ∧ Keep p w w' := by
  obtain ⟨aS, cS, aQ, cQ, row, hown, howq, hp, hap, haq⟩ := hd
  refine (rstart_c g _ _ _ dn w row).mono ?_
  rintro e w' ⟨rfl, row5, k5⟩
  have hown5 := owned_keep hown k5 (fun b hb e => (hap b hb).2 e)
  have howq5 := owned_keep howq k5 (fun b hb e => (haq b hb).2.1 e)
  refine ⟨rfl, ?_, k5.mono (fun i hi => by rw [hi]; exact hp)⟩
  cases dn with
  | true => exact ⟨aS, cS, none, 0, row5, hown5, ⟨rfl, .inl ⟨rfl, rfl⟩⟩, hp, hap, fun b hb => by cases hb⟩
  | false => exact ⟨aS, cS, aQ, cQ, row5, hown5, howq5, hp, hap, haq⟩
theorem armI {p : Nat → Prop} (g : Nat) (S : List (List UInt8)) (Q : List (Int × List UInt8)) (dn : Bool) (ar n : Int) (w : World) (hd : IsDisk w p g S Q dn ar) : Calls Try.prog 21 #[.pointer (some ⟨g, 0, none⟩), .int .i64 n] w fun e w' => e = .returned (.int .i64 0) ∧ IsDisk w' p g S Q dn (max n 0) ∧ Keep p w w' := by
  obtain ⟨aS, cS, aQ, cQ, row, hown, howq, hp, hap, haq⟩ := hd
  refine (arm_c g _ _ _ _ n w row).mono ?_
  rintro e w' ⟨rfl, row5, k5⟩
  exact ⟨rfl, ⟨aS, cS, aQ, cQ, row5, owned_keep hown k5 (fun b hb e => (hap b hb).2 e), owned_keep howq k5 (fun b hb e => (haq b hb).2.1 e), hp, hap, haq⟩, k5.mono (fun i hi => by rw [hi]; exact hp)⟩
theorem IsRef.armed {w : World} {p : Nat → Prop} {g : Nat} {S : List (List UInt8)} {Q : List (Int × List UInt8)} {dn : Bool} {ar : Int} (h : IsRef w p g S Q dn ar) (m : Int) : IsRef (w.setCell ⟨g, 2, none⟩ (.int .i64 m)) p g S Q dn m ∧ Keep p w (w.setCell ⟨g, 2, none⟩ (.int .i64 m)) ∧ w.cell? ⟨g, 2, none⟩ = some (.int .i64 ar) ∧ w.frozen? ⟨g, 2, none⟩ = false := by
  obtain ⟨aS, cS, aQ, cQ, row, hown, howq, hp, hap, haq⟩ := h
  have k5 : Keep (· = g) w (w.setCell ⟨g, 2, none⟩ (.int .i64 m)) := (Keep.refl (· = g) w).setCell (fun _ => rfl) _
  exact ⟨⟨aS, cS, aQ, cQ, row.set 2 _, owned_keep hown k5 (fun b hb e => (hap b hb).2 e), owned_keep howq k5 (fun b hb e => (haq b hb).2.1 e), hp, hap, haq⟩, k5.mono (fun i hi => by rw [hi]; exact hp), row.cell 2, row.frozen 2⟩
theorem Duo.mk' {W w1 w : World} {g r : Nat} {s t : St} {D R : Nat → Prop} (hd : IsDisk w D g s.1 s.2.1 s.2.2.1 s.2.2.2) (hr : IsRef w R r t.1 t.2.1 t.2.2.1 t.2.2.2) (hD : ∀ b, D b → W.heap.size ≤ b ∧ b < w1.heap.size) (hR : ∀ b, R b → W.heap.size ≤ b ∧ b < w1.heap.size) (hDR : ∀ b, D b → ¬ R b) (hs : w1.heap.size ≤ w.heap.size) (kk : Keep Nix W w) : Duo W w g r s t :=
  ⟨D, R, hd, hr, fun b hb => ⟨(hD b hb).1, Nat.lt_of_lt_of_le (hD b hb).2 hs⟩, fun b hb => ⟨(hR b hb).1, Nat.lt_of_lt_of_le (hR b hb).2 hs⟩, hDR, kk⟩
theorem i64_le {n : Int} (h : (Lit.int .i64 n).wf = true) : n ≤ 9223372036854775807 := (isI64_wf h).2
/-- As Duo, and the block x is neither's. -/
def DuoX (x : Nat) (W w : World) (g r : Nat) (s t : St) : Prop := ∃ D R : Nat → Prop, IsDisk w D g s.1 s.2.1 s.2.2.1 s.2.2.2 ∧ IsRef w R r t.1 t.2.1 t.2.2.1 t.2.2.2 ∧ (∀ b, D b → W.heap.size ≤ b ∧ b < w.heap.size) ∧ (∀ b, R b → W.heap.size ≤ b ∧ b < w.heap.size) ∧ (∀ b, D b → ¬ R b) ∧ Keep Nix W w ∧ ¬ D x ∧ ¬ R x
theorem DuoX.nix {x : Nat} {W w w' : World} {g r : Nat} {s t : St} (h : DuoX x W w g r s t) (k : Keep Nix w w') : DuoX x W w' g r s t := by
  obtain ⟨D, R, hd, hr, hD, hR, hDR, kk, h1, h2⟩ := h
  exact ⟨D, R, hd.keep k (fun _ _ h => h), hr.keep k (fun _ _ h => h), fun b hb => ⟨(hD b hb).1, Nat.lt_of_lt_of_le (hD b hb).2 k.size⟩, fun b hb => ⟨(hR b hb).1, Nat.lt_of_lt_of_le (hR b hb).2 k.size⟩, hDR, kk.trans k, h1, h2⟩
theorem DuoX.store {x : Nat} {W w w' : World} {g r : Nat} {s t : St} (h : DuoX x W w g r s t) (k : Keep (· = x) w w') (hx : W.heap.size ≤ x) : Duo W w' g r s t := by
  obtain ⟨D, R, hd, hr, hD, hR, hDR, kk, h1, h2⟩ := h
  exact ⟨D, R, hd.keep k (fun b hb e => h1 (e ▸ hb)), hr.keep k (fun b hb e => h2 (e ▸ hb)), fun b hb => ⟨(hD b hb).1, Nat.lt_of_lt_of_le (hD b hb).2 k.size⟩, fun b hb => ⟨(hR b hb).1, Nat.lt_of_lt_of_le (hR b hb).2 k.size⟩, hDR, kk.then k (fun i hi e => by omega)⟩
theorem DuoX.both {x : Nat} {W w1 w2 w3 : World} {g r : Nat} {s t : St} {D R : Nat → Prop} (hd : IsDisk w2 (fun b => D b ∨ w1.heap.size ≤ b) g s.1 s.2.1 s.2.2.1 s.2.2.2) (k2 : Keep D w1 w2) (hr : IsRef w3 (fun b => R b ∨ w2.heap.size ≤ b) r t.1 t.2.1 t.2.2.1 t.2.2.2) (k3 : Keep R w2 w3) (hD : ∀ b, D b → W.heap.size ≤ b ∧ b < w1.heap.size) (hR : ∀ b, R b → W.heap.size ≤ b ∧ b < w1.heap.size) (hDR : ∀ b, D b → ¬ R b) (kk : Keep Nix W w1) (hx : x < w1.heap.size) (hxD : ¬ D x) (hxR : ¬ R x) : DuoX x W w3 g r s t := by
  have h0 := kk.size
  have h1 := k2.size
  have h2 := k3.size
  refine ⟨fun b => (D b ∨ w1.heap.size ≤ b) ∧ b < w2.heap.size, fun b => (R b ∨ w2.heap.size ≤ b) ∧ b < w3.heap.size, hd.tight.keep k3 (fun b hb h => ?_), hr.tight, fun b hb => ⟨?_, by have := hb.2; omega⟩, fun b hb => ⟨?_, hb.2⟩, fun b hb h => ?_, (kk.then k2 (fun i hi h => by have := (hD i h).1; omega)).then k3 (fun i hi h => by have := (hR i h).1; omega), fun h => ?_, fun h => ?_⟩
  · rcases hb.1 with h' | h'
    · exact hDR b h' h
    · have := (hR b h).2; omega
  · rcases hb.1 with h | h
    · exact (hD b h).1
    · omega
  · rcases hb.1 with h | h
    · exact (hR b h).1
    · omega
  · rcases hb.1 with h' | h'
    · rcases h.1 with h3 | h3
      · exact hDR b h' h3
      · have := (hD b h').2; omega
    · rcases h.1 with h3 | h3
      · have := (hR b h3).2; omega
      · have := hb.2; omega
  · rcases h.1 with h' | h'
    · exact hxD h'
    · omega
  · rcases h.1 with h' | h'
    · exact hxR h'
    · omega
end Go.Proofs.Ytdnbpfohmhhmkaa
