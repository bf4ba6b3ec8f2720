/- DISK: a sector stored in its place. Printed by mac.py. -/
import Derived.Test.YtdnbpfohmhhmkaaDk5
namespace Go.Proofs.Ytdnbpfohmhhmkaa
open Go.RowKit

theorem RowIs.setCells {b : Nat} {e : TypeId} : ∀ (vs : List Value) {w : World} {o : Nat} {cs : List Value}, RowIs w b e cs → o + vs.length ≤ cs.length → RowIs (w.setCells b o vs) b e (cs.take o ++ vs ++ cs.drop (o + vs.length))
  | [], w, o, cs, h, _ => by
    have e : cs.take o ++ [] ++ cs.drop (o + ([] : List Value).length) = cs := by simp
    rw [e]; exact h
  | v :: r, w, o, cs, h, hl => by
    simp only [List.length_cons] at hl
    have := RowIs.setCells r (h.set o v) (o := o + 1) (by rw [List.length_set]; omega)
    have e1 : (cs.set o v).take (o + 1) = cs.take o ++ [v] := by
      rw [List.take_succ_eq_append_getElem (by rw [List.length_set]; omega), List.getElem_set_self, List.take_set_of_le (Nat.le_refl _)]
    have e2 : (cs.set o v).drop (o + 1 + r.length) = cs.drop (o + (v :: r).length) := by
      rw [List.drop_set_of_lt (by omega), List.length_cons]; congr 1; omega
    rw [e1, e2] at this
    have e3 : cs.take o ++ [v] ++ r ++ cs.drop (o + (v :: r).length) = cs.take o ++ v :: r ++ cs.drop (o + (v :: r).length) := by simp
    rw [e3] at this
    exact this
theorem Keep.setCells (b : Nat) : ∀ (vs : List Value) (w : World) (o : Nat), Keep (· = b) w (w.setCells b o vs)
  | [], w, _ => Keep.refl _ w
  | v :: r, w, o => ((Keep.refl (· = b) w).setCell (p := ⟨b, o, none⟩) (fun _ => rfl) v).trans (Keep.setCells b r _ (o + 1))
theorem own_row {w : World} {base e sz n cap : Nat} {a : Option Addr} {xs : List Value} (h : w.ownsRow base e sz (.slice a n cap) n xs) (h0 : 0 < n) : ∃ b rest, a = some ⟨b, 0, none⟩ ∧ base ≤ b ∧ RowIs w b e (xs ++ rest) ∧ (xs ++ rest).length = cap * sz ∧ xs.length = n * sz ∧ n ≤ cap ∧ cap ≤ maxLen := by
  have hx := h.1
  obtain ⟨-, h1, h2⟩ := owned_bounds h
  cases a with
  | none =>
    rcases h.2 with ⟨h3, h4⟩ | ⟨g, cap', cur, h3, _⟩
    · omega
    · cases h3
  | some a =>
    obtain ⟨b, rest, rfl, h3, h4, h5⟩ := RowIs.of_owned h
    exact ⟨b, rest, rfl, h3, h4, h5, hx, h1, h2⟩
theorem row_own {w : World} {base e sz n cap b : Nat} {xs rest : List Value} (h : RowIs w b e (xs ++ rest)) (hb : base ≤ b) (hl : (xs ++ rest).length = cap * sz) (hx : xs.length = n * sz) (hn : n ≤ cap) (hc : cap ≤ maxLen) : w.ownsRow base e sz (.slice (some ⟨b, 0, none⟩) n cap) n xs :=
  ⟨hx, .inr ⟨b, cap, _, rfl, hb, h, hn, hc, by rw [List.size_toArray]; exact hl, by rw [← hx]; simp⟩⟩
theorem secs_app (A B : List (List UInt8)) : secs (A ++ B) = secs A ++ secs B := by simp [secs]
theorem secs_set {S : List (List UInt8)} (h : ∀ b ∈ S, b.length = 64) {k : Nat} (hk : k < S.length) {b : List UInt8} : secs (S.set k b) = (secs S).take (k * 64) ++ b.map bv ++ (secs S).drop (k * 64 + 64) := by
  have h1 : S = S.take k ++ S[k] :: S.drop (k + 1) := by rw [List.getElem_cons_drop, List.take_append_drop]
  have h2 : S.set k b = S.take k ++ b :: S.drop (k + 1) := List.set_eq_take_append_cons_drop.trans (by rw [if_pos hk])
  have e1 : (secs (S.take k)).length = k * 64 := by rw [secs_len (fun c hc => h c (List.mem_of_mem_take hc)), List.length_take]; omega
  have hc : ∀ c L, secs (c :: L) = c.map bv ++ secs L := fun c L => by simp [secs]
  have e2 : (S[k].map bv).length = 64 := by rw [List.length_map]; exact h _ (List.getElem_mem hk)
  have e3 : secs S = secs (S.take k) ++ (S[k].map bv ++ secs (S.drop (k + 1))) := by
    conv => lhs; rw [h1]
    rw [secs_app, hc]
  have e4 : (secs S).take (k * 64) = secs (S.take k) := by rw [e3, List.take_left' e1]
  have e5 : (secs S).drop (k * 64 + 64) = secs (S.drop (k + 1)) := by rw [e3, ← List.drop_drop, List.drop_left' e1, List.drop_left' e2]
  rw [h2, secs_app, hc, e4, e5, List.append_assoc]
/-- A sector stored in its place: it can be, and what all have then. -/
theorem own_sec {w : World} {aS : Option Addr} {cS : Nat} {S : List (List UInt8)} (hown : w.ownsRow 0 65 64 (.slice aS S.length cS) S.length (secs S)) (h : ∀ b ∈ S, b.length = 64) {k : Nat} (hk : k < S.length) : ∃ g, aS = some ⟨g, 0, none⟩ ∧ w.there g (k * 64) 64 ∧ ∀ b : List UInt8, b.length = 64 →
    (w.setCells g (k * 64) (b.map bv)).ownsRow 0 65 64 (.slice aS (S.set k b).length cS) (S.set k b).length (secs (S.set k b)) ∧ Keep (· = g) w (w.setCells g (k * 64) (b.map bv)) := by
  obtain ⟨g, rest, rfl, h0, row, hl, hx, hn, hm⟩ := own_row hown (by omega)
  have hlen := secs_len h
  refine ⟨g, rfl, fun j hj => ⟨?_, row.frozen _⟩, fun b hb => ⟨?_, Keep.setCells g _ w _⟩⟩
  · rw [row.cell, List.getElem?_eq_getElem (by rw [List.length_append, hlen]; omega)]; rfl
  · have hr := RowIs.setCells (b.map bv) row (o := k * 64) (by rw [List.length_map, hb, List.length_append, hlen]; omega)
    have e : (secs S ++ rest).take (k * 64) ++ b.map bv ++ (secs S ++ rest).drop (k * 64 + (b.map bv).length) = secs (S.set k b) ++ rest := by
      rw [List.length_map, hb, List.take_append_of_le_length (by rw [hlen]; omega), List.drop_append_of_le_length (by rw [hlen]; omega), secs_set h hk, List.append_assoc, List.append_assoc, List.append_assoc]
    rw [e] at hr
    have hsl : (secs (S.set k b)).length = (S.set k b).length * 64 := secs_len (fun c hc => by
      rcases List.mem_or_eq_of_mem_set hc with h' | h'
      · exact h c h'
      · rw [h']; exact hb)
    rw [List.length_set] at hsl ⊢
    exact row_own hr h0 (by rw [← hl, List.length_append, List.length_append, hsl, hlen]) hsl hn hm
end Go.Proofs.Ytdnbpfohmhhmkaa
