/- DEDUP: the reference's machine: what it is; Told. Printed by mac.py. -/
import Derived.Test.YthchpdflnpfjkaaQKdLoads
import Derived.Test.YthchpdflnpfjkaaQKdG
namespace Go.Proofs.Ythchpdflnpfjkaa
open Go.RowKit

def rEnt : RD Ent := fun w p cs x => ∃ (a : Option Addr) (c : Nat), cs = [.int .u64 x.1, .int .u64 x.2.1, .slice a x.2.2.length c] ∧ Lies w p a (x.2.2.map bv) ∧ x.2.2.length ≤ 100000 ∧ isU64 x.1 ∧ isU64 x.2.1
theorem rEnt_lawful : Lawful rEnt 3 :=
  ⟨fun ⟨_, _, h, _⟩ => by rw [h]; rfl, fun ⟨a, c, h, l, r⟩ k hs => ⟨a, c, h, l.keep k hs, r⟩, fun ⟨a, c, h, l, r⟩ hq => ⟨a, c, h, l.mono hq, r⟩⟩
theorem T_lClient : SliceT Try.prog 49 89 3 40 := SliceT.mk' Try.underlying49 (z := .agg #[.int .u64 0, .int .u64 0, .slice none 0 0]) (by kernel_rfl) rfl (by decide)
/-- The reference's machine at block bO, in the blocks Q: its tape, its clients. -/
structure OnceAt (w : World) (Q : Nat → Prop) (bO : Nat) (g : Option Nat) (tp : List (List UInt8)) (L : List Ent) (aL : Option Addr) (cL : Nat) (css : List (List Value)) : Prop where
  tape : IsTapeG w bO 51 [.slice aL L.length cL] g tp
  own : w.ownsRow 0 89 3 (.slice aL L.length cL) L.length css.flatten
  els : Els rEnt w (fun b => Q b ∧ b ≠ bO ∧ g ≠ some b ∧ ¬ OwnB (.slice aL L.length cL) b) css L
  ne : ¬ OwnB (.slice aL L.length cL) bO
  ng : ∀ b, g = some b → ¬ OwnB (.slice aL L.length cL) b
  lt : ∀ b, Q b → b < w.heap.size
  oO : Q bO
  oG : ∀ b, g = some b → Q b
  oL : ∀ b, OwnB (.slice aL L.length cL) b → Q b
theorem OnceAt.keep {w w' : World} {Q : Nat → Prop} {bO : Nat} {g : Option Nat} {tp : List (List UInt8)} {L : List Ent} {aL : Option Addr} {cL : Nat} {css : List (List Value)} (h : OnceAt w Q bO g tp L aL cL css) {S : Nat → Prop} (k : Keep S w w') (hs : ∀ b, Q b → ¬ S b) : OnceAt w' Q bO g tp L aL cL css :=
  ⟨h.tape.keep k (hs bO h.oO) (fun b hb => hs b (h.oG b hb)), owned_keep h.own k (fun b hb => hs b (h.oL b hb)), h.els.keep rEnt_lawful k (fun b hb => hs b hb.1), h.ne, h.ng, fun b hb => Nat.lt_of_lt_of_le (h.lt b hb) k.size, h.oO, h.oG, h.oL⟩
theorem OnceAt.nix {w w' : World} {Q : Nat → Prop} {bO : Nat} {g : Option Nat} {tp : List (List UInt8)} {L : List Ent} {aL : Option Addr} {cL : Nat} {css : List (List Value)} (h : OnceAt w Q bO g tp L aL cL css) (k : Keep Nix w w') : OnceAt w' Q bO g tp L aL cL css := h.keep k (fun _ _ h => h)
/-- One client's cells. -/
theorem OnceAt.cells {w : World} {Q : Nat → Prop} {bO : Nat} {g : Option Nat} {tp : List (List UInt8)} {L : List Ent} {aL : Option Addr} {cL : Nat} {css : List (List Value)} (h : OnceAt w Q bO g tp L aL cL css) {k : Nat} (hlt : k < L.length) :
    ∃ (b : Nat) (cx : List Value), aL = some ⟨b, 0, none⟩ ∧ css[k]? = some cx ∧ rEnt w (fun b => Q b ∧ b ≠ bO ∧ g ≠ some b ∧ ¬ OwnB (.slice aL L.length cL) b) cx L[k] ∧ ∀ (j : Nat) (u : Value), cx[j]? = some u → w.cell? ⟨b, k * 3 + j, none⟩ = some u := by
  have hkc : k < css.length := by rw [h.els.1]; exact hlt
  have rx := h.els.2 k css[k] L[k] (List.getElem?_eq_getElem hkc) (List.getElem?_eq_getElem hlt)
  obtain ⟨b, rest, e1, -, row, -⟩ := own_row h.own (by omega)
  refine ⟨b, css[k], e1, List.getElem?_eq_getElem hkc, rx, fun j u hu => ?_⟩
  have hf := flat_at css (fun z hz => by
    obtain ⟨i, hi, rfl⟩ := List.mem_iff_getElem.1 hz
    exact rEnt_lawful.len (h.els.2 i css[i] (L[i]'(by rw [← h.els.1]; exact hi)) (List.getElem?_eq_getElem hi) (List.getElem?_eq_getElem _))) k css[k] (List.getElem?_eq_getElem hkc) j u hu
  rw [row.cell, List.getElem?_append_left (List.getElem?_eq_some_iff.1 hf).1]
  exact hf
/-- The first of a client's. -/
def findE (L : List Ent) (c : Int) : Option (Int × List UInt8) := (L.find? (fun x => decide (x.1 = c))).map (fun x => (x.2.1, x.2.2))
def toldE (L : List Ent) (c s : Int) : List UInt8 × Bool := match L.find? (fun x => decide (x.1 = c) && decide (x.2.1 = s)) with | none => ([], false) | some x => (x.2.2, true)
theorem find_none {α : Type} (p : α → Bool) (L : List α) (h : ∀ x ∈ L, p x = false) : L.find? p = none := by
  rw [List.find?_eq_none]; intro x hx; rw [h x hx]; simp
theorem find_at {α : Type} (p : α → Bool) : ∀ (L : List α) (k : Nat) (hk : k < L.length), (∀ i (h : i < k), p (L[i]'(by omega)) = false) → p L[k] = true → L.find? p = some L[k]
  | x :: L, 0, _, _, h => by simp only [List.getElem_cons_zero] at h ⊢; simp [h]
  | x :: L, k + 1, hk, hn, h => by
    have h0 := hn 0 (by omega)
    simp only [List.getElem_cons_zero] at h0
    rw [List.find?_cons, h0]
    simp only [List.getElem_cons_succ] at h ⊢
    exact find_at p L k (by simpa using hk) (fun i hi => by have := hn (i + 1) (by omega); simpa using this) h
set_option maxRecDepth 100000 in
set_option maxHeartbeats 2000000 in
theorem otold_c (Q : Nat → Prop) (bO : Nat) (g : Option Nat) (tp : List (List UInt8)) (L : List Ent) (aL : Option Addr) (cL : Nat) (css : List (List Value)) (c s : Int) (w : World) (h : OnceAt w Q bO g tp L aL cL css) (hL : L.length ≤ 100000) :
    Calls Try.prog 40 #[.pointer (some ⟨bO, 0, none⟩), .int .u64 c, .int .u64 s] w fun e w' => ∃ a cp, e = .returned (.tuple #[.slice a (toldE L c s).1.length cp, .bool (toldE L c s).2]) ∧ w'.ownsRow w.heap.size 5 1 (.slice a (toldE L c s).1.length cp) (toldE L c s).1.length ((toldE L c s).1.map bv) ∧ Keep Nix w w' := by
  have HH := Lib.hid h
  obtain ⟨aT, cT, row, -, -⟩ := h.tape.row
  have ROW := Lib.hid row
  clear h row
  go_enter Try.func40, Try.ntmps40
  go_wp2_with fail
  go_loopw [8] (fun i wr => ∃ k : Nat, k ≤ L.length ∧ i = .int .i64 (k : Int) ∧ Hid (∀ i (h : i < k) (h2 : i < L.length), (decide (L[i].1 = c) && decide (L[i].2.1 = s)) = false) ∧ Keep Nix w wr) (fun i _ => L.length - (intOf i).toNat)
  case atStart => exact ⟨0, Nat.zero_le _, rfl, fun i h => absurd h (Nat.not_lt_zero _), Keep.refl _ _⟩
  case round =>
    obtain ⟨k, hk, rfl, hno, kk⟩ := hrel
    have row := ROW.out.keep kk id
    have x1 := row.cell 1
    (try simp only [List.getElem?_cons_succ] at x1); (try simp only [List.getElem?_cons_zero] at x1)
    have HO := Lib.hid (HH.out.nix kk)
    have HKK := Lib.hid kk
    clear row kk
    by_cases hlt : k < L.length
    · have hi0 : (0 : Int) ≤ (k : Int) := by omega
      have hi1 : (k : Int) < (L.length : Int) := by omega
      have hwk : IntKind.i64.wrap ((k : Int) + 1) = (k : Int) + 1 := by rw [IntKind.wrap_i64]; omega
      obtain ⟨b, cx, e1, -, rx, hcells⟩ := HO.out.cells hlt
      obtain ⟨x, hx⟩ : ∃ x, Hid (L[k] = x) := ⟨L[k], rfl⟩
      rw [hx.out] at rx
      obtain ⟨aA, cA, rfl, hl, hll, -, -⟩ := rx
      subst e1
      have y0 := hcells 0 _ rfl
      have y1 := hcells 1 _ rfl
      have y2 := hcells 2 _ rfl
      (try simp only [Nat.add_zero] at y0)
      have HL := Lib.hid hl
      clear hcells hl
      by_cases h1 : x.1 = c
      · have t1 : (x.1 == c) = true := by simp [h1]
        by_cases h2 : x.2.1 = s
        · have t2 : (x.2.1 == s) = true := by simp [h2]
          have HT : Hid (toldE L c s = (x.2.2, true)) := by
            show _ = _
            unfold toldE
            rw [find_at _ L k hlt (fun i hi => hno.out i hi (by omega)) (by rw [hx.out]; simp [h1, h2]), hx.out]
          clear h1 h2
          go_wp2_with (at_builtin; refine wpl_append (m := x.2.2.length) (c := cA) T_bytes ?hgd (.const (.slice none 0 0)) (.tmp 47) ?ho w.heap.size ?hs (World.ownsRow_nil wr w.heap.size 5 1) (x.2.2.map bv) ?hx ?c0 HL.out ?c1 ?c2 ?c3 ?c4 ?_)
          case hgd => rfl
          case ho => rfl
          case hs => rfl
          case hx => rfl
          case c0 => simp
          case c1 => exact bv_one _
          case c2 => unfold maxLen; omega
          case c3 => omega
          case c4 => exact HKK.out.size
          intro a' cap' w2 own2 hg2
          have k2 := Lib.hid (HKK.out.grown hg2 (fun i hi => by cases hi))
          have OW2 := Lib.hid own2
          clear own2 hg2 y0 y1 y2 x1
          go_wp2_with fail
          refine bodyPost_ret (results_tmp2 rfl _ _ _) rfl ?_
          rw [HT.out]
          exact ⟨a', cap', by (try rw [Nat.zero_add]); rfl, OW2.out, k2.out⟩
        · have t2 : (x.2.1 == s) = false := by simp [h2]
          have HNX : Hid (∀ i (h : i < k + 1) (h2 : i < L.length), (decide (L[i].1 = c) && decide (L[i].2.1 = s)) = false) := fun i hi hi2 => by
            rcases Nat.lt_or_ge i k with h | h
            · exact hno.out i h hi2
            · obtain rfl : i = k := by omega
              rw [hx.out]; simp [h2]
          clear h1 h2
          go_wp2_with fail
          go_roundw
          case rel => exact ⟨k + 1, by omega, by go_num, by show ∀ i (h : i < k + 1) (h2 : i < L.length), _; exact HNX.out, HKK.out⟩
          case measure => simp [intOf]; omega
      · have t1 : (x.1 == c) = false := by simp [h1]
        have HNX : Hid (∀ i (h : i < k + 1) (h2 : i < L.length), (decide (L[i].1 = c) && decide (L[i].2.1 = s)) = false) := fun i hi hi2 => by
          rcases Nat.lt_or_ge i k with h | h
          · exact hno.out i h hi2
          · obtain rfl : i = k := by omega
            rw [hx.out]; simp [h1]
        clear h1
        go_wp2_with fail
        go_roundw
        case rel => exact ⟨k + 1, by omega, by go_num, by show ∀ i (h : i < k + 1) (h2 : i < L.length), _; exact HNX.out, HKK.out⟩
        case measure => simp [intOf]; omega
    · obtain rfl : k = L.length := by omega
      have HT : Hid (toldE L c s = ([], false)) := by
        show _ = _
        unfold toldE
        rw [find_none _ L (fun x hx => by
          obtain ⟨i, hi, rfl⟩ := List.mem_iff_getElem.1 hx
          exact hno.out i hi hi)]
      go_wp2_with fail
      refine bodyPost_ret (results_tmp2 rfl _ _ _) rfl ?_
      rw [HT.out]
      exact ⟨none, 0, rfl, World.ownsRow_nil _ _ _ _, HKK.out⟩
end Go.Proofs.Ythchpdflnpfjkaa
