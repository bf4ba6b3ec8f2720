/- READERS OF STRUCTS: what is read, plainly (Ps); what a reader's method ends with (Gets); the walks of the leaves of package wire's reader. -/
import Derived.Test.YtabgbleldbapbaaGreatRead2
import Derived.Test.YtabgbleldbapbaaGreatWT
import Derived.Test.YtabgbleldbapbaaGreatWhole
import Derived.Maps.AppendAt
namespace Go.Proofs.YtabgbleldbapbaaGreat
open Go.RowKit

/-! ### plainly -/
abbrev Ps (α : Type) := RdS → α × RdS
def pNum : Ps Int := fun s => (((numS maxU s).1 : Int), (numS maxU s).2)
def pInt : Ps Int := fun s => (zag (numS maxU s).1, (numS maxU s).2)
def pFlag : Ps Bool := fun s => (decide (((numS 1 s).1 : Int) = 1), (numS 1 s).2)
def pBytes : Ps (List UInt8) := textS 65536
def pMany {α : Type} (f : Ps α) : Nat → RdS → List α × RdS
  | 0, s => ([], s)
  | n + 1, s => if s.e = 0 then ((f s).1 :: (pMany f n (f s).2).1, (pMany f n (f s).2).2) else ([], s)
def pList {α : Type} (f : Ps α) : Ps (List α) := fun s => pMany f (numS 5000 s).1 (numS 5000 s).2

/-- What was made between two worlds. -/
def NewIn (w w' : World) : Nat → Prop := fun b => w.heap.size ≤ b ∧ b < w'.heap.size
def NewAt (n : Nat) (w' : World) : Nat → Prop := fun b => n ≤ b ∧ b < w'.heap.size
theorem NewIn.up {w0 w w' w1 : World} (h0 : w0.heap.size ≤ w.heap.size) (h1 : w'.heap.size ≤ w1.heap.size) : ∀ b, NewIn w w' b → NewIn w0 w1 b := fun _ h => ⟨Nat.le_trans h0 h.1, Nat.lt_of_lt_of_le h.2 h1⟩

/-- What a reader's method ends with that yields one cell. -/
def GetsV {α : Type} (R : RD α) (T rd : Nat) (p : Nat → Prop) (w : World) (y : α × RdS) (e : Ending) (w' : World) : Prop := ∃ v, e = .returned v ∧ R w' (NewIn w w') [v] y.1 ∧ IsRd w' T rd p y.2 ∧ Keep (· = rd) w w'
/-- .. that yields a struct. -/
def GetsS {α : Type} (R : RD α) (T rd : Nat) (p : Nat → Prop) (w : World) (y : α × RdS) (e : Ending) (w' : World) : Prop := ∃ cs : List Value, e = .returned (.agg cs.toArray) ∧ R w' (NewIn w w') cs y.1 ∧ ones cs = true ∧ IsRd w' T rd p y.2 ∧ Keep (· = rd) w w'
theorem zag_wf {v : Nat} (h : v < 2 ^ 64) : (Lit.int .i64 (zag v)).wf = true := by
  refine Go.WalkArith.wf_i64 ?_
  unfold zag; split <;> omega
theorem num_wf {v : Nat} (h : v < 2 ^ 64) : (Lit.int .u64 (v : Int)).wf = true := Go.WalkArith.wf_u64 (by omega)
theorem textS_len (m : Nat) (s : RdS) : (textS m s).1.length ≤ m := by
  unfold textS
  split
  · simp
  · split
    · simp
    · split
      · simp
      · have := numS_le m s; simp; omega
section
variable (rd : Nat) (p : Nat → Prop) (s : RdS) (w : World) (h : IsRd w 165 rd p s)
include h
theorem rnum_g : Calls Tryz.prog 95 #[.agg #[.pointer (some ⟨rd, 0, none⟩)]] w fun e w' => e = .returned (.int .u64 (pNum s).1) ∧ IsRd w' 165 rd p (pNum s).2 ∧ Keep (· = rd) w w' := by
  have h0 := h.nix ((Keep.refl Nix w).alloc (.cells #[.pointer (some ⟨rd, 0, none⟩)] 85))
  clear h
  go_enter Tryz.func95, Tryz.ntmps95
  go_wp2_with fail
  go_fit (Num_rd rd p s _ h0)
  rintro e w1 ⟨rfl, h1, k1⟩
  have k2 := ((Keep.refl (· = rd) w).alloc (.cells #[.pointer (some ⟨rd, 0, none⟩)] 85)).trans (k1.mono fun _ h => h)
  clear k1 h0
  go_wp2
  go_ret
  exact ⟨rfl, h1, k2⟩
theorem rint_g : Calls Tryz.prog 101 #[.agg #[.pointer (some ⟨rd, 0, none⟩)]] w fun e w' => e = .returned (.int .i64 (pInt s).1) ∧ IsRd w' 165 rd p (pInt s).2 ∧ Keep (· = rd) w w' := by
  have h0 := h.nix ((Keep.refl Nix w).alloc (.cells #[.pointer (some ⟨rd, 0, none⟩)] 85))
  clear h
  go_enter Tryz.func101, Tryz.ntmps101
  go_wp2_with fail
  go_fit (Int_rd rd p s _ h0)
  rintro e w1 ⟨rfl, h1, k1⟩
  have k2 := ((Keep.refl (· = rd) w).alloc (.cells #[.pointer (some ⟨rd, 0, none⟩)] 85)).trans (k1.mono fun _ h => h)
  clear k1 h0
  go_wp2
  go_ret
  exact ⟨rfl, h1, k2⟩
theorem rflag_g : Calls Tryz.prog 102 #[.agg #[.pointer (some ⟨rd, 0, none⟩)]] w fun e w' => e = .returned (.bool (pFlag s).1) ∧ IsRd w' 165 rd p (pFlag s).2 ∧ Keep (· = rd) w w' := by
  have h0 := h.nix ((Keep.refl Nix w).alloc (.cells #[.pointer (some ⟨rd, 0, none⟩)] 85))
  clear h
  go_enter Tryz.func102, Tryz.ntmps102
  go_wp2_with fail
  go_fit (Small_rd rd p s _ h0 1 (by unfold isI64; omega))
  rintro e w1 ⟨rfl, h1, k1⟩
  have k2 := ((Keep.refl (· = rd) w).alloc (.cells #[.pointer (some ⟨rd, 0, none⟩)] 85)).trans (k1.mono fun _ h => h)
  clear k1 h0
  go_wp2
  go_ret
  refine ⟨ret_bool ?_, h1, k2⟩
  unfold pFlag
  rw [Bool.eq_iff_iff]; simp
theorem rbytes_g : Calls Tryz.prog 96 #[.agg #[.pointer (some ⟨rd, 0, none⟩)]] w (GetsV rBytesW 165 rd p w (pBytes s)) := by
  have h0 := h.nix ((Keep.refl Nix w).alloc (.cells #[.pointer (some ⟨rd, 0, none⟩)] 85))
  have hl := Lib.hid (textS_len 65536 s)
  clear h
  go_enter Tryz.func96, Tryz.ntmps96
  go_wp2_with fail
  go_fit (Text_rd rd p s _ h0 65536 (by unfold isI64; omega))
  rintro e w1 ⟨a, cap, rfl, own, h1, k1⟩
  have k2 := ((Keep.refl (· = rd) w).alloc (.cells #[.pointer (some ⟨rd, 0, none⟩)] 85)).trans (k1.mono fun _ h => h)
  have hb := owned_bounds own
  have hr : rBytesW w1 (NewIn w w1) [.slice a (textS 65536 s).1.length cap] (textS 65536 s).1 := by
    refine ⟨a, cap, rfl, fun hx => ?_, hb.2.1, by have := hl.out; unfold far; omega⟩
    obtain ⟨b, off, ha, hp, hb, hc⟩ := LiesW.of_owned own hx
    exact ⟨b, off, ha, ⟨by simp at hp; omega, hb⟩, hb, hc⟩
  have hh : Hid (textS (65536 : Int).toNat s = pBytes s) := rfl
  clear k1 h0 own hl hb
  go_wp2
  go_ret
  exact ⟨_, rfl, hr, h1, k2⟩
end
theorem rtext_g (rd : Nat) (p : Nat → Prop) (s : RdS) (w : World) (h : IsRd w 165 rd p s) : Calls Tryz.prog 112 #[.agg #[.pointer (some ⟨rd, 0, none⟩)]] w fun e w' => e = .returned (.string (strB (pBytes s).1)) ∧ IsRd w' 165 rd p (pBytes s).2 ∧ Keep (· = rd) w w' := by
  have h0 := h.nix ((Keep.refl Nix w).alloc (.cells #[.pointer (some ⟨rd, 0, none⟩)] 85))
  clear h
  go_enter Tryz.func112, Tryz.ntmps112
  go_wp2_with fail
  go_fit (rbytes_g rd p s _ h0)
  rintro e w1 ⟨v, rfl, ⟨a, cap, hv, hl, -, -⟩, h1, k1⟩
  simp only [List.cons.injEq, and_true] at hv
  subst hv
  have k2 := ((Keep.refl (· = rd) w).alloc (.cells #[.pointer (some ⟨rd, 0, none⟩)] 85)).trans (k1.mono fun _ h => h)
  have hcv := conv_bytes (P := Tryz.prog) Tryz.underlying22 Tryz.underlying5 Tryz.underlying9 (cap := cap) rfl hl.lies
  clear k1 h0 hl
  go_wp2
  go_ret
  exact ⟨rfl, h1, k2⟩

/-! ### a list of one element, and what it is appended to -/
def listSem (T n : Nat) (parts : Array (Nat × Value)) : Sem Next := do pure (.value (← Instr.buildSlice T n parts))
theorem list_run {P : Program} {t e n bytes : Nat} (S : SliceT P t e n bytes) (hn : n ≤ 100) (cs : List Value) (hc : cs.length = n) (w : World) :
    (listSem t 1 #[(0, .agg cs.toArray)]).run P w = .ok (.value (.slice (some ⟨w.heap.size, 0, none⟩) 1 1)) (w.alloc (.cells cs.toArray e)) := by
  obtain ⟨i, z, hi, hz, hsz, hby, hzs⟩ := S.info
  have hpos := S.pos
  have hf : ∀ Z : Array Value, Z.size = n → Instr.fill (fun j => some (j * n, n)) Z [(0, .agg cs.toArray)] = some cs.toArray := by
    intro Z hZ
    have := fill_parts (fun j => some (j * n, n)) [.agg cs.toArray] 0 [] Z.toList (by rw [joined_len, joined_len0, size_agg, hc]; simpa using hZ) (fun k v hv => by
      match k, hv with
      | 0, hv => simp at hv; subst hv; simp [joined, Value.cells, hc])
    have e : ([] ++ Z.toList).toArray = Z := by simp
    rw [e] at this
    simpa [numbered, joined, Value.cells] using this
  have hf2 := hf ((Array.range (1 * n)).map (z.cells[· % z.cells.size]!)) (by simp)
  unfold listSem Instr.buildSlice
  simp [run_underlying S.under, sizeOf, typeInfo, hi, hz, hsz, show ¬ (16777216 < n) by omega, show n ≠ 0 by omega, zeroValue, newRow, newObj]
  simp only [Nat.one_mul] at hf2
  rw [hf2]
  rfl
theorem rBytes_open {w : World} {p : Nat → Prop} {cs : List Value} {l : List UInt8} (h : rBytes w p cs l) : ∃ a cap, cs = [.slice a l.length cap] ∧ rBytes w p [.slice a l.length cap] l := by
  obtain ⟨a, cap, rfl, h⟩ := h
  exact ⟨a, cap, rfl, a, cap, rfl, h⟩
theorem IsRd.lt {w : World} {T rd : Nat} {p : Nat → Prop} {s : RdS} (h : IsRd w T rd p s) : rd < w.heap.size := by
  obtain ⟨a, cap, h1, -⟩ := h.row
  exact RowIs.lt h1
/-- Elements, cells by cells. -/
def Els {α : Type} (R : RD α) (w : World) (p : Nat → Prop) (css : List (List Value)) (xs : List α) : Prop := css.length = xs.length ∧ ∀ (i : Nat) (c : List Value) (x : α), css[i]? = some c → xs[i]? = some x → R w p c x
theorem Els.nil {α : Type} (R : RD α) (w : World) (p : Nat → Prop) : Els R w p [] [] := ⟨rfl, fun i c x h => by simp at h⟩
section
variable {α : Type} {R : RD α} {sz : Nat} {w wr w2 w3 : World} {p q : Nat → Prop} {css : List (List Value)} {xs : List α}
theorem Els.keep (h : Els R w p css xs) (L : Lawful R sz) {S : Nat → Prop} (k : Keep S w wr) (hs : ∀ b, p b → ¬ S b) : Els R wr p css xs := ⟨h.1, fun i c x hc hx => L.keep (h.2 i c x hc hx) k hs⟩
theorem Els.mono (h : Els R w p css xs) (L : Lawful R sz) (hq : ∀ b, p b → q b) : Els R w q css xs := ⟨h.1, fun i c x hc hx => L.mono (h.2 i c x hc hx) hq⟩
theorem Els.snoc (h : Els R w p css xs) {c : List Value} {x : α} (hc : R w p c x) : Els R w p (css ++ [c]) (xs ++ [x]) := by
  refine ⟨by simp [h.1], fun i d y hd hy => ?_⟩
  by_cases hi : i < css.length
  · rw [List.getElem?_append_left hi] at hd
    rw [List.getElem?_append_left (by rw [← h.1]; exact hi)] at hy
    exact h.2 i d y hd hy
  · rw [List.getElem?_append_right (by omega)] at hd
    rw [List.getElem?_append_right (by rw [← h.1]; omega)] at hy
    have h0 : i - css.length = 0 := by have := (List.getElem?_eq_some_iff.1 hd).1; simp at this; omega
    rw [h0] at hd
    rw [← h.1, h0] at hy
    simp at hd hy
    subst hd hy
    exact hc
theorem Els.push {rd : Nat} {v v' : Value} {c : List Value} {x : α} (els : Els R wr (fun b => NewIn w wr b ∧ ¬ OwnB v b) css xs) (L : Lawful R sz) (hc : R w2 (NewIn wr w2) c x) (k2 : Keep (· = rd) wr w2) (k3 : Keep (OwnB v) w2 w3) (hrd : rd < w.heap.size) (hw : w.heap.size ≤ wr.heap.size)
    (hv : ∀ b, OwnB v b → b < wr.heap.size) (hn : ∀ b, OwnB v' b → OwnB v b ∨ w2.heap.size ≤ b) : Els R w3 (fun b => NewIn w w3 b ∧ ¬ OwnB v' b) (css ++ [c]) (xs ++ [x]) := by
  have s2 := k2.size
  have s3 := k3.size
  refine Els.snoc ?_ ?_
  · refine ((els.keep L k2 (fun b hb e => by have := hb.1.1; omega)).keep L k3 (fun b hb => hb.2)).mono L (fun b hb => ⟨⟨hb.1.1, by have := hb.1.2; omega⟩, fun h => ?_⟩)
    rcases hn b h with h | h
    · exact hb.2 h
    · have := hb.1.2; omega
  · refine L.mono (L.keep hc k3 (fun b hb h => by have := hv b h; have := hb.1; omega)) (fun b hb => ⟨⟨by have := hb.1; omega, by have := hb.2; omega⟩, fun h => ?_⟩)
    rcases hn b h with h | h
    · have := hv b h; have := hb.1; omega
    · have := hb.2; omega
theorem Els.list {e : Nat} {a : Option Addr} {cap base : Nat} {y : List α} (hb : w.heap.size ≤ base) (own : wr.ownsRow base e sz (.slice a xs.length cap) xs.length css.flatten) (els : Els R wr (fun b => NewIn w wr b ∧ ¬ OwnB (.slice a xs.length cap) b) css xs) (L : Lawful R sz) (hy : y = xs) (hf : xs.length ≤ far) :
    rList R wr (NewIn w wr) [.slice a xs.length cap] y := by
  subst hy
  refine ⟨a, cap, css, rfl, els.1, fun hx => ?_, (owned_bounds own).2.1, hf, (els.mono L (fun b h => h.1)).2⟩
  obtain ⟨b, off, ha, hp, hlt, hc⟩ := Lies.of_owned own hx
  exact ⟨b, off, ha, ⟨Nat.le_trans hb hp.1, hlt⟩, hlt, hc⟩
end
/-- 'append(s, x)', x laid in a new block: and where the new row lies. -/
theorem wpl_append1_at {P : Program} {t e sz bytes : Nat} (T : SliceT P t e sz bytes) {w : World} {cs : Array Value} {t' : TypeId} {ops : Array Oper} {rest : List Oper} {o : Oper} {a : Act} {Q : Exit → Act → World → Prop} (hgd : o.guard = none) (s x : Operand)
    (ho : o.op = .call { callee := .builtin .append, args := #[s, x], argTypes := #[t, t] })
    (base : Nat) {v : Value} {n : Nat} {xs : List Value} (hs : a.eval s = v) (hown : w.ownsRow base e sz v n xs)
    {c : Nat} (hx : a.eval x = .slice (some ⟨w.heap.size, 0, none⟩) 1 c) (hl : cs.size = sz) (h1 : ∀ u ∈ cs.toList, u.oneCell' = true)
    (h63 : n + 1 ≤ maxLen) (hbytes : (n + 1) * bytes ≤ 140737488355328) (hbase : base ≤ w.heap.size)
    (h : ∀ a' cap' w', w'.ownsRow base e sz (.slice a' (n + 1) cap') (n + 1) (xs ++ cs.toList) → Keep (OwnB v) w w' → (∀ b, OwnB (.slice a' (n + 1) cap') b → OwnB v b ∨ w.heap.size ≤ b) → wpList P ops Q rest (a.put o.dst (.slice a' (n + 1) cap')) w') :
    wpList P ops Q (o :: rest) a (w.alloc (.cells cs t')) := by
  obtain ⟨i, z, hi, hz, hsz, hby, hzs⟩ := T.info
  obtain ⟨b, off, hb, hp, hlt, hc⟩ := Lies.block w cs t' (· = w.heap.size) rfl (fun e => by
    have := congrArg List.length e
    rw [Array.length_toList, hl, List.length_nil] at this
    exact absurd this (Nat.ne_of_gt T.pos))
  simp only [Option.some.injEq, Addr.mk.injEq] at hb
  obtain ⟨rfl, rfl, -⟩ := hb
  refine wpList_append_own_at (w.alloc (.cells cs t')) hgd s x t ho base e i z sz bytes T.under hi hz hsz hby hzs T.pos v n xs hs (hown.alloc _) ⟨w.heap.size, 0, none⟩ 1 c cs.toList hx (by simp [hl]) (fun j u hu => by rw [Addr.add_lit]; exact hc j u hu) h1 h63 hbytes (by simp; omega) ?_
  intro v' w' ho' hg _ hat
  obtain ⟨a', cap', rfl⟩ := owned_shape ho'
  refine h a' cap' w' ho' (((Keep.refl _ _).alloc _).grown hg fun _ hk _ => hk) (fun b hb => ?_)
  rcases hat with hat | hat
  · exact .inl (hat.symm.trans hb)
  · have : some b = some (w.alloc (.cells cs t')).heap.size := hb.symm.trans hat
    simp only [Option.some.injEq] at this
    subst this
    exact .inr (by simp)
end Go.Proofs.YtabgbleldbapbaaGreat
