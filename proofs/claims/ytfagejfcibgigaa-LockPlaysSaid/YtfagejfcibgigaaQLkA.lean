/- LOCK: laws for copies: Clone, appends of one element. Printed by mac.py. -/
import Derived.Test.YtfagejfcibgigaaQLk7
import Derived.Lib.SliceRun
import Derived.Deep.RegionHeld3
import Derived.Deep.AppendLies
namespace Go.Proofs.Ytfagejfcibgigaa
open Go.RowKit

theorem owns_empty (w : World) (e sz base : Nat) (hb : base ≤ w.heap.size) : (w.alloc (.cells #[] e)).ownsRow base e sz (.slice (some ⟨w.heap.size, 0, none⟩) 0 0) 0 [] := by
  refine ⟨by simp, .inr ⟨w.heap.size, 0, #[], rfl, hb, heap_alloc_new _ _, Nat.le_refl _, Nat.zero_le _, by simp, by simp⟩⟩
theorem list0_run {P : Program} {t e n bytes : Nat} (S : SliceT P t e n bytes) (w : World) : (Instr.buildSlice t 0 #[]).run P w = .ok (.slice (some ⟨w.heap.size, 0, none⟩) 0 0) (w.alloc (.cells #[] e)) := by
  obtain ⟨i, z, hi, hz, hsz, hby, hzs⟩ := S.info
  unfold Instr.buildSlice
  simp [run_underlying S.under, sizeOf, typeInfo, hi, newRow, newObj, Instr.fill]
  have e : ∀ f : Nat → Value, Array.map f (Array.range 0) = #[] := fun f => by apply Array.eq_empty_of_size_eq_zero; simp
  rw [e]
  rfl
set_option maxHeartbeats 1000000 in
theorem cl_c {p : Nat → Prop} (a : Option Addr) (n cap : Nat) (l : List UInt8) (w : World) (hn : l.length = n) (ha : Lies w p a (l.map bv)) (hr : n ≤ 140737488355328) :
    Calls Try.prog 65 #[.slice a n cap] w fun e w' => ∃ a' cap', e = .returned (.slice a' n cap') ∧ w'.ownsRow w.heap.size 5 1 (.slice a' n cap') n (l.map bv) ∧ Keep Nix w w' := by
  subst hn
  cases a with
  | none =>
    obtain rfl : l = [] := by
      by_cases h : l.map bv = []
      · simpa using h
      · obtain ⟨b, off, hb, -⟩ := ha h; cases hb
    have hnil := fun (w' : World) (n c : Nat) => Lib.run_eql_slice_nil (P := Try.prog) w' 42 5 none n c 0 0 Try.underlying42
    clear ha
    go_enter Try.func65, Try.ntmps65
    go_wp2_with fail
    go_ret
    exact ⟨none, 0, rfl, World.ownsRow_nil _ _ _ _, Keep.refl _ _⟩
  | some ad =>
    have hnil := fun (w' : World) => Lib.run_eql_slice_nil (P := Try.prog) w' 42 5 (some ad) l.length cap 0 0 Try.underlying42
    have hl0 := fun w' => list0_run T_bytes w'
    have own0 := owns_empty w 5 1 w.heap.size (Nat.le_refl _)
    have lies2 := ha.keep ((Keep.refl Nix w).alloc (.cells #[] 5)) (fun _ _ h => h)
    have hsz : w.heap.size ≤ (w.alloc (.cells #[] 5)).heap.size := by simp
    clear ha
    go_enter Try.func65, Try.ntmps65
    go_wp2_with (at_builtin; refine wpl_append T_bytes rfl (.tmp 5) (.tmp 6) rfl w.heap.size rfl own0 (l.map bv) rfl (by simp) lies2 (bv_one l) ?c1 ?c2 hsz ?_)
    case c1 => unfold maxLen; omega
    case c2 => omega
    intro a' cap' w2 own2 hg
    have kk : Keep Nix w w2 := ((Keep.refl Nix w).alloc (.cells #[] 5)).grown hg (fun k hk hlt => by simp [Value.ownBlock] at hk; omega)
    (try rw [Nat.zero_add, List.nil_append] at own2)
    clear own0 hg lies2
    go_wp2
    go_ret
    exact ⟨a', cap', by simp, own2, kk⟩
theorem append1_run {P : Program} {t e sz bytes : Nat} (T : SliceT P t e sz bytes) {w : World} {cs : List Value} (t' ty : TypeId) (base : Nat) {v : Value} {n : Nat} {xs : List Value} (hown : w.ownsRow base e sz v n xs) (hl : cs.length = sz) (h1 : ones cs = true)
    (h63 : n + 1 ≤ maxLen) (hbytes : (n + 1) * bytes ≤ 140737488355328) (hbase : base ≤ w.heap.size) :
    ∃ a' cap' w', (Builtin.append_ #[t, t] ty #[v, .slice (some ⟨w.heap.size, 0, none⟩) 1 1]).run P (w.alloc (.cells cs.toArray t')) = .ok (.slice a' (n + 1) cap') w' ∧ w'.ownsRow base e sz (.slice a' (n + 1) cap') (n + 1) (xs ++ cs) ∧ Keep (OwnB v) w w' ∧ (∀ b, OwnB (.slice a' (n + 1) cap') b → OwnB v b ∨ w.heap.size ≤ b) := by
  obtain ⟨i, z, hi, hz, hsz, hby, hzs⟩ := T.info
  obtain ⟨v', w', hrun, hown', hg, -, hf⟩ := run_append_own_at (P := P) (w.alloc (.cells cs.toArray t')) base t ty e i z sz bytes T.under hi hz hsz hby hzs T.pos v n xs (hown.alloc _) ⟨w.heap.size, 0, none⟩ 1 1 cs (by omega) (fun j u hu => by
      rw [Addr.add_lit, World.cell?_alloc_at _ _ _ _ rfl, Nat.zero_add]; simpa using hu) (fun u hu => List.all_eq_true.1 h1 u hu) h63 hbytes (by simp; omega)
  obtain ⟨a', cap', rfl⟩ := owned_shape hown'
  refine ⟨a', cap', w', hrun, hown', ((Keep.refl _ w).alloc _).grown hg (fun _ hk _ => hk), fun b hb => ?_⟩
  rcases hf with h | h
  · have hb' : (Value.slice a' (n + 1) cap').ownBlock = some b := hb
    exact .inl (h.symm.trans hb')
  · right
    have hb' : (Value.slice a' (n + 1) cap').ownBlock = some b := hb
    rw [h] at hb'
    simp at hb'
    omega
/-- The same at a step of a region that draws. -/
theorem step_append1 {P : Program} {t e sz bytes : Nat} (T : SliceT P t e sz bytes) {ops : Array Oper} {o : Oper} {a : Act} {K : Act → World → Prop} {Q : Exit → Act → World → Prop} {E : Prop} {w : World} {cs : List Value} {t' : TypeId} (hgd : o.guard = none) (s x : Operand)
    (ho : o.op = .call { callee := .builtin .append, args := #[s, x], argTypes := #[t, t] })
    (base : Nat) {v : Value} {n : Nat} {xs : List Value} (hs : a.eval s = v) (hx : a.eval x = .slice (some ⟨w.heap.size, 0, none⟩) 1 1) (hown : w.ownsRow base e sz v n xs) (hl : cs.length = sz) (h1 : ones cs = true)
    (h63 : n + 1 ≤ maxLen) (hbytes : (n + 1) * bytes ≤ 140737488355328) (hbase : base ≤ w.heap.size)
    (h : ∀ a' cap' w', w'.ownsRow base e sz (.slice a' (n + 1) cap') (n + 1) (xs ++ cs) → Keep (OwnB v) w w' → (∀ b, OwnB (.slice a' (n + 1) cap') b → OwnB v b ∨ w.heap.size ≤ b) → K (a.put o.dst (.slice a' (n + 1) cap')) w') :
    if Region.wanted o (yielded ops a.tmps) = true then Oper.wp P o a (w.alloc (.cells cs.toArray t')) K Q else E := by
  rw [if_pos (by simp [Region.wanted, hgd])]
  obtain ⟨a', cap', w', hrun, h2, h3, h4⟩ := append1_run T t' o.type base hown hl h1 h63 hbytes hbase
  unfold Oper.wp
  simp only [execOp, ho, resolve, invoke, builtin, List.map_toArray, List.map_cons, List.map_nil, hs, hx, hrun, Sem.run_bind, Sem.run_pure, Result.andThen_ok]
  exact h _ _ _ h2 h3 h4
theorem Els.push0 {α : Type} {R : RD α} {sz : Nat} {w wr w2 w3 : World} {css : List (List Value)} {xs : List α} {v v' : Value} {c : List Value} {x : α} (els : Els R wr (fun b => NewIn w wr b ∧ ¬ OwnB v b) css xs) (L : Lawful R sz) (hc : R w2 (NewIn wr w2) c x) (k2 : Keep Nix wr w2) (k3 : Keep (OwnB v) w2 w3) (hw : w.heap.size ≤ wr.heap.size)
    (hv : ∀ b, OwnB v b → b < wr.heap.size) (hn : ∀ b, OwnB v' b → OwnB v b ∨ w2.heap.size ≤ b) : Els R w3 (fun b => NewIn w w3 b ∧ ¬ OwnB v' b) (css ++ [c]) (xs ++ [x]) := by
  have s2 := k2.size
  have s3 := k3.size
  refine Els.snoc ?_ ?_
  · refine ((els.keep L k2 (fun _ _ h => h)).keep L k3 (fun b hb => hb.2)).mono L (fun b hb => ⟨⟨hb.1.1, by have := hb.1.2; omega⟩, fun h => ?_⟩)
    rcases hn b h with h | h
    · exact hb.2 h
    · have := hb.1.2; omega
  · refine L.mono (L.keep hc k3 (fun b hb h => by have := hv b h; have := hb.1; omega)) (fun b hb => ⟨⟨by have := hb.1; omega, by have := hb.2; omega⟩, fun h => ?_⟩)
    rcases hn b h with h | h
    · have := hv b h; have := hb.1; omega
    · have := hb.2; omega
set_option maxRecDepth 100000 in
theorem copyBytes_c {p : Nat → Prop} (a : Option Addr) (c : Nat) (l : List UInt8) (w : World) (hl : Lies w p a (l.map bv)) (hr : l.length ≤ 140737488351232) :
    Calls Try.prog 55 #[.slice a l.length c] w fun e w' => ∃ a' c', e = .returned (.slice a' l.length c') ∧ w'.ownsRow w.heap.size 5 1 (.slice a' l.length c') l.length (l.map bv) ∧ Keep Nix w w' := by
  have HL := Lib.hid hl
  clear hl
  go_enter Try.func55, Try.ntmps55
  go_wp2_with (at_builtin; refine wpl_append (m := l.length) (c := c) T_bytes ?hgd (.const (.slice none 0 0)) (.tmp 3) ?ho w.heap.size ?hs (World.ownsRow_nil w w.heap.size 5 1) (l.map bv) ?hx ?c0 HL.out ?c1 ?c2 ?c3 ?c4 ?_)
  case hgd => rfl
  case ho => rfl
  case hs => rfl
  case hx => rfl
  case c0 => simp
  case c1 => exact bv_one l
  case c2 => unfold maxLen; omega
  case c3 => omega
  case c4 => exact Nat.le_refl _
  intro a' cap' w2 own2 hg2
  have k2 : Keep Nix w w2 := (Keep.refl _ w).grown hg2 (fun k h => by cases h)
  clear hg2
  go_wp2_with fail
  go_ret
  exact ⟨a', cap', rfl, own2, k2⟩
theorem T_lB : SliceT Try.prog 24 42 1 24 := SliceT.mk' Try.underlying24 (z := .slice none 0 0) (by kernel_rfl) rfl (by decide)
end Go.Proofs.Ytfagejfcibgigaa
