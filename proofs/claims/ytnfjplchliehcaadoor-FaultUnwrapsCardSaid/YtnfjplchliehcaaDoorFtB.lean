/- FAULTS: made, an error and what it has to be. Printed by mac.py. -/
import Derived.Test.YtnfjplchliehcaaDoorFtA
import Derived.Test.YtnfjplchliehcaaDoorMod
import Derived.Deep.AppendLies
import Derived.WalkSpells
namespace Go.Proofs.YtnfjplchliehcaaDoor
open Go.RowKit Go.Extern.Stop Go.Stop Go.Extern

/-- 'append' at a step, by its run. -/
theorem step_app {P : Program} {ops : Array Oper} {o : Oper} {a : Act} {K : Act → World → Prop} {Q : Exit → Act → World → Prop} {E : Prop} {w w' : World} {t : TypeId} {v y r : Value} (hw : Region.wanted o (yielded ops a.tmps) = true) (s x : Operand)
    (ho : o.op = .call { callee := .builtin .append, args := #[s, x], argTypes := #[t, t] }) (hs : a.eval s = v) (hx : a.eval x = y) (hrun : (Builtin.append_ #[t, t] o.type #[v, y]).run P w = .ok r w') (h : K (a.put o.dst r) w') :
    if Region.wanted o (yielded ops a.tmps) = true then Oper.wp P o a w K Q else E := by
  rw [if_pos hw]
  unfold Oper.wp
  simp only [execOp, ho, resolve, invoke, builtin, List.map_toArray, List.map_cons, List.map_nil, hs, hx, hrun, Sem.run_bind, Sem.run_pure, Result.andThen_ok]
  exact h
theorem appN_run {P : Program} {t e sz bytes : Nat} (T : SliceT P t e sz bytes) {w : World} (ty : TypeId) (base : Nat) {v : Value} {n : Nat} {xs : List Value} (hown : w.ownsRow base e sz v n xs)
    {p : Nat → Prop} {ad : Option Addr} {m c : Nat} (news : List Value) (hl : news.length = m * sz) (hlies : Lies w p ad news) (h1 : ∀ u ∈ news, u.oneCell' = true)
    (h63 : n + m ≤ maxLen) (hbytes : (n + m) * bytes ≤ 140737488355328) (hbase : base ≤ w.heap.size) :
    ∃ a' cap' w', (Builtin.append_ #[t, t] ty #[v, .slice ad m c]).run P w = .ok (.slice a' (n + m) cap') w' ∧ w'.ownsRow base e sz (.slice a' (n + m) cap') (n + m) (xs ++ news) ∧ Keep (OwnB v) w w' := by
  obtain ⟨i, z, hi, hz, hsz, hby, hzs⟩ := T.info
  by_cases hm : m = 0
  · subst hm
    have hn : news = [] := List.eq_nil_of_length_eq_zero (by simpa using hl)
    subst hn
    have hrun : (Builtin.append_ #[t, t] ty #[v, .slice ad 0 c]).run P w = .ok v w := by
      rcases hown.2 with ⟨rfl, rfl⟩ | ⟨g, cap, cur, rfl, _, _, hnc, _⟩
      · cases ad <;> simp [Builtin.append_, run_underlying T.under, sizeOf, typeInfo, hi, Builtin.lenOf, Builtin.firstCells, loadCells, loadCellsFrom]
      · cases ad <;> simp [Builtin.append_, run_underlying T.under, sizeOf, typeInfo, hi, Builtin.lenOf, Builtin.firstCells, loadCells, loadCellsFrom, hnc, storeCells]
    obtain ⟨a', cap', rfl⟩ := owned_shape hown
    exact ⟨a', cap', w, hrun, by simpa using hown, Keep.refl _ _⟩
  · have hne : news ≠ [] := fun e => by subst e; have := Nat.mul_pos (Nat.pos_of_ne_zero hm) T.pos; simp at hl; omega
    obtain ⟨b, off, rfl, hp, hb, hc⟩ := hlies hne
    obtain ⟨v', w', hrun, hown', hg, -, -⟩ := run_append_own_at (P := P) w base t ty e i z sz bytes T.under hi hz hsz hby hzs T.pos v n xs hown ⟨b, off, none⟩ m c news hl (fun j u hu => by rw [Addr.add_lit]; exact hc j u hu) h1 h63 hbytes hbase
    obtain ⟨a', cap', rfl⟩ := owned_shape hown'
    exact ⟨a', cap', w', hrun, hown', (Keep.refl _ w).grown hg (fun _ hk _ => hk)⟩
theorem RowIs.ne {w : World} {b c t1 t2 : Nat} {cs ds : List Value} (h : RowIs w b t1 cs) (k : RowIs w c t2 ds) (ht : t1 ≠ t2) : b ≠ c := by
  rintro rfl
  unfold RowIs at h k
  rw [h] at k
  simp at k
  exact ht k.2
theorem IsEr.keepC {w w' : World} {bC : Nat} {cs : List Value} (hC : RowIs w bC 38 cs) (k : Keep (· = bC) w w') : ∀ {E : Er} {v : Value}, IsEr w E v → IsEr w' E v
  | .code _, _, h => h
  | .other _, _, ⟨b, h1, h2⟩ => ⟨b, h1, h2.keep k (h2.ne hC (by decide))⟩
  | .fault _ _, _, ⟨b, vc, h1, h2, h3⟩ => ⟨b, vc, h1, h2.keep k (h2.ne hC (by decide)), IsEr.keepC hC k h3⟩
theorem IsErO.keepC {w w' : World} {bC : Nat} {cs : List Value} (hC : RowIs w bC 38 cs) (k : Keep (· = bC) w w') {o : Option Er} {v : Value} (h : IsErO w o v) : IsErO w' o v := by
  cases o with
  | none => exact h
  | some E => exact IsEr.keepC hC k (show IsEr w E v from h)
theorem IsEr.keepT {w w' : World} {bC t : Nat} {cs : List Value} (h1 : 54 ≠ t) (h2 : 70 ≠ t) (hC : RowIs w bC t cs) (k : Keep (· = bC) w w') : ∀ {E : Er} {v : Value}, IsEr w E v → IsEr w' E v
  | .code _, _, h => h
  | .other _, _, ⟨b, g1, g2⟩ => ⟨b, g1, g2.keep k (g2.ne hC h2)⟩
  | .fault _ _, _, ⟨b, vc, g1, g2, g3⟩ => ⟨b, vc, g1, g2.keep k (g2.ne hC h1), IsEr.keepT h1 h2 hC k g3⟩
theorem own1 {w : World} {b : Nat} {x : List UInt8} (h : RowIs w b 9 [.string (strB x)]) : w.ownsRow b 9 1 (.slice (some ⟨b, 0, none⟩) 1 1) 1 [.string (strB x)] :=
  ⟨rfl, .inr ⟨b, 1, #[.string (strB x)], rfl, Nat.le_refl _, h, Nat.le_refl _, by decide, rfl, rfl⟩⟩
theorem own_eq {b n c i : Nat} (h : OwnB (.slice (some ⟨b, 0, none⟩) n c) i) : i = b := by
  have h' : (some b : Option Nat) = some i := h
  simpa using h'.symm
/-- What the end of an error is. -/
def EndOk : Option Er → Int → Int → List UInt8 → Prop
  | none, kd, _, _ => kd = 0
  | some E, kd, code, other => (kd = 1 ∧ E.isCode = true ∧ E.codeOf = code ∧ code ≠ 0 ∧ E.tail = nameS code) ∨ (kd = 2 ∧ E.isCode = false ∧ E.codeOf = 11 ∧ E.tail = other)
theorem EndOk.wrap {E : Er} {kd code : Int} {other : List UInt8} (h : EndOk (some E) kd code other) (wh : List UInt8) : EndOk (some (.fault wh E)) kd code other := h
/-- The state of an error under way, and its chain, in the block bC. -/
def Way (W : World) (n0 bC bR : Nat) (code : Int) (other : List UInt8) (k : Nat) (v : Value) (w : World) : Prop :=
  ∃ (o : Option Er) (kd : Int) (a : Option Addr) (cap : Nat), IsErO w o v ∧ RowIs w bC 38 (chainV a cap (whsO o).length code other kd) ∧ Lies w (fun b => n0 ≤ b ∧ b ≠ bC ∧ b ≠ bR) a ((whsO o).map strV) ∧ EndOk o kd code other ∧ (whsO o).length ≤ k + 1 ∧ (∀ x ∈ whsO o, x.length ≤ far) ∧
    RowIs w bR 38 [.slice none 0 0, .int .i64 0, .string ⟨#[]⟩, .int .i64 0] ∧ Keep Nix W w
def MadePost (w : World) (code : Int) (other : List UInt8) (e : Ending) (w' : World) : Prop :=
  ∃ (o : Option Er) (v : Value) (kd : Int) (a : Option Addr) (cap : Nat), e = .returned (.tuple #[v, .agg (chainV a cap (whsO o).length code other kd).toArray]) ∧ IsErO w' o v ∧ Lies w' (fun b => w.heap.size ≤ b) a ((whsO o).map strV) ∧ EndOk o kd code other ∧ (whsO o).length ≤ 13 ∧ (∀ x ∈ whsO o, x.length ≤ far) ∧ Keep Nix w w'
end Go.Proofs.YtnfjplchliehcaaDoor
