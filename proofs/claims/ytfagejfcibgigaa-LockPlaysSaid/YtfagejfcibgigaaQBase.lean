/- THE BASE: memory kept, rows owned, cells that lie; bytes and numbers as data. No program in sight but for the types' rows. -/
import Derived.Test.YtfagejfcibgigaaRows
import Derived.WalkKit
import Derived.ProofKit
import Derived.OpenShut
import Derived.Outline
import Derived.Lib.Hide
import Derived.Laws.BytesArg
import Derived.Deep.AppendSrc
import Derived.Deep.DeepFit
import Derived.Deep.QuietTactic
import Derived.BigQuiet
import Derived.StillTailTactics
import Derived.Deep.RegionWith
import Derived.RegionTactic
namespace Go.Proofs.Ytfagejfcibgigaa
open Go.RowKit

/-- A byte's cell. -/
def bv (c : UInt8) : Value := .int .u8 c.toNat
theorem bv_one (l : List UInt8) : ∀ u ∈ l.map bv, u.oneCell' = true := by
  intro u hu
  obtain ⟨_, _, rfl⟩ := List.mem_map.1 hu
  rfl

/-- What was there when a call began is as it was, but for the blocks of S. -/
structure Keep (S : Nat → Prop) (w w' : World) : Prop where
  os : w'.os = w.os
  tape : w'.tape = w.tape
  output : w'.output = w.output
  size : w.heap.size ≤ w'.heap.size
  block : ∀ k, k < w.heap.size → ¬ S k → w'.heap[k]? = w.heap[k]?

def Nix : Nat → Prop := fun _ => False

theorem Keep.refl (S : Nat → Prop) (w : World) : Keep S w w := ⟨rfl, rfl, rfl, Nat.le_refl _, fun _ _ _ => rfl⟩
theorem Keep.trans {S : Nat → Prop} {a b c : World} (h : Keep S a b) (k : Keep S b c) : Keep S a c :=
  ⟨k.os.trans h.os, k.tape.trans h.tape, k.output.trans h.output, Nat.le_trans h.size k.size,
    fun i hi hs => (k.block i (Nat.lt_of_lt_of_le hi h.size) hs).trans (h.block i hi hs)⟩
/-- The second step may write what it likes of what was not there at the start. -/
theorem Keep.then {S T : Nat → Prop} {a b c : World} (h : Keep S a b) (k : Keep T b c) (hT : ∀ i, i < a.heap.size → T i → S i) : Keep S a c :=
  ⟨k.os.trans h.os, k.tape.trans h.tape, k.output.trans h.output, Nat.le_trans h.size k.size,
    fun i hi hs => (k.block i (Nat.lt_of_lt_of_le hi h.size) (fun ht => hs (hT i hi ht))).trans (h.block i hi hs)⟩
theorem Keep.mono {S T : Nat → Prop} {a b : World} (h : Keep S a b) (hT : ∀ i, S i → T i) : Keep T a b :=
  ⟨h.os, h.tape, h.output, h.size, fun i hi hs => h.block i hi (fun x => hs (hT i x))⟩
theorem Keep.nix {S : Nat → Prop} {a b : World} (h : Keep Nix a b) : Keep S a b := h.mono fun _ x => x.elim
theorem Keep.drew {S : Nat → Prop} {a b : World} (h : Keep S a b) : Keep S a b.drew := ⟨h.os, h.tape, h.output, h.size, h.block⟩
theorem Keep.drewN {S : Nat → Prop} {a b : World} (h : Keep S a b) (n : Nat) : Keep S a (b.drewN n) := ⟨h.os, h.tape, h.output, h.size, h.block⟩
/-- Behind whatever draws: the same memory. -/
theorem Keep.same {S : Nat → Prop} {a b c : World} (h : Keep S a b) (h1 : c.os = b.os := by rfl) (h2 : c.tape = b.tape := by rfl) (h3 : c.output = b.output := by rfl) (h4 : c.heap = b.heap := by rfl) : Keep S a c :=
  ⟨h1.trans h.os, h2.trans h.tape, h3.trans h.output, by rw [h4]; exact h.size, fun k hk hs => by rw [h4]; exact h.block k hk hs⟩
theorem Keep.alloc {S : Nat → Prop} {a b : World} (h : Keep S a b) (o : Obj) : Keep S a (b.alloc o) :=
  h.trans ⟨rfl, rfl, rfl, by simp, fun k hk _ => Below.heap_alloc _ _ _ hk⟩
theorem Keep.setCell {S : Nat → Prop} {a b : World} (h : Keep S a b) {p : Addr} (hp : p.block < a.heap.size → S p.block) (u : Value) : Keep S a (b.setCell p u) :=
  ⟨h.os, h.tape, h.output, by simpa [World.setCell] using h.size, fun k hk hs => by
    rw [Below.heap_setCell _ _ _ _ (by rintro rfl; exact hs (hp hk))]; exact h.block k hk hs⟩
theorem Keep.grown {S : Nat → Prop} {a b c : World} (h : Keep S a b) {row : Option Nat} (hg : b.grownBy c row) (hr : ∀ k, row = some k → k < a.heap.size → S k) : Keep S a c :=
  ⟨hg.os.trans h.os, hg.tape.trans h.tape, hg.output.trans h.output, Nat.le_trans h.size hg.size,
    fun k hk hs => (hg.block k (Nat.lt_of_lt_of_le hk h.size) (fun e => hs (hr k e.symm hk))).trans (h.block k hk hs)⟩
theorem Keep.below {w w' : World} (h : Keep Nix w w') : Below w.heap.size w w' := ⟨h.os, h.tape, h.output, h.size, fun k hk => h.block k hk id⟩
theorem Keep.of_below {w w' : World} (h : Below w.heap.size w w') : Keep Nix w w' := ⟨h.os, h.tape, h.output, h.size, fun k hk _ => h.block k hk⟩
theorem Keep.cell {S : Nat → Prop} {w w' : World} (h : Keep S w w') {p : Addr} (hp : p.block < w.heap.size) (hs : ¬ S p.block) : w'.cell? p = w.cell? p := World.cell?_of_block (w := w) (h.block p.block hp hs)
theorem Keep.frozen {S : Nat → Prop} {w w' : World} (h : Keep S w w') {p : Addr} (hp : p.block < w.heap.size) (hs : ¬ S p.block) : w'.frozen? p = w.frozen? p := World.frozen?_of_block (w := w) (h.block p.block hp hs)

/-- The rules by which a walk reads old cells in a new world. -/
theorem Keep.rules {w w' : World} (h : Keep Nix w w') : (∀ b o, b < w.heap.size → w'.cell? ⟨b, o, none⟩ = w.cell? ⟨b, o, none⟩) ∧ (∀ b o, b < w.heap.size → w'.frozen? ⟨b, o, none⟩ = w.frozen? ⟨b, o, none⟩) :=
  ⟨fun _ _ hb => h.cell hb id, fun _ _ hb => h.frozen hb id⟩

/-- What is owned stays owned where its block is kept. -/
theorem owned_keep {S : Nat → Prop} {w w' : World} {base : Nat} {e sz : Nat} {v : Value} {n : Nat} {xs : List Value} (h : w.ownsRow base e sz v n xs) (k : Keep S w w') (hs : ∀ b, v.ownBlock = some b → ¬ S b) : w'.ownsRow base e sz v n xs := by
  refine ⟨h.1, ?_⟩
  rcases h.2 with hn | ⟨g, cap, cur, rfl, hb, hgg, rest⟩
  · exact .inl hn
  · exact .inr ⟨g, cap, cur, rfl, hb, (k.block g (Array.getElem?_eq_some_iff.1 hgg).1 (hs g rfl)).trans hgg, rest⟩
theorem owned_base {w : World} {base base' : Nat} {e sz : Nat} {v : Value} {n : Nat} {xs : List Value} (h : w.ownsRow base e sz v n xs) (hb : base' ≤ base) : w.ownsRow base' e sz v n xs := by
  refine ⟨h.1, ?_⟩
  rcases h.2 with hn | ⟨g, cap, cur, rfl, hb', rest⟩
  · exact .inl hn
  · exact .inr ⟨g, cap, cur, rfl, Nat.le_trans hb hb', rest⟩
theorem owned_shape {w : World} {base : Nat} {e sz : Nat} {v : Value} {n : Nat} {xs : List Value} (h : w.ownsRow base e sz v n xs) : ∃ a cap, v = .slice a n cap := by
  rcases h.2 with ⟨rfl, rfl⟩ | ⟨g, cap, cur, rfl, _⟩
  · exact ⟨_, _, rfl⟩
  · exact ⟨_, _, rfl⟩
theorem owned_bounds {w : World} {base : Nat} {e sz : Nat} {a : Option Addr} {n m cap : Nat} {xs : List Value} (h : w.ownsRow base e sz (.slice a n cap) m xs) : n = m ∧ n ≤ cap ∧ cap ≤ maxLen := by
  rcases h.2 with ⟨h1, rfl⟩ | ⟨g, cap', cur, h1, _, _, h2, h3, _⟩
  · cases h1; exact ⟨rfl, Nat.le_refl _, Nat.zero_le _⟩
  · cases h1; exact ⟨rfl, h2, h3⟩

/-- The cells of a slice: where there are any, they lie behind one address, in a block of p. -/
def Lies (w : World) (p : Nat → Prop) (a : Option Addr) (xs : List Value) : Prop :=
  xs ≠ [] → ∃ b off, a = some ⟨b, off, none⟩ ∧ p b ∧ b < w.heap.size ∧ ∀ j u, xs[j]? = some u → w.cell? ⟨b, off + j, none⟩ = some u
theorem Lies.keep {S p : Nat → Prop} {w w' : World} {a : Option Addr} {xs : List Value} (h : Lies w p a xs) (k : Keep S w w') (hs : ∀ b, p b → ¬ S b) : Lies w' p a xs := by
  intro hx
  obtain ⟨b, off, ha, hp, hb, hc⟩ := h hx
  exact ⟨b, off, ha, hp, Nat.lt_of_lt_of_le hb k.size, fun j u hu => (k.cell (p := ⟨b, off + j, none⟩) hb (hs b hp)).trans (hc j u hu)⟩
theorem Lies.mono {p q : Nat → Prop} {w : World} {a : Option Addr} {xs : List Value} (h : Lies w p a xs) (hq : ∀ b, p b → q b) : Lies w q a xs := by
  intro hx
  obtain ⟨b, off, ha, hp, r⟩ := h hx
  exact ⟨b, off, ha, hq b hp, r⟩
theorem Lies.nil (w : World) (p : Nat → Prop) (a : Option Addr) : Lies w p a [] := fun h => absurd rfl h
/-- What is owned lies. -/
theorem Lies.of_owned {w : World} {base : Nat} {e sz : Nat} {a : Option Addr} {n m cap : Nat} {xs : List Value} (h : w.ownsRow base e sz (.slice a n cap) m xs) : Lies w (fun b => base ≤ b ∧ (Value.slice a n cap).ownBlock = some b) a xs := by
  intro hx
  rcases h.2 with ⟨h1, rfl⟩ | ⟨g, cap', cur, h1, hb, hg, _⟩
  · exact absurd (List.eq_nil_of_length_eq_zero (by simpa using h.1)) hx
  · cases h1
    refine ⟨g, 0, rfl, ⟨hb, rfl⟩, (Array.getElem?_eq_some_iff.1 hg).1, fun j u hu => ?_⟩
    have := h.cells (g := g) rfl j u hu
    rw [Addr.add_lit] at this
    exact this

/-- A slice type's rows in the table: slice type t of elements e, of sz cells and by bytes. -/
structure SliceT (P : Program) (t e sz bytes : Nat) : Prop where
  under : P.underlying t = some (.slice e)
  info : ∃ i z, P.info? e = some i ∧ i.zero = some z ∧ i.size = sz ∧ i.bytes = bytes ∧ z.cells.size = sz
  pos : 0 < sz
theorem SliceT.mk' {P : Program} {t e : Nat} {z : Value} {sz bytes : Nat} (h1 : P.underlying t = some (.slice e)) (h2 : (P.info? e).map (fun i => (i.zero, i.size, i.bytes)) = some (some z, sz, bytes)) (h3 : z.cells.size = sz) (h4 : 0 < sz) : SliceT P t e sz bytes := by
  obtain ⟨i, hi, h5, h6, h7⟩ := info_parts h2
  exact ⟨h1, ⟨i, z, hi, h5, h6, h7, h3⟩, h4⟩

/-- 'append' onto a row of one's own, of whatever cells lie. -/
theorem wpl_append {P : Program} {t e sz bytes : Nat} (T : SliceT P t e sz bytes) {w : World} {ops : Array Oper} {rest : List Oper} {o : Oper} {a : Act} {Q : Exit → Act → World → Prop} (hgd : o.guard = none) (s x : Operand)
    (ho : o.op = .call { callee := .builtin .append, args := #[s, x], argTypes := #[t, t] })
    (base : Nat) {v : Value} {n : Nat} {xs : List Value} (hs : a.eval s = v) (hown : w.ownsRow base e sz v n xs)
    {p : Nat → Prop} {ad : Option Addr} {m c : Nat} (news : List Value) (hx : a.eval x = .slice ad m c) (hl : news.length = m * sz) (hlies : Lies w p ad news) (h1 : ∀ u ∈ news, u.oneCell' = true)
    (h63 : n + m ≤ maxLen) (hbytes : (n + m) * bytes ≤ 140737488355328) (hbase : base ≤ w.heap.size)
    (h : ∀ a' cap' w', w'.ownsRow base e sz (.slice a' (n + m) cap') (n + m) (xs ++ news) → w.grownBy w' v.ownBlock → wpList P ops Q rest (a.put o.dst (.slice a' (n + m) cap')) w') :
    wpList P ops Q (o :: rest) a w := by
  obtain ⟨i, z, hi, hz, hsz, hby, hzs⟩ := T.info
  by_cases hm : m = 0
  · subst hm
    have hn : news = [] := List.eq_nil_of_length_eq_zero (by simpa using hl)
    subst hn
    refine wpList_plain hgd fun K hK => ?_
    have hrun : (Builtin.append_ #[t, t] o.type #[v, .slice ad 0 c]).run P w = .ok v w := by
      rcases hown.2 with ⟨rfl, rfl⟩ | ⟨g, cap, cur, rfl, _, _, hnc, _⟩
      · cases ad <;> simp [Builtin.append_, run_underlying T.under, sizeOf, typeInfo, hi, Builtin.lenOf, Builtin.firstCells, loadCells, loadCellsFrom]
      · cases ad <;> simp [Builtin.append_, run_underlying T.under, sizeOf, typeInfo, hi, Builtin.lenOf, Builtin.firstCells, loadCells, loadCellsFrom, hnc, storeCells]
    obtain ⟨a', cap', rfl⟩ := owned_shape hown
    unfold Oper.wp
    simp only [execOp, ho, resolve, invoke, builtin, List.map_toArray, List.map_cons, List.map_nil, hs, hx, hrun, Sem.run_bind, Sem.run_pure, Result.andThen_ok]
    exact hK _ _ (h a' cap' w (by simpa using hown) ⟨rfl, rfl, rfl, Nat.le_refl _, fun _ _ _ => rfl⟩)
  · have hne : news ≠ [] := fun e => by subst e; have := Nat.mul_pos (Nat.pos_of_ne_zero hm) T.pos; simp at hl; omega
    obtain ⟨b, off, rfl, hp, hb, hc⟩ := hlies hne
    refine wpList_append_own w hgd s x t ho base e i z sz bytes T.under hi hz hsz hby hzs T.pos v n xs hs hown ⟨b, off, none⟩ m c news hx hl (fun j u hu => by rw [Addr.add_lit]; exact hc j u hu) h1 h63 hbytes hbase ?_
    intro v' w' hown' hg _
    obtain ⟨a', cap', rfl⟩ := owned_shape hown'
    exact h a' cap' w' hown' hg

/-- 'make([]T, 0, n)'. -/
theorem wpl_make {P : Program} {t e sz bytes : Nat} (T : SliceT P t e sz bytes) {w : World} {ops : Array Oper} {rest : List Oper} {o : Oper} {a : Act} {Q : Exit → Act → World → Prop} (hgd : o.guard = none) (l c : Operand)
    (ho : o.op = Op.makeSlice t l c) (base : Nat) {kl kc : IntKind} {C : Int} (n : Nat) (hl : a.eval l = .int kl 0) (hc : a.eval c = .int kc C) (hC : C = (n : Int)) (b2 : bytes * n ≤ 281474976710656) (b3 : n ≤ maxLen) (b4 : base ≤ w.heap.size)
    (h : ∀ w', w'.ownsRow base e sz (.slice (some ⟨w.heap.size, 0, none⟩) 0 n) 0 [] → Keep Nix w w' → wpList P ops Q rest (a.put o.dst (.slice (some ⟨w.heap.size, 0, none⟩) 0 n)) w') :
    wpList P ops Q (o :: rest) a w := by
  obtain ⟨i, z, hi, hz, hsz, hby, hzs⟩ := T.info
  refine wpList_make_own w hgd l c t ho base e i z sz T.under hi hz hsz kl kc C n hl hc hC (by rw [hby]; exact b2) b3 b4 fun w' h1 h2 => h w' h1 ?_
  exact (Keep.refl _ _).grown h2 (fun k hk => nomatch hk)
/-- 'append' within the capacity. -/
theorem wpl_fits {P : Program} {t e sz bytes : Nat} (T : SliceT P t e sz bytes) {w : World} {ops : Array Oper} {rest : List Oper} {o : Oper} {a : Act} {Q : Exit → Act → World → Prop} (hgd : o.guard = none) (s x : Operand)
    (ho : o.op = .call { callee := .builtin .append, args := #[s, x], argTypes := #[t, t] })
    (base : Nat) {g k cap : Nat} {xs : List Value} (hs : a.eval s = .slice (some ⟨g, 0, none⟩) k cap) (hown : w.ownsRow base e sz (.slice (some ⟨g, 0, none⟩) k cap) k xs)
    {p : Nat → Prop} {ad : Option Addr} {m c : Nat} (news : List Value) (hx : a.eval x = .slice ad m c) (hl : news.length = m * sz) (hlies : Lies w p ad news) (h1 : ∀ u ∈ news, u.oneCell' = true) (hfit : k + m ≤ cap)
    (h : ∀ w', w'.ownsRow base e sz (.slice (some ⟨g, 0, none⟩) (k + m) cap) (k + m) (xs ++ news) → Keep (· = g) w w' → wpList P ops Q rest (a.put o.dst (.slice (some ⟨g, 0, none⟩) (k + m) cap)) w') :
    wpList P ops Q (o :: rest) a w := by
  obtain ⟨i, z, hi, hz, hsz, hby, hzs⟩ := T.info
  by_cases hm : m = 0
  · subst hm
    have hn : news = [] := List.eq_nil_of_length_eq_zero (by simpa using hl)
    subst hn
    refine wpList_plain hgd fun K hK => ?_
    have hrun : (Builtin.append_ #[t, t] o.type #[.slice (some ⟨g, 0, none⟩) k cap, .slice ad 0 c]).run P w = .ok (.slice (some ⟨g, 0, none⟩) k cap) w := by
      cases ad <;> simp [Builtin.append_, run_underlying T.under, sizeOf, typeInfo, hi, Builtin.lenOf, Builtin.firstCells, loadCells, loadCellsFrom, storeCells, show k ≤ cap by omega]
    unfold Oper.wp
    simp only [execOp, ho, resolve, invoke, builtin, List.map_toArray, List.map_cons, List.map_nil, hs, hx, hrun, Sem.run_bind, Sem.run_pure, Result.andThen_ok]
    exact hK _ _ (h w (by simpa using hown) (Keep.refl _ _))
  · have hne : news ≠ [] := fun e => by subst e; have := Nat.mul_pos (Nat.pos_of_ne_zero hm) T.pos; simp at hl; omega
    obtain ⟨b, off, rfl, hp, hb, hc⟩ := hlies hne
    refine wpList_append_fits w hgd s x t ho base e i sz T.under hi hsz g k cap xs hs hown ⟨b, off, none⟩ m c news hx hl (fun j u hu => by rw [Addr.add_lit]; exact hc j u hu) h1 hfit fun w' h1 h2 => h w' h1 ?_
    exact (Keep.refl _ _).grown h2 (fun k hk _ => by cases hk; rfl)

theorem Lies.same {w w' : World} {p : Nat → Prop} {a : Option Addr} {xs : List Value} (h : Lies w p a xs) (hh : w'.heap = w.heap := by rfl) : Lies w' p a xs := by
  intro hx
  obtain ⟨b, off, ha, hp, hb, hc⟩ := h hx
  exact ⟨b, off, ha, hp, by rw [hh]; exact hb, fun j u hu => (World.cell?_of_block (w := w) (by rw [hh])).trans (hc j u hu)⟩
theorem owned_same {w w' : World} {base : Nat} {e sz : Nat} {v : Value} {n : Nat} {xs : List Value} (h : w.ownsRow base e sz v n xs) (hh : w'.heap = w.heap := by rfl) : w'.ownsRow base e sz v n xs := by
  unfold World.ownsRow at *; rw [hh]; exact h
/-- A new block of one cell, laid out for 'append(s, x)'. -/
theorem Lies.one (w : World) (x : Value) (t : TypeId) (p : Nat → Prop) (hp : p w.heap.size) : Lies (w.alloc (.cells #[x] t)) p (some ⟨w.heap.size, 0, none⟩) [x] := by
  intro _
  refine ⟨w.heap.size, 0, rfl, hp, by simp, fun j u hu => ?_⟩
  match j, hu with
  | 0, hu => simp at hu; subst hu; rw [World.cell?_alloc_at _ _ _ _ rfl]; rfl
theorem Lies.block (w : World) (cs : Array Value) (t : TypeId) (p : Nat → Prop) (hp : p w.heap.size) : Lies (w.alloc (.cells cs t)) p (some ⟨w.heap.size, 0, none⟩) cs.toList := by
  intro _
  refine ⟨w.heap.size, 0, rfl, hp, by simp, fun j u hu => ?_⟩
  rw [World.cell?_alloc_at _ _ _ _ rfl, Nat.zero_add]
  simpa using hu
def OwnB (v : Value) : Nat → Prop := fun k => v.ownBlock = some k

/-- 'append(s, x)': x lies in a new block of its own. -/
theorem wpl_append1 {P : Program} {t e sz bytes : Nat} (T : SliceT P t e sz bytes) {w : World} {cs : Array Value} {t' : TypeId} {ops : Array Oper} {rest : List Oper} {o : Oper} {a : Act} {Q : Exit → Act → World → Prop} (hgd : o.guard = none) (s x : Operand)
    (ho : o.op = .call { callee := .builtin .append, args := #[s, x], argTypes := #[t, t] })
    (base : Nat) {v : Value} {n : Nat} {xs : List Value} (hs : a.eval s = v) (hown : w.ownsRow base e sz v n xs)
    {c : Nat} (hx : a.eval x = .slice (some ⟨w.heap.size, 0, none⟩) 1 c) (hl : cs.size = sz) (h1 : ∀ u ∈ cs.toList, u.oneCell' = true)
    (h63 : n + 1 ≤ maxLen) (hbytes : (n + 1) * bytes ≤ 140737488355328) (hbase : base ≤ w.heap.size)
    (h : ∀ a' cap' w', w'.ownsRow base e sz (.slice a' (n + 1) cap') (n + 1) (xs ++ cs.toList) → Keep (OwnB v) w w' → wpList P ops Q rest (a.put o.dst (.slice a' (n + 1) cap')) w') :
    wpList P ops Q (o :: rest) a (w.alloc (.cells cs t')) :=
  wpl_append T hgd s x ho base hs (hown.alloc _) cs.toList hx (by simp [hl]) (Lies.block w cs t' (fun _ => True) trivial) h1 h63 hbytes (by simp; omega)
    fun a' cap' w' ho' hg => h a' cap' w' ho' (((Keep.refl _ _).alloc _).grown hg fun _ hk _ => hk)
/-- A string of bytes. -/
def strB (l : List UInt8) : ByteArray := ⟨l.toArray⟩
theorem strB_inj {a b : List UInt8} : strB a = strB b ↔ a = b := by simp [strB]
theorem strB_list (l : List UInt8) : (strB l).data.toList = l := by simp [strB]
theorem strB_toList (l : List UInt8) : (strB l).toList = l := by rw [ByteArray.toList_eq, strB_list]
theorem strB_eq (a b : List UInt8) : ((strB a).toList == (strB b).toList) = decide (a = b) := by rw [strB_toList, strB_toList, Bool.eq_iff_iff]; simp
theorem strB_size (l : List UInt8) : (strB l).size = l.length := by simp [strB, ByteArray.size]
/-- 'string(b)'. -/
theorem conv_bytes {P : Program} {src dst e : TypeId} (hs : P.underlying src = some (.slice e)) (he : P.underlying e = some (.int .u8)) (hd : P.underlying dst = some .string)
    {w : World} {p : Nat → Prop} {a : Option Addr} {n cap : Nat} {l : List UInt8} (hn : l.length = n) (h : Lies w p a (l.map bv)) : (convert src dst (.slice a n cap)).run P w = .ok (.string (strB l)) w := by
  subst hn
  by_cases hl : l = []
  · subst hl
    rw [run_convert_bytes_string w src dst e _ _ cap hs he hd]
    cases a <;> (simp [Conv.bytesToString, loadCells, loadCellsFrom, strB]; rfl)
  · obtain ⟨b, off, rfl, -, -, hc⟩ := h (by simpa using hl)
    rw [run_convert_bytes_arg w src e hs he b off l.length cap (l.map fun c => (c.toNat : Int)) (by simp) (fun i hi => by
      rw [hc i (.int .u8 (l[i].toNat : Int)) (by simp [bv, hi])]; simp [List.getD, hi]) dst hd]
    congr 2
    simp [strOfNums, strB, Function.comp_def]
/-- A callee that leaves the world alone, in a region whose order is drawn. -/
theorem quiet_eq {P : Program} {f : FuncId} {args : Array Value} {w : World} {n : Nat} {v : Value}
    (h : Calls P f args (w.drewN n) fun e w' => e = .returned v ∧ w.drewN n = w') : Calls P f args (w.drewN n) fun e w'' => e = .returned v ∧ ∃ m, w'' = w.drewN m :=
  h.mono fun _ _ ⟨he, hm⟩ => ⟨he, n, hm.symm⟩
/-- A block known whole: a row of cells, free to be written. -/
def RowIs (w : World) (b : Nat) (e : TypeId) (cs : List Value) : Prop := w.heap[b]? = some (.cells cs.toArray e (0, 0))
section
variable {w w' : World} {b : Nat} {e : TypeId} {cs : List Value}
theorem RowIs.lt (h : RowIs w b e cs) : b < w.heap.size := (Array.getElem?_eq_some_iff.1 h).1
theorem RowIs.cell (h : RowIs w b e cs) (j : Nat) : w.cell? ⟨b, j, none⟩ = cs[j]? := by
  rw [cell_of_row w b j cs.toArray e (0, 0) h]; simp
theorem RowIs.frozen (h : RowIs w b e cs) (j : Nat) : w.frozen? ⟨b, j, none⟩ = false := frozen_of_row w b j cs.toArray e h
theorem RowIs.set (h : RowIs w b e cs) (j : Nat) (v : Value) : RowIs (w.setCell ⟨b, j, none⟩ v) b e (cs.set j v) := by
  have := heap_setCell_same w b j cs.toArray e v h
  unfold RowIs
  rw [this]; simp
theorem RowIs.keep {S : Nat → Prop} (h : RowIs w b e cs) (k : Keep S w w') (hs : ¬ S b) : RowIs w' b e cs := (k.block b h.lt hs).trans h
theorem RowIs.same (h : RowIs w b e cs) (hh : w'.heap = w.heap := by rfl) : RowIs w' b e cs := by unfold RowIs; rw [hh]; exact h
theorem RowIs.alloc (w : World) (cs : Array Value) (e : TypeId) : RowIs (w.alloc (.cells cs e)) w.heap.size e cs.toList := by
  unfold RowIs; rw [heap_alloc_new]
theorem RowIs.lies (h : RowIs w b e cs) (p : Nat → Prop) (hp : p b) {xs : List Value} {off : Nat} (hx : ∀ j u, xs[j]? = some u → cs[off + j]? = some u) : Lies w p (some ⟨b, off, none⟩) xs :=
  fun _ => ⟨b, off, rfl, hp, h.lt, fun j u hu => (h.cell _).trans (hx j u hu)⟩
theorem RowIs.of_owned {base sz n cap : Nat} {a : Addr} {xs : List Value} (h : w.ownsRow base e sz (.slice (some a) n cap) n xs) :
    ∃ b rest, a = ⟨b, 0, none⟩ ∧ base ≤ b ∧ RowIs w b e (xs ++ rest) ∧ (xs ++ rest).length = cap * sz := by
  rcases h.2 with ⟨h1, -⟩ | ⟨g, cap', cur, h1, hb, hg, hnc, hcm, hcs, ht⟩
  · cases h1
  · cases h1
    refine ⟨g, cur.toList.drop (n * sz), rfl, hb, ?_, ?_⟩
    · unfold RowIs; rw [hg, ← ht, List.take_append_drop]
    · rw [← ht, List.take_append_drop]; simpa using hcs
end
/-- An equation of numbers as the walk's test, the equation itself kept from it. -/
theorem test_eq (a b : Int) : ((a == b) = true ∧ Hid (a = b)) ∨ ((a == b) = false ∧ a ≠ b) := by
  by_cases h : a = b
  · exact .inl ⟨by simp [h], h⟩
  · exact .inr ⟨by simp [h], h⟩
theorem ret_true {b : Bool} (h : b = true) : Ending.returned (.bool b) = Ending.returned (.bool true) := by rw [h]
theorem ret_bool {b c : Bool} (h : b = c) : Ending.returned (.bool b) = Ending.returned (.bool c) := by rw [h]
theorem ret_int {k : IntKind} {a b : Int} (h : a = b) : Ending.returned (.int k a) = Ending.returned (.int k b) := by rw [h]
end Go.Proofs.Ytfagejfcibgigaa
