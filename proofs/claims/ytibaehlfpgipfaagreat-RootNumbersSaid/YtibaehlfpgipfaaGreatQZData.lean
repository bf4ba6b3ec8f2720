/- DATA WITH DEPTH: what cells read as, by combinators: numbers, bools, strings, bytes, lists, structs (the structs' own readings are written by gen.py). -/
import Derived.Test.YtibaehlfpgipfaaGreatQZArgs
namespace Go.Proofs.YtibaehlfpgipfaaGreat
open Go.RowKit
abbrev RD (α : Type) := World → (Nat → Prop) → List Value → α → Prop
structure Lawful {α : Type} (R : RD α) (sz : Nat) : Prop where
  len : ∀ {w : World} {p : Nat → Prop} {cs : List Value} {x : α}, R w p cs x → cs.length = sz
  keep : ∀ {S : Nat → Prop} {w w' : World} {p : Nat → Prop} {cs : List Value} {x : α}, R w p cs x → Keep S w w' → (∀ b, p b → ¬ S b) → R w' p cs x
  mono : ∀ {w : World} {p q : Nat → Prop} {cs : List Value} {x : α}, R w p cs x → (∀ b, p b → q b) → R w q cs x
theorem Lawful.nix {α : Type} {R : RD α} {sz : Nat} (l : Lawful R sz) {w w' : World} {p : Nat → Prop} {cs : List Value} {x : α} (h : R w p cs x) (k : Keep Nix w w') : R w' p cs x := l.keep h k (fun _ _ h => h)
def far : Nat := 140737488351232
def rInt (k : IntKind) : RD Int := fun _ _ cs n => cs = [.int k n] ∧ (Lit.int k n).wf = true
def rBool : RD Bool := fun _ _ cs b => cs = [.bool b]
def rStr : RD (List UInt8) := fun _ _ cs l => cs = [.string (strB l)] ∧ l.length ≤ far
def rBytes : RD (List UInt8) := fun w p cs l => ∃ (a : Option Addr) (cap : Nat), cs = [.slice a l.length cap] ∧ Lies w p a (l.map bv) ∧ l.length ≤ cap ∧ l.length ≤ far
def rList {α : Type} (R : RD α) : RD (List α) := fun w p cs l => ∃ (a : Option Addr) (cap : Nat) (css : List (List Value)), cs = [.slice a l.length cap] ∧ css.length = l.length ∧ Lies w p a css.flatten ∧ l.length ≤ cap ∧ l.length ≤ far ∧ ∀ (i : Nat) (c : List Value) (x : α), css[i]? = some c → l[i]? = some x → R w p c x
theorem rInt_lawful (k : IntKind) : Lawful (rInt k) 1 := ⟨fun h => by rw [h.1]; rfl, fun h _ _ => h, fun h _ => h⟩
theorem rBool_lawful : Lawful rBool 1 := ⟨fun h => by rw [h]; rfl, fun h _ _ => h, fun h _ => h⟩
theorem rStr_lawful : Lawful rStr 1 := ⟨fun h => by rw [h.1]; rfl, fun h _ _ => h, fun h _ => h⟩
theorem rBytes_lawful : Lawful rBytes 1 :=
  ⟨fun ⟨_, _, h, _⟩ => by rw [h]; rfl, fun ⟨a, cap, h, hl, r⟩ k hs => ⟨a, cap, h, hl.keep k hs, r⟩, fun ⟨a, cap, h, hl, r⟩ hq => ⟨a, cap, h, hl.mono hq, r⟩⟩
theorem rList_lawful {α : Type} {R : RD α} {sz : Nat} (L : Lawful R sz) : Lawful (rList R) 1 :=
  ⟨fun ⟨_, _, _, h, _⟩ => by rw [h]; rfl,
   fun ⟨a, cap, css, h, h1, hl, h2, h3, r⟩ k hs => ⟨a, cap, css, h, h1, hl.keep k hs, h2, h3, fun i c x hc hx => L.keep (r i c x hc hx) k hs⟩,
   fun ⟨a, cap, css, h, h1, hl, h2, h3, r⟩ hq => ⟨a, cap, css, h, h1, hl.mono hq, h2, h3, fun i c x hc hx => L.mono (r i c x hc hx) hq⟩⟩
theorem flat_at {sz : Nat} : ∀ (css : List (List Value)), (∀ c ∈ css, c.length = sz) → ∀ (i : Nat) (c : List Value), css[i]? = some c → ∀ (j : Nat) (u : Value), c[j]? = some u → css.flatten[i * sz + j]? = some u
  | [], _, i, c, h, _, _, _ => by simp at h
  | d :: css, hl, 0, c, h, j, u, hu => by
    simp only [List.getElem?_cons_zero, Option.some.injEq] at h
    subst h
    rw [List.flatten_cons, Nat.zero_mul, Nat.zero_add, List.getElem?_append_left (List.getElem?_eq_some_iff.1 hu).1]; exact hu
  | d :: css, hl, i + 1, c, h, j, u, hu => by
    have hd := hl d (by simp)
    rw [List.flatten_cons, List.getElem?_append_right (by rw [hd, Nat.add_mul]; omega), hd, show (i + 1) * sz + j - sz = i * sz + j by rw [Nat.add_mul]; omega]
    exact flat_at css (fun c hc => hl c (by simp [hc])) i c (by simpa using h) j u hu
theorem rList_at {α : Type} {R : RD α} {sz : Nat} (L : Lawful R sz) (hsz : 0 < sz) {w : World} {p : Nat → Prop} {cs : List Value} {l : List α} (h : rList R w p cs l) (k : Nat) (hk : k < l.length) :
    ∃ b off cap c, cs = [.slice (some ⟨b, off, none⟩) l.length cap] ∧ p b ∧ b < w.heap.size ∧ R w p c l[k] ∧ ∀ (j : Nat) (u : Value), c[j]? = some u → w.cell? ⟨b, off + k * sz + j, none⟩ = some u := by
  obtain ⟨a, cap, css, rfl, h1, hl, -, -, r⟩ := h
  have hlen : ∀ c ∈ css, c.length = sz := by
    intro c hc
    obtain ⟨i, hi, rfl⟩ := List.mem_iff_getElem.1 hc
    exact L.len (r i _ (l[i]'(by omega)) (List.getElem?_eq_getElem hi) (List.getElem?_eq_getElem _))
  have hkc : k < css.length := by omega
  have hc := r k _ _ (List.getElem?_eq_getElem hkc) (List.getElem?_eq_getElem hk)
  have hcl := L.len hc
  have hne : css.flatten ≠ [] := by
    intro e
    have := flat_at css hlen k _ (List.getElem?_eq_getElem hkc) 0 _ (List.getElem?_eq_getElem (by omega))
    rw [e] at this; simp at this
  obtain ⟨b, off, rfl, hp, hb, hcell⟩ := hl hne
  refine ⟨b, off, cap, _, rfl, hp, hb, hc, fun j u hu => ?_⟩
  have := hcell _ _ (flat_at css hlen k _ (List.getElem?_eq_getElem hkc) j u hu)
  rw [← Nat.add_assoc] at this
  exact this
/-! ### from what came in -/
section
variable {P : Program} {W : World} {m : Nat} {t e : TypeId} {cs : List Value}
def sumOf {α : Type} (f : α → Nat) (l : List α) : Nat := (l.map f).sum + 1
theorem Red.toInt {k : IntKind} (ht : P.underlying t = some (.int k)) (h : Red P W m t cs) : ∃ n, rInt k W (· < W.heap.size) cs n ∧ 1 ≤ m := by
  obtain ⟨n, h1, h2⟩ := h.int ht
  exact ⟨n, ⟨h1, h2⟩, h.pos⟩
theorem Red.toBool (ht : P.underlying t = some .bool) (h : Red P W m t cs) : ∃ b, rBool W (· < W.heap.size) cs b ∧ 1 ≤ m := by
  obtain ⟨b, h1⟩ := h.bool ht
  exact ⟨b, h1, h.pos⟩
theorem Red.string' (ht : P.underlying t = some .string) (h : Red P W m t cs) : ∃ s : ByteArray, cs = [.string s] ∧ s.size ≤ reachBytes ∧ s.size + 1 ≤ m := by
  obtain ⟨H, enc, fuel, d, ps, hd, hw, -, hb⟩ := h
  obtain ⟨s, h1, h2, -⟩ := DataW.trod_string ht hd
  simp only [Prod.mk.injEq] at h2
  obtain ⟨rfl, -⟩ := h2
  have e : s.data.toList.length = s.size := by rw [Array.length_toList]; rfl
  refine ⟨s, h1, ?_, ?_⟩
  · rw [← e]; exact hw _ (by simp [DataW.weights])
  · simp only [Rows.uptoBulk] at hb; omega
theorem Red.toStr (ht : P.underlying t = some .string) (h : Red P W m t cs) : ∃ l, rStr W (· < W.heap.size) cs l ∧ l.length + 1 ≤ m := by
  obtain ⟨s, h1, h2, h3⟩ := h.string' ht
  have e : s.data.toList.length = s.size := by rw [Array.length_toList]; rfl
  refine ⟨s.data.toList, ⟨by rw [h1]; simp [strB], ?_⟩, by omega⟩
  rw [e]; simpa [far, reachBytes] using h2
theorem bytes_in' {a : Option Addr} {n cap : Nat} (ht : P.underlying t = some (.slice e)) (he : P.underlying e = some (.int .u8)) (hc : P.cellsOf e = 1) (hby : P.bytesOf e = 1)
    (h : Red P W m t [.slice a n cap]) : ∃ l : List UInt8, l.length = n ∧ Lies W (· < W.heap.size) a (l.map bv) ∧ cap ≤ 140737488351232 ∧ n ≤ cap ∧ n + 1 ≤ m := by
  obtain ⟨l, h1, h2, h3, h4, -⟩ := bytes_in ht he hc hby h
  refine ⟨l, h1, h2, h3, h4, ?_⟩
  obtain ⟨a', n', cap', css, ms, e1, e2, e3, e4, -, -, -, -, h7, -⟩ := h.slice ht hc hby (by decide)
  simp only [List.cons.injEq, Value.slice.injEq, and_true] at e1
  obtain ⟨rfl, rfl, rfl⟩ := e1
  have : ms.length ≤ ms.sum := by
    have h9 : ∀ k ∈ ms, 1 ≤ k := by
      intro k hk
      obtain ⟨i, hi, rfl⟩ := List.mem_iff_getElem.1 hk
      exact (h7 i _ _ (List.getElem?_eq_getElem (by omega)) (List.getElem?_eq_getElem hi)).2.pos
    clear h7 e4 e3
    induction ms with
    | nil => simp
    | cons k ms ih => have := ih (fun k hk => h9 k (by simp [hk])); have := h9 k (by simp); simp only [List.length_cons, List.sum_cons]; omega
  omega
theorem Red.toBytes (ht : P.underlying t = some (.slice e)) (he : P.underlying e = some (.int .u8)) (hc : P.cellsOf e = 1) (hby : P.bytesOf e = 1) (h : Red P W m t cs) : ∃ l, rBytes W (· < W.heap.size) cs l ∧ l.length + 1 ≤ m := by
  obtain ⟨a, n, cap, css, ms, rfl, -⟩ := h.slice ht hc hby (by decide)
  obtain ⟨l, rfl, h2, h3, h4, h5⟩ := bytes_in' ht he hc hby h
  exact ⟨l, ⟨a, cap, rfl, h2, h4, by unfold far; omega⟩, h5⟩
theorem Red.toList {α : Type} {R : RD α} {sz by' : Nat} (size : α → Nat) (ht : P.underlying t = some (.slice e)) (hc : P.cellsOf e = sz) (hby : P.bytesOf e = by') (hsz : 0 < sz) (hb0 : 0 < by')
    (one : ∀ {m : Nat} {c : List Value}, Red P W m e c → ∃ x, R W (· < W.heap.size) c x ∧ size x ≤ m) (h : Red P W m t cs) : ∃ l, rList R W (· < W.heap.size) cs l ∧ sumOf size l ≤ m := by
  obtain ⟨a, n, cap, css, ms, rfl, h2, h3, h4, h5, -, h6, -, h7, h8⟩ := h.slice ht hc hby hsz
  have key : ∃ l : List α, l.length = css.length ∧ (∀ (i : Nat) (c : List Value) (x : α), css[i]? = some c → l[i]? = some x → R W (· < W.heap.size) c x) ∧ (l.map size).sum ≤ ms.sum := by
    clear h8 h5 h6 h4 h
    induction css generalizing ms n with
    | nil => exact ⟨[], rfl, fun i c x hc => by simp at hc, by simp⟩
    | cons c css ih =>
      match ms, h3 with
      | [], h3 => simp at h2 h3; omega
      | k :: ms, h3 =>
        obtain ⟨x, hx, hs⟩ := one (h7 0 c k rfl rfl).2
        obtain ⟨l, hl1, hl2, hl3⟩ := ih css.length ms rfl (by simp at h2 h3; omega) (fun i c k hc hk => h7 (i + 1) c k (by simpa using hc) (by simpa using hk))
        refine ⟨x :: l, by simp [hl1], fun i d y hd hy => ?_, by simp only [List.map_cons, List.sum_cons]; omega⟩
        cases i with
        | zero => simp at hd hy; subst hd hy; exact hx
        | succ i => exact hl2 i d y (by simpa using hd) (by simpa using hy)
  obtain ⟨l, k1, k2, k3⟩ := key
  refine ⟨l, ⟨a, cap, css, by rw [k1, h2], k1.symm, h8, by omega, ?_, k2⟩, by unfold sumOf; omega⟩
  have : cap ≤ cap * by' := Nat.le_mul_of_pos_right _ hb0
  rw [k1, h2]; unfold far; simp only [reachBytes] at h6; omega
theorem Red.fields {fs : Array Field} {sz : Nat} (ht : P.underlying t = some (.struct fs)) (hc : P.cellsOf t = sz) (h : Red P W m t cs) :
    cs.length = sz ∧ ∃ ms : List Nat, ms.length = fs.size ∧ ms.sum + 1 ≤ m ∧ ∀ (i : Nat) (f : Field) (k : Nat), fs[i]? = some f → ms[i]? = some k → Red P W k f.type ((cs.drop f.offset).take (P.cellsOf f.type)) := by
  obtain ⟨H, enc, fuel, d, ps, hd, hw, hp, hb⟩ := h
  obtain ⟨xs, n, -, hx, hl, hlen, hf⟩ := DataW.trod_struct ht hd
  simp only [Prod.mk.injEq] at hx
  obtain ⟨rfl, rfl⟩ := hx
  refine ⟨hl.trans hc, xs.map (fun x => Rows.uptoBulk x.1), by simp [hlen], ?_, fun i f k hi hk => ?_⟩
  · simp only [Rows.uptoBulk, bulk_all, List.map_map, Function.comp_def] at hb; exact hb
  have hil : i < xs.length := by rw [hlen]; exact (Array.getElem?_eq_some_iff.1 hi).1
  have h1 := hf i f hi
  rw [List.getElem?_eq_getElem hil] at h1
  have hk' : Rows.uptoBulk xs[i].1 = k := by simpa [hil] using hk
  refine ⟨H, enc, n, xs[i].1, xs[i].2, h1, ?_, ?_, Nat.le_of_eq hk'⟩
  · intro x hx
    refine hw x ?_
    simp only [DataW.weights, ht]
    exact DataW.weights_mem_each (j := i) (by simp [hi]) (by simp [hil]) x hx
  · intro x hx
    exact hp x (List.mem_flatMap.2 ⟨xs[i], List.getElem_mem _, hx⟩)
end
def parts (cs : List Value) : List Nat → Nat → List (List Value)
  | [], _ => []
  | s :: r, o => (cs.drop o).take s :: parts cs r (o + s)
theorem parts_flat (cs : List Value) : ∀ (l : List Nat) (o : Nat), cs.length = o + l.sum → (parts cs l o).flatten = cs.drop o
  | [], o, h => by simp at h; simp [parts, h]
  | s :: r, o, h => by
    simp only [List.sum_cons] at h
    rw [parts, List.flatten_cons, parts_flat cs r (o + s) (by omega)]
    rw [← List.drop_drop, List.take_append_drop]
end Go.Proofs.YtibaehlfpgipfaaGreat
