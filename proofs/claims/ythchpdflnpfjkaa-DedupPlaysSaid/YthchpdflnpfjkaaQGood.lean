/- PLAIN LAWS of things as bytes: what is written is read, a beginning is too short, and there is one form; by parts. -/
import Derived.Test.YthchpdflnpfjkaaQTook
import Derived.Test.YthchpdflnpfjkaaQRdX
namespace Go.Proofs.Ythchpdflnpfjkaa
open Go.RowKit

theorem look_short : ∀ (f i a v : Nat) (l u : List UInt8), f + 1 + i = 10 → l ++ u = numF f v → u ≠ [] → lookF (f + 1) i a l = (0, 0, 8)
  | 0, i, a, v, [], u, hf, h, hu => rfl
  | 0, i, a, v, c :: l, u, hf, h, hu => by
    simp only [numF, List.cons_append, List.cons.injEq, List.append_eq_nil_iff] at h
    exact absurd h.2.2 hu
  | f + 1, i, a, v, [], u, hf, h, hu => rfl
  | f + 1, i, a, v, c :: l, u, hf, h, hu => by
    by_cases hv : v < 128
    · rw [numF_small _ _ hv] at h
      simp only [List.cons_append, List.cons.injEq, List.append_eq_nil_iff] at h
      exact absurd h.2.2 hu
    · rw [numF_big _ _ (by omega)] at h
      simp only [List.cons_append, List.cons.injEq] at h
      obtain ⟨rfl, h⟩ := h
      have e := ofNat_toNat (v % 128 + 128) (by omega)
      conv => lhs; unfold lookF
      rw [e, if_neg (by omega), if_neg (by omega)]
      exact look_short f (i + 1) _ (v / 128) l u (by omega) h hu
theorem lookB_short (v : Nat) (l u : List UInt8) (h : l ++ u = numB v) (hu : u ≠ []) : lookB l = (0, 0, 8) := look_short 9 0 0 v l u rfl h hu

/-- A reader and a writer of one kind of thing, of those that are ok. -/
structure Good {α : Type} (f : Ps α) (enc : α → List UInt8) (ok : α → Prop) : Prop where
  stuck : ∀ s, s.e ≠ 0 → (f s).2 = s
  back : ∀ x s t, ok x → s.e = 0 → s.B.drop s.pos = enc x ++ t → f s = (x, { s with pos := s.pos + (enc x).length })
  cut : ∀ x s u, ok x → s.e = 0 → s.B.drop s.pos ++ u = enc x → u ≠ [] → (f s).2.e = 8
  form : ∀ s, s.e = 0 → (f s).2.e = 0 → (f s).2 = { s with pos := (f s).2.pos } ∧ s.B.drop s.pos = enc (f s).1 ++ s.B.drop (f s).2.pos ∧ s.pos ≤ (f s).2.pos
theorem Good.mono {α : Type} {f : Ps α} {enc : α → List UInt8} {ok ok' : α → Prop} (h : Good f enc ok) (i : ∀ x, ok' x → ok x) : Good f enc ok' :=
  ⟨h.stuck, fun x s t hx => h.back x s t (i x hx), fun x s u hx => h.cut x s u (i x hx), h.form⟩

/-! ### numbers -/
theorem numS_back {m v : Nat} {s : RdS} {t : List UInt8} (he : s.e = 0) (hm : v ≤ m) (hv : v < 2 ^ 64) (h : s.B.drop s.pos = numB v ++ t) : numS m s = (v, { s with pos := s.pos + (numB v).length }) := by
  unfold numS
  rw [if_neg (by simp [he]), h, lookB_num v t hv]
  rw [if_neg (by simp), if_neg (by simpa using hm)]
theorem numS_cut {m v : Nat} {s : RdS} {u : List UInt8} (he : s.e = 0) (h : s.B.drop s.pos ++ u = numB v) (hu : u ≠ []) : numS m s = (0, { s with e := 8 }) := by
  unfold numS
  rw [if_neg (by simp [he]), lookB_short v _ u h hu, if_pos (by simp)]
theorem numS_form {m : Nat} {s : RdS} (he : s.e = 0) (h : (numS m s).2.e = 0) : (numS m s).2 = { s with pos := (numS m s).2.pos } ∧ s.B.drop s.pos = numB (numS m s).1 ++ s.B.drop (numS m s).2.pos ∧ s.pos ≤ (numS m s).2.pos := by
  unfold numS at *
  rw [if_neg (by simp [he])] at *
  by_cases h1 : (lookB (s.B.drop s.pos)).2.2 = 0
  · rw [if_neg (by simp [h1])] at *
    by_cases h2 : m < (lookB (s.B.drop s.pos)).1
    · rw [if_pos h2] at h; simp at h
    · rw [if_neg h2] at *
      refine ⟨rfl, ?_, Nat.le_add_right _ _⟩
      simp only [lookB_form _ h1]
      rw [← List.drop_drop, List.take_append_drop]
  · rw [if_pos (by simpa using h1)] at h
    exact absurd h h1
/-! ### parts side by side -/
def seqP {α β : Type} (f : Ps α) (g : Ps β) : Ps (α × β) := fun s => (((f s).1, (g (f s).2).1), (g (f s).2).2)
theorem Good.seq {α β : Type} {f : Ps α} {g : Ps β} {ef : α → List UInt8} {eg : β → List UInt8} {kf : α → Prop} {kg : β → Prop} (hf : Good f ef kf) (hg : Good g eg kg) :
    Good (seqP f g) (fun x => ef x.1 ++ eg x.2) (fun x => kf x.1 ∧ kg x.2) := by
  refine ⟨?_, ?_, ?_, ?_⟩
  · intro s he
    have h1 := hf.stuck s he
    show (g (f s).2).2 = s
    rw [h1]; exact hg.stuck s he
  · rintro ⟨x, y⟩ s t ⟨kx, ky⟩ he h
    rw [List.append_assoc] at h
    have h1 := hf.back x s _ kx he h
    have h2 := hg.back y { s with pos := s.pos + (ef x).length } t ky he (by
      show s.B.drop (s.pos + (ef x).length) = _
      rw [← List.drop_drop, h, List.drop_left])
    show (((f s).1, (g (f s).2).1), (g (f s).2).2) = _
    rw [h1, h2]
    simp only [List.length_append, Nat.add_assoc]
  · rintro ⟨x, y⟩ s u ⟨kx, ky⟩ he h hu
    show (g (f s).2).2.e = 8
    rcases List.append_eq_append_iff.mp h with ⟨a, h1, h2⟩ | ⟨c, h1, h2⟩
    · by_cases ha : a = []
      · subst ha
        rw [List.append_nil] at h1
        have b1 := hf.back x s [] kx he (by rw [List.append_nil]; exact h1.symm)
        rw [b1]
        refine hg.cut y _ u ky he ?_ hu
        show s.B.drop (s.pos + (ef x).length) ++ u = _
        rw [← List.drop_drop, ← h1, List.drop_length, h2]; rfl
      · have c1 := hf.cut x s a kx he h1.symm ha
        rw [hg.stuck _ (by rw [c1]; decide), c1]
    · have b1 := hf.back x s c kx he h1
      rw [b1]
      refine hg.cut y _ u ky he ?_ hu
      show s.B.drop (s.pos + (ef x).length) ++ u = _
      rw [← List.drop_drop, h1, List.drop_left, h2]
  · intro s he h
    have he1 : (f s).2.e = 0 := by
      apply Classical.byContradiction
      intro hn
      exact hn (by rw [← hg.stuck _ hn]; exact h)
    obtain ⟨a1, a2, a3⟩ := hf.form s he he1
    obtain ⟨b1, b2, b3⟩ := hg.form (f s).2 he1 h
    have eB : (f s).2.B = s.B := by rw [a1]
    refine ⟨?_, ?_, Nat.le_trans a3 b3⟩
    · show (g (f s).2).2 = { s with pos := (g (f s).2).2.pos }
      rw [b1, a1]
    · show s.B.drop s.pos = (ef (f s).1 ++ eg (g (f s).2).1) ++ s.B.drop (g (f s).2).2.pos
      rw [eB] at b2
      rw [a2, b2, List.append_assoc]
/-- A thing that is made of others. -/
theorem Good.map {α β : Type} {f : Ps α} {ef : α → List UInt8} {kf : α → Prop} (hf : Good f ef kf) (φ : α → β) (ψ : β → α) (h1 : ∀ y, φ (ψ y) = y) (h2 : ∀ x, ψ (φ x) = x) :
    Good (fun s => (φ (f s).1, (f s).2)) (fun y => ef (ψ y)) (fun y => kf (ψ y)) := by
  refine ⟨hf.stuck, ?_, fun x s u hx => hf.cut (ψ x) s u hx, ?_⟩
  · intro x s t hx he h
    show (φ (f s).1, (f s).2) = _
    rw [hf.back (ψ x) s t hx he h]; simp only [h1]
  · intro s he h
    show _ ∧ s.B.drop s.pos = ef (ψ (φ (f s).1)) ++ _ ∧ _
    rw [h2]
    exact hf.form s he h
/-! ### the leaves -/
theorem good_int : Good pInt encI isI64 := by
  refine ⟨?_, ?_, ?_, ?_⟩
  · intro s he; unfold pInt; rw [numS_stuck he]
  · intro x s t hx he h
    have hz := zig_u64 hx
    unfold isU64 at hz
    unfold pInt
    rw [numS_back he (by unfold maxU; omega) (by omega) h]
    simp only [zag_zig]
  · intro x s u hx he h hu
    unfold pInt
    rw [numS_cut he h hu]
  · intro s he h
    obtain ⟨h1, h2, h3⟩ := numS_form he h
    refine ⟨h1, ?_, h3⟩
    show _ = numB (zig (zag (numS maxU s).1)).toNat ++ _
    have e : (zig (zag (numS maxU s).1)).toNat = (numS maxU s).1 := by
      generalize (numS maxU s).1 = v
      unfold zig zag; split <;> split <;> omega
    rw [e]; exact h2
theorem good_num : Good pNum encU isU64 := by
  refine ⟨?_, ?_, ?_, ?_⟩
  · intro s he; unfold pNum; rw [numS_stuck he]
  · intro x s t hx he h
    unfold isU64 at hx
    unfold pNum
    rw [numS_back he (by unfold maxU; omega) (by omega) h]
    simp only [Int.toNat_of_nonneg hx.1]
  · intro x s u hx he h hu
    unfold pNum
    rw [numS_cut he h hu]
  · intro s he h
    obtain ⟨h1, h2, h3⟩ := numS_form he h
    exact ⟨h1, h2, h3⟩
theorem good_flag : Good pFlag encF (fun _ => True) := by
  refine ⟨?_, ?_, ?_, ?_⟩
  · intro s he; unfold pFlag; rw [numS_stuck he]
  · intro x s t hx he h
    unfold pFlag
    rw [numS_back he (by cases x <;> decide) (by cases x <;> decide) h]
    cases x <;> rfl
  · intro x s u hx he h hu
    unfold pFlag
    rw [numS_cut he h hu]
  · intro s he h
    obtain ⟨h1, h2, h3⟩ := numS_form he h
    refine ⟨h1, ?_, h3⟩
    have hl := numS_le 1 s
    show _ = numB (if decide (((numS 1 s).1 : Int) = 1) = true then 1 else 0) ++ _
    have e : (if decide (((numS 1 s).1 : Int) = 1) = true then 1 else 0) = (numS 1 s).1 := by
      generalize (numS 1 s).1 = v at hl ⊢
      by_cases hv : v = 1
      · subst hv; rfl
      · rw [if_neg (by simp; omega)]; omega
    rw [e]; exact h2
theorem good_bytes : Good pBytes textB (fun l => l.length ≤ 65536) := by
  refine ⟨?_, ?_, ?_, ?_⟩
  · intro s he; unfold pBytes; rw [textS_stuck he]
  · intro x s t hx he h
    unfold textB at h
    rw [List.append_assoc] at h
    have hl : x.length + t.length ≤ s.B.length - (s.pos + (numB x.length).length) := by
      have := congrArg List.length h
      simp only [List.length_drop, List.length_append] at this; omega
    have hd : s.B.drop (s.pos + (numB x.length).length) = x ++ t := by rw [← List.drop_drop, h, List.drop_left]
    unfold pBytes textS
    rw [if_neg (by simp [he]), numS_back he hx (by omega) h, if_neg (by simp [he])]
    rw [if_neg (by simp only; omega)]
    simp only [hd, List.take_left, textB, List.length_append, Nat.add_assoc]
  · intro x s u hx he h hu
    unfold textB at h
    unfold pBytes textS
    rw [if_neg (by simp [he])]
    rcases List.append_eq_append_iff.mp h with ⟨a, h1, h2⟩ | ⟨c, h1, h2⟩
    · by_cases ha : a = []
      · subst ha
        rw [List.append_nil] at h1
        have hx0 : x ≠ [] := by rintro rfl; exact hu (by simpa using h2)
        have hp : 0 < x.length := List.length_pos_iff.mpr hx0
        have hl : s.B.length - (s.pos + (numB x.length).length) = 0 := by
          have := congrArg List.length h1
          simp only [List.length_drop] at this; omega
        rw [numS_back (t := []) he hx (by omega) (by rw [List.append_nil]; exact h1.symm), if_neg (by simp [he]), if_pos (by simp only; omega)]
      · rw [numS_cut he h1.symm ha, if_pos (by simp)]
    · have hl : s.B.length - (s.pos + (numB x.length).length) = c.length := by
        have := congrArg List.length h1
        simp only [List.length_drop, List.length_append] at this; omega
      have hc : c.length < x.length := by
        have := congrArg List.length h2
        have := List.length_pos_iff.mpr hu
        simp only [List.length_append] at *; omega
      rw [numS_back (t := c) he hx (by omega) h1, if_neg (by simp [he]), if_pos (by simp only; omega)]
  · intro s he h
    unfold pBytes textS at *
    rw [if_neg (by simp [he])] at *
    by_cases h1 : (numS 65536 s).2.e = 0
    · rw [if_neg (by simp [h1])] at *
      by_cases h2 : s.B.length - (numS 65536 s).2.pos < (numS 65536 s).1
      · rw [if_pos h2] at h; simp at h
      · rw [if_neg h2] at *
        obtain ⟨a1, a2, a3⟩ := numS_form he h1
        refine ⟨rfl, ?_, Nat.le_trans a3 (Nat.le_add_right _ _)⟩
        have hl : ((s.B.drop (numS 65536 s).2.pos).take (numS 65536 s).1).length = (numS 65536 s).1 := by
          rw [List.length_take, List.length_drop]; omega
        unfold textB
        simp only [hl]
        rw [List.append_assoc, ← List.drop_drop, List.take_append_drop]
        exact a2
    · rw [if_pos (by simpa using h1)] at h
      exact absurd h h1
/-! ### lists -/
theorem pMany_stuck {α : Type} (f : Ps α) (n : Nat) {s : RdS} (he : s.e ≠ 0) : pMany f n s = ([], s) := by
  cases n with
  | zero => rfl
  | succ n => unfold pMany; rw [if_neg he]
theorem pMany_back {α : Type} {f : Ps α} {enc : α → List UInt8} {ok : α → Prop} (hf : Good f enc ok) : ∀ (l : List α) (s : RdS) (t : List UInt8), (∀ x ∈ l, ok x) → s.e = 0 → s.B.drop s.pos = l.flatMap enc ++ t →
    pMany f l.length s = (l, { s with pos := s.pos + (l.flatMap enc).length })
  | [], s, t, _, he, _ => rfl
  | x :: l, s, t, hk, he, h => by
    rw [List.flatMap_cons, List.append_assoc] at h
    have h1 := hf.back x s _ (hk x List.mem_cons_self) he h
    have h2 := pMany_back hf l { s with pos := s.pos + (enc x).length } t (fun y hy => hk y (List.mem_cons_of_mem _ hy)) he (by
      show s.B.drop (s.pos + (enc x).length) = _
      rw [← List.drop_drop, h, List.drop_left])
    rw [List.length_cons]
    unfold pMany
    rw [if_pos he, h1, h2]
    simp only [List.flatMap_cons, List.length_append, Nat.add_assoc]
theorem pMany_cut {α : Type} {f : Ps α} {enc : α → List UInt8} {ok : α → Prop} (hf : Good f enc ok) : ∀ (l : List α) (s : RdS) (u : List UInt8), (∀ x ∈ l, ok x) → s.e = 0 → s.B.drop s.pos ++ u = l.flatMap enc → u ≠ [] →
    (pMany f l.length s).2.e = 8
  | [], s, u, _, he, h, hu => by
    simp only [List.flatMap_nil, List.append_eq_nil_iff] at h
    exact absurd h.2 hu
  | x :: l, s, u, hk, he, h, hu => by
    rw [List.flatMap_cons] at h
    rw [List.length_cons]
    unfold pMany
    rw [if_pos he]
    show (pMany f l.length (f s).2).2.e = 8
    have kx := hk x List.mem_cons_self
    rcases List.append_eq_append_iff.mp h with ⟨a, h1, h2⟩ | ⟨c, h1, h2⟩
    · by_cases ha : a = []
      · subst ha
        rw [List.append_nil] at h1
        rw [hf.back x s [] kx he (by rw [List.append_nil]; exact h1.symm)]
        refine pMany_cut hf l _ u (fun y hy => hk y (List.mem_cons_of_mem _ hy)) he ?_ hu
        show s.B.drop (s.pos + (enc x).length) ++ u = _
        rw [← List.drop_drop, ← h1, List.drop_length, h2]; rfl
      · have c1 := hf.cut x s a kx he h1.symm ha
        rw [pMany_stuck f _ (by rw [c1]; decide), c1]
    · rw [hf.back x s c kx he h1]
      refine pMany_cut hf l _ u (fun y hy => hk y (List.mem_cons_of_mem _ hy)) he ?_ hu
      show s.B.drop (s.pos + (enc x).length) ++ u = _
      rw [← List.drop_drop, h1, List.drop_left, h2]
theorem pMany_form {α : Type} {f : Ps α} {enc : α → List UInt8} {ok : α → Prop} (hf : Good f enc ok) : ∀ (n : Nat) (s : RdS), s.e = 0 → (pMany f n s).2.e = 0 →
    (pMany f n s).2 = { s with pos := (pMany f n s).2.pos } ∧ s.B.drop s.pos = (pMany f n s).1.flatMap enc ++ s.B.drop (pMany f n s).2.pos ∧ s.pos ≤ (pMany f n s).2.pos ∧ (pMany f n s).1.length = n
  | 0, s, he, h => ⟨rfl, rfl, Nat.le_refl _, rfl⟩
  | n + 1, s, he, h => by
    unfold pMany at *
    rw [if_pos he] at *
    have he1 : (f s).2.e = 0 := by
      apply Classical.byContradiction
      intro hn
      rw [pMany_stuck f n hn] at h
      exact hn h
    obtain ⟨a1, a2, a3⟩ := hf.form s he he1
    obtain ⟨b1, b2, b3, b4⟩ := pMany_form hf n (f s).2 he1 h
    have eB : (f s).2.B = s.B := by rw [a1]
    refine ⟨?_, ?_, Nat.le_trans a3 b3, by simp only [List.length_cons, b4]⟩
    · show (pMany f n (f s).2).2 = { s with pos := (pMany f n (f s).2).2.pos }
      rw [b1, a1]
    · rw [eB] at b2
      simp only [List.flatMap_cons, List.append_assoc]
      rw [← b2]; exact a2
theorem Good.list {α : Type} {f : Ps α} {enc : α → List UInt8} {ok : α → Prop} (hf : Good f enc ok) : Good (pList f) (encL enc) (fun l => l.length ≤ 5000 ∧ ∀ x ∈ l, ok x) := by
  refine ⟨?_, ?_, ?_, ?_⟩
  · intro s he; unfold pList; rw [numS_stuck he]; exact congrArg Prod.snd (pMany_stuck f 0 he)
  · rintro l s t ⟨hl, hk⟩ he h
    unfold encL at h
    rw [List.append_assoc] at h
    unfold pList
    rw [numS_back he hl (by omega) h]
    have b := pMany_back hf l { s with pos := s.pos + (numB l.length).length } t hk he (by
      show s.B.drop (s.pos + (numB l.length).length) = _
      rw [← List.drop_drop, h, List.drop_left])
    dsimp only
    rw [b]
    simp only [encL, List.length_append, Nat.add_assoc]
  · rintro l s u ⟨hl, hk⟩ he h hu
    unfold encL at h
    unfold pList
    rcases List.append_eq_append_iff.mp h with ⟨a, h1, h2⟩ | ⟨c, h1, h2⟩
    · by_cases ha : a = []
      · subst ha
        rw [List.append_nil] at h1
        rw [numS_back (t := []) he hl (by omega) (by rw [List.append_nil]; exact h1.symm)]
        refine pMany_cut hf l _ u hk he ?_ hu
        show s.B.drop (s.pos + (numB l.length).length) ++ u = _
        rw [← List.drop_drop, ← h1, List.drop_length, h2]; rfl
      · rw [numS_cut he h1.symm ha]
        exact (by rw [pMany_stuck f _ (show (8 : Int) ≠ 0 by decide)] : (pMany f 0 { s with e := 8 }).2.e = 8)
    · rw [numS_back (t := c) he hl (by omega) h1]
      refine pMany_cut hf l _ u hk he ?_ hu
      show s.B.drop (s.pos + (numB l.length).length) ++ u = _
      rw [← List.drop_drop, h1, List.drop_left, h2]
  · intro s he h
    unfold pList at *
    have he1 : (numS 5000 s).2.e = 0 := by
      apply Classical.byContradiction
      intro hn
      rw [pMany_stuck f _ hn] at h
      exact hn h
    obtain ⟨a1, a2, a3⟩ := numS_form he he1
    obtain ⟨b1, b2, b3, b4⟩ := pMany_form hf _ (numS 5000 s).2 he1 h
    have eB : (numS 5000 s).2.B = s.B := by rw [a1]
    refine ⟨?_, ?_, Nat.le_trans a3 b3⟩
    · rw [b1, a1]
    · rw [eB] at b2
      unfold encL
      rw [b4, List.append_assoc, ← b2]; exact a2
/-! ### the whole -/
section
variable {α : Type} {f : Ps α} {enc : α → List UInt8} {ok : α → Prop} (hf : Good f enc ok) (z : α)
include hf
theorem Good.take_back (x : α) (hx : ok x) : takeP f z (enc x) = (x, 0) := by
  unfold takeP
  rw [hf.back x _ [] hx rfl (by simp), endP_ok]
  simp [endS]
theorem Good.take_more (x : α) (c : UInt8) (hx : ok x) : (takeP f z (enc x ++ [c])).2 = 9 := by
  unfold takeP
  have h : endS (f ⟨enc x ++ [c], 0, 0, []⟩).2 = 9 := by
    rw [hf.back x _ [c] hx rfl (by simp)]
    simp [endS]
  rw [endP_no (by rw [h]; decide)]; exact h
theorem Good.take_cut (x : α) (n : Nat) (hx : ok x) (hn : n < (enc x).length) : (takeP f z ((enc x).take n)).2 = 8 := by
  unfold takeP
  have h1 := hf.cut x ⟨(enc x).take n, 0, 0, []⟩ ((enc x).drop n) hx rfl (by simp) (by
    intro h; have := congrArg List.length h; simp at this; omega)
  have h : endS (f ⟨(enc x).take n, 0, 0, []⟩).2 = 8 := by
    unfold endS; rw [h1]; rfl
  rw [endP_no (by rw [h]; decide)]; exact h
theorem Good.take_form (l : List UInt8) (h : (takeP f z l).2 = 0) : enc (takeP f z l).1 = l := by
  unfold takeP at *
  by_cases h0 : endS (f ⟨l, 0, 0, []⟩).2 = 0
  · rw [endP_ok h0]
    have he : (f ⟨l, 0, 0, []⟩).2.e = 0 := by
      unfold endS at h0
      apply Classical.byContradiction
      intro hn; rw [if_pos hn] at h0; exact hn h0
    obtain ⟨a1, a2, a3⟩ := hf.form _ rfl he
    have eB : (f ⟨l, 0, 0, []⟩).2.B = l := by rw [a1]
    have hp : ¬ (f ⟨l, 0, 0, []⟩).2.pos < l.length := by
      intro hp
      unfold endS at h0
      rw [if_neg (by simp [he]), eB, if_pos hp] at h0
      exact absurd h0 (by decide)
    simp only [List.drop_zero] at a2
    rw [List.drop_eq_nil_of_le (by omega), List.append_nil] at a2
    exact a2.symm
  · rw [endP_no h0] at h
    exact absurd h h0
end
end Go.Proofs.Ythchpdflnpfjkaa
