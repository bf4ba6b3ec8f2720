/- PAGES: Take. Printed by mac.py. -/
import Derived.Test.YthkocgpbpgfocaaPgK
namespace Go.Proofs.Ythkocgpbpgfocaa
open Go.RowKit Go.Shelf

def minusK (l ys : List GPair) : List GPair := l.filter (fun x => !ys.any (fun y => decide (x.fKey = y.fKey)))
def restF (s : GSpan) (l : List GPair) : List GPair := l.filter (fun x => !withinF s x.fKey)
theorem minusK_nil (l : List GPair) : minusK l [] = l := List.filter_eq_self.2 (fun _ _ => rfl)
theorem minusK_snoc (l ys : List GPair) (y : GPair) : minusK l (ys ++ [y]) = cutK (minusK l ys) y.fKey := by
  unfold minusK cutK
  rw [List.filter_filter]
  congr 1
  funext x
  rw [List.any_append]
  by_cases h : x.fKey = y.fKey <;> simp [h]
theorem minusK_part (s : GSpan) (l : List GPair) : minusK l (partF s l) = restF s l := by
  unfold minusK restF
  refine List.filter_congr (fun x hx => ?_)
  congr 1
  by_cases h : withinF s x.fKey = true
  · rw [h]
    exact List.any_eq_true.2 ⟨x, List.mem_filter.2 ⟨hx, h⟩, by simp⟩
  · rw [Bool.not_eq_true] at h
    rw [h, List.any_eq_false]
    intro y hy
    have h2 := (List.mem_filter.1 hy).2
    simp only [decide_eq_true_eq]
    intro e
    rw [e] at h
    rw [h] at h2
    cases h2
theorem minusK_len (l ys : List GPair) : (minusK l ys).length ≤ l.length := List.length_filter_le _ _
/-- Behind k rounds of Take. -/
def TakeI (D cx g : Nat) (O : Nat → Prop) (w0 : World) (l0 xs : List GPair) (k : Nat) (W : World) : Prop := ∃ (Ok : Nat → Prop) (a : Option Addr) (c : Nat) (css : List (List Value)), RowIs W cx 22 [.slice a k c] ∧ W.ownsRow (D + 2) 29 3 (.slice a k c) k css.flatten ∧
  Els rGPair W (fun b => ((D + 2 ≤ b ∧ b < W.heap.size) ∧ ¬ OwnB (.slice a k c) b) ∧ ¬ Ok b) css (xs.take k) ∧ (∀ b, OwnB (.slice a k c) b → ¬ Ok b) ∧ IsMap W Ok g (minusK l0 (xs.take k)) ∧ (∀ b, Ok b → O b ∨ D + 2 ≤ b) ∧ Keep (fun b => b = cx ∨ O b) w0 W
theorem takeI_start {cx g : Nat} {O : Nat → Prop} {w0 : World} {l0 xs : List GPair} (row : RowIs w0 cx 22 [.slice none 0 0]) (M : IsMap w0 O g l0) : TakeI w0.heap.size cx g O w0 l0 xs 0 w0 :=
  ⟨O, none, 0, [], row, World.ownsRow_nil _ _ _ _, Els.nil _ _ _, fun b hb => (by cases hb), by rw [List.take_zero, minusK_nil]; exact M, fun _ h => .inl h, Keep.refl _ _⟩
theorem takeI_keep {D cx g : Nat} {O : Nat → Prop} {w0 : World} {l0 xs : List GPair} {k : Nat} {A B : World} (h : TakeI D cx g O w0 l0 xs k A) (kk : Keep (Book D) A B) (hD : w0.heap.size = D) (hc : cx < D) (hO : ∀ b, O b → b < D) : TakeI D cx g O w0 l0 xs k B := by
  obtain ⟨Ok, a, c, css, row, own, els, hdis, M, hsub, k0⟩ := h
  have hs := kk.size
  refine ⟨Ok, a, c, css, row.keep kk (fun e => ?_), owned_keep own kk (fun b hb e => ?_), (els.keep rGPair_lawful kk (fun b hb e => ?_)).mono rGPair_lawful (fun b hb => ⟨⟨⟨hb.1.1.1, by have := hb.1.1.2; omega⟩, hb.1.2⟩, hb.2⟩), hdis, M.keep kk (fun b hb e => ?_), hsub, k0.then kk (fun i hi e => ?_)⟩
  · rcases e with e | e <;> omega
  · have := (own.lt b hb).1
    rcases e with e | e <;> omega
  · have := hb.1.1.1
    rcases e with e | e <;> omega
  · rcases hsub b hb with h | h
    · have := hO b h
      rcases e with e | e <;> omega
    · rcases e with e | e <;> omega
  · rcases e with e | e <;> omega
def TakeM (w : World) (O : Nat → Prop) (g : Nat) (s : GSpan) (l : List GPair) (e : Ending) (w' : World) : Prop :=
  ∃ (a : Option Addr) (c : Nat) (O' R : Nat → Prop), e = .returned (.slice a (partF s l).length c) ∧ IsMap w' O' g (restF s l) ∧ rList rGPair w' R [.slice a (partF s l).length c] (partF s l) ∧ (∀ b, R b → w.heap.size ≤ b ∧ b < w'.heap.size ∧ ¬ O' b) ∧ (∀ b, O' b → O b ∨ w.heap.size ≤ b) ∧ Keep O w w'
set_option maxRecDepth 100000 in
set_option maxHeartbeats 4000000 in
theorem take_m {q : Nat → Prop} (O : Nat → Prop) (g : Nat) (l : List GPair) (s : GSpan) (csS : List Value) (w : World) (M : IsMap w O g l) (hl : l.length ≤ 100000) (hs : rGSpan w q csS s) :
    Calls Try.prog 24 #[.pointer (some ⟨g, 0, none⟩), .agg csS.toArray] w (TakeM w O g s l) := by
  have hs2 := hs
  obtain ⟨sF, dF, sT, dT, rfl, -⟩ := rGSpan_open hs
  refine calls_marks Try.func24 rfl ?_
  simp only [Try.ntmps24, List.size_toArray, List.length_cons, List.length_nil, Nat.reduceAdd, Nat.reduceSub, Array.replicate_succ, Array.replicate_zero, List.push_toArray, List.append_toArray, List.nil_append, List.cons_append]
  have kC : Keep Nix w (((((w.alloc (.cells #[.pointer (some ⟨g, 0, none⟩)] 23))).alloc (.cells #[.slice sF s.fFrom.length dF, .slice sT s.fTo.length dT] 37))).alloc (.cells #[.slice none 0 0] 22)) := (((Keep.refl Nix w).alloc _).alloc _).alloc _
  have rowB : RowIs (((((w.alloc (.cells #[.pointer (some ⟨g, 0, none⟩)] 23))).alloc (.cells #[.slice sF s.fFrom.length dF, .slice sT s.fTo.length dT] 37))).alloc (.cells #[.slice none 0 0] 22)) w.heap.size 23 [.pointer (some ⟨g, 0, none⟩)] := ((RowIs.alloc w #[.pointer (some ⟨g, 0, none⟩)] 23).keep ((Keep.refl Nix _).alloc _) id).keep ((Keep.refl Nix _).alloc _) id
  have rowS : RowIs (((((w.alloc (.cells #[.pointer (some ⟨g, 0, none⟩)] 23))).alloc (.cells #[.slice sF s.fFrom.length dF, .slice sT s.fTo.length dT] 37))).alloc (.cells #[.slice none 0 0] 22)) (w.heap.size + 1) 37 [.slice sF s.fFrom.length dF, .slice sT s.fTo.length dT] := by
    have h := (RowIs.alloc (w.alloc (.cells #[.pointer (some ⟨g, 0, none⟩)] 23)) #[.slice sF s.fFrom.length dF, .slice sT s.fTo.length dT] 37).keep ((Keep.refl Nix _).alloc (.cells #[.slice none 0 0] 22)) id
    simpa using h
  have rowX : RowIs (((((w.alloc (.cells #[.pointer (some ⟨g, 0, none⟩)] 23))).alloc (.cells #[.slice sF s.fFrom.length dF, .slice sT s.fTo.length dT] 37))).alloc (.cells #[.slice none 0 0] 22)) (w.heap.size + 1 + 1) 22 [.slice none 0 0] := by
    have h := RowIs.alloc (((w.alloc (.cells #[.pointer (some ⟨g, 0, none⟩)] 23))).alloc (.cells #[.slice sF s.fFrom.length dF, .slice sT s.fTo.length dT] 37)) #[.slice none 0 0] 22
    simpa using h
  have hsz : Hid (((((((w.alloc (.cells #[.pointer (some ⟨g, 0, none⟩)] 23))).alloc (.cells #[.slice sF s.fFrom.length dF, .slice sT s.fTo.length dT] 37))).alloc (.cells #[.slice none 0 0] 22))).heap.size = w.heap.size + 3) := by show _ = _; simp
  have hlt := M.lt
  have M1 := M.nix kC
  have hsp := rGSpan_lawful.nix hs2 kC
  clear M hs hs2
  go_upto_region 2 with fail
  generalize (((((w.alloc (.cells #[.pointer (some ⟨g, 0, none⟩)] 23))).alloc (.cells #[.slice sF s.fFrom.length dF, .slice sT s.fTo.length dT] 37))).alloc (.cells #[.slice none 0 0] 22)) = w1 at *
  have b0 := rowB.cell 0
  (try simp only [List.getElem?_cons_zero] at b0)
  have u0 := rowS.cell 0
  (try simp only [List.getElem?_cons_zero] at u0)
  have u1 := rowS.cell 1
  (try simp only [List.getElem?_cons_succ] at u1); (try simp only [List.getElem?_cons_zero] at u1)
  go_wp2_with fail
  go_fit (scan_m O g l s [.slice sF s.fFrom.length dF, .slice sT s.fTo.length dT] false w1 M1 hl hsp)
  rintro e w2 ⟨gs, rfl, HT, k2⟩
  have hF : scanF s false l = partF s l := rfl
  rw [hF] at HT
  have M2 := M1.nix k2
  have rowB2 := rowB.keep k2 id
  have rowX2 := rowX.keep k2 id
  have kk := kC.trans k2
  have hs2 := k2.size
  have hw1 := hsz.out
  have hpl : (partF s l).length ≤ 100000 := Nat.le_trans (List.length_filter_le _ _) hl
  obtain ⟨xs, HXS⟩ : ∃ y, Hid (partF s l = y) := ⟨_, rfl⟩
  rw [HXS.out] at HT hpl
  clear M1 rowB rowX rowS u0 u1 b0 hF k2
  go_wp2_with fail
  have hcx : w.heap.size + 1 + 1 < w2.heap.size := by omega
  have hOD : ∀ b, O b → b < w2.heap.size := fun b hb => by have := hlt b hb; omega
  refine range_tells (xs := xs) rfl (enters_of Try.func37 (by kernel_rfl) rfl) HT (Nat.le_refl _) (fun k W => TakeI w2.heap.size (w.heap.size + 1 + 1) g O w2 l xs k W) (fun _ _ => False) (fun k A B h kk => takeI_keep h kk rfl hcx hOD) (fun _ _ _ h _ => h) (takeI_start rowX2 M2) ?round ?done (fun _ _ h => h.elim)
  case done =>
    intro Wb HI hK
    obtain ⟨Ok, a, c, css, row, own, els, hdis, MM, hsub, k0⟩ := HI
    rw [List.take_length] at els MM
    have x0 := row.cell 0
    (try simp only [List.getElem?_cons_zero] at x0)
    have hsb := k0.size
    clear HT rowB2 rowX2 M2
    go_wp2_with fail
    have hg := grownBy_putObj' Wb w2.heap.size (.deferred none)
    have kD := Keep.put Wb w2.heap.size (.deferred none)
    refine ⟨by simp, .inl ⟨_, _, rfl, run_takeDeferred hK, ?_⟩⟩
    refine ⟨_, results_tmp rfl _ _ _, ?_⟩
    unfold TakeM
    rw [← minusK_part, HXS.out]
    have hfl : xs.length ≤ far := by unfold far; omega
    refine ⟨a, c, Ok, fun b => ((w2.heap.size + 2 ≤ b ∧ b < Wb.heap.size) ∧ ¬ Ok b), rfl, MM.keep kD (fun b hb e => ?_), ⟨a, c, css, rfl, els.1, ?_, (owned_bounds own).2.1, hfl, fun i d y hd hy => ?_⟩, fun b hb => ⟨by have := hb.1.1; omega, Nat.lt_of_lt_of_le hb.1.2 kD.size, hb.2⟩, fun b hb => ?_, ?_⟩
    · rcases hsub b hb with h | h
      · have := hOD b h; omega
      · omega
    · exact ((Lies.of_owned own).mono (q := fun b => ((w2.heap.size + 2 ≤ b ∧ b < Wb.heap.size) ∧ ¬ Ok b)) (fun b hb => ⟨⟨hb.1, (own.lt b hb.2).2⟩, hdis b hb.2⟩)).keep kD (fun b hb e => by have := hb.1.1; omega)
    · exact rGPair_lawful.keep (rGPair_lawful.mono (els.2 i d y hd hy) (fun b hb => ⟨hb.1.1, hb.2⟩)) kD (fun b hb e => by have := hb.1.1; omega)
    · rcases hsub b hb with h | h
      · exact .inl h
      · exact .inr (by omega)
    · exact ((kk.nix.then k0 (fun i hi h => by
        rcases h with h | h
        · omega
        · exact h)).then kD (fun i hi e => by omega))
  case round =>
    rintro k hk cn Wp W HIp kN hszp hcnp
    obtain ⟨Ok, ar, cr, css, rowR, ownR, elsR, hdis, MK, hsub, kR⟩ := HIp
    have hOk := MK.lt
    obtain ⟨x, hx⟩ : ∃ x, xs[k] = x := ⟨_, rfl⟩
    have HTK : Hid (xs.take (k + 1) = xs.take k ++ [x]) := by show _ = _; rw [← hx]; exact List.take_succ_eq_append_getElem hk
    rw [hx] at hcnp
    have hlk : (minusK l (xs.take k)).length ≤ 100000 := Nat.le_trans (minusK_len _ _) hl
    obtain ⟨lk, HLK⟩ : ∃ y, Hid (minusK l (xs.take k) = y) := ⟨_, rfl⟩
    rw [HLK.out] at MK hlk
    have hcn := hcnp
    obtain ⟨aK, cK, aV, cV, rfl, o1, o2, hd12, hv, f1, f2⟩ := hcn
    refine region_in (by kernel_rfl) (fun _ _ h => h) ?_
    have kP : Keep Nix W (W.alloc (.cells #[.slice aK x.fKey.length cK, .slice aV x.fValue.length cV, .int .i64 x.fVersion] 29)) := (Keep.refl Nix W).alloc _
    have rowP := RowIs.alloc W #[.slice aK x.fKey.length cK, .slice aV x.fValue.length cV, .int .i64 x.fVersion] 29
    have hWs : Hid ((W.alloc (.cells #[.slice aK x.fKey.length cK, .slice aV x.fValue.length cV, .int .i64 x.fVersion] 29)).heap.size = W.heap.size + 1) := by show _ = _; simp
    clear hx hcnp rowX2 M2 hsp
    go_wp2_with fail
    refine ⟨kP.nix, fun W2 k2 hs22 => ?_⟩
    have hpW := hWs.out
    have hNs := kN.size
    have kpW : Keep Nix Wp (W.alloc (.cells #[.slice aK x.fKey.length cK, .slice aV x.fValue.length cV, .int .i64 x.fVersion] 29)) := kN.trans kP
    have k2' : Keep (Book w2.heap.size) Wp W2 := kpW.nix.trans (k2.mono (fun b hb => .inr hb))
    have hbk : ∀ b, Book w2.heap.size b → b < w2.heap.size + 2 ∧ w2.heap.size ≤ b := fun b hb => by rcases hb with h | h <;> omega
    have hsW2 : Wp.heap.size ≤ W2.heap.size := k2'.size
    have hOb : ∀ b, Ok b → ¬ Book w2.heap.size b := fun b hb h => by
      have := hbk b h
      rcases hsub b hb with h3 | h3
      · have := hOD b h3; omega
      · omega
    replace MK := MK.keep k2' hOb
    replace elsR := elsR.keep rGPair_lawful k2' (fun b hb h => by have := hbk b h; have := hb.1.1.1; omega)
    replace rowR := rowR.keep k2' (fun h => by have := hbk _ h; omega)
    replace ownR := owned_keep ownR k2' (fun b hb h => by have := hbk b h; have := (ownR.lt b hb).1; omega)
    have kR2 := kR.then k2' (fun i hi h => by have := hbk i h; omega)
    have hbx : ¬ (w.heap.size = w.heap.size + 1 + 1 ∨ O w.heap.size) := fun h => by
      rcases h with h | h
      · omega
      · have := hlt _ h; omega
    have rowBx := rowB2.keep kR2 hbx
    have kPW2 : Keep (· = w2.heap.size + 1) W W2 := kP.nix.trans k2
    have hne1 : ∀ b, w2.heap.size + 2 ≤ b → b ≠ w2.heap.size + 1 := fun b h => by omega
    have o1' := owned_keep o1 kPW2 (fun b hb e => by have := (o1.lt b hb).1; omega)
    have o2' := owned_keep o2 kPW2 (fun b hb e => by have := (o2.lt b hb).1; omega)
    replace rowP := rowP.keep k2 (by omega)
    have hsWW := kP.size
    clear hs22 k2 kP kPW2 kpW k2' hOb kN
    have b0 := rowBx.cell 0
    (try simp only [List.getElem?_cons_zero] at b0)
    have p0 := rowP.cell 0
    (try simp only [List.getElem?_cons_zero] at p0)
    have hcall := drop_m Ok g lk x.fKey aK cK W2 MK hlk (Lies.of_owned o1')
    refine wpIn_block (wpIn_seq (region_in (by kernel_rfl) (fun _ _ h => h) ?_))
    go_wp2_with fail
    go_fit hcall
    rintro e w3 ⟨rfl, O2, M3, hO2, k3⟩
    have hs23 := k3.size
    have hcxO : ¬ Ok (w.heap.size + 1 + 1) := fun h => by
      rcases hsub _ h with h | h
      · have := hlt _ h; omega
      · omega
    have rowP3 := rowP.keep k3 (fun h => by have := hOk _ h; omega)
    have row3 := rowR.keep k3 hcxO
    have own3 := owned_keep ownR k3 hdis
    have hw2l : ∀ b, OwnB (.slice ar k cr) b → b < W2.heap.size := fun b hb => (ownR.lt b hb).2
    have hdis3 : ∀ b, OwnB (.slice ar k cr) b → ¬ O2 b := fun b hb h => by
      rcases hO2 b h with h | h
      · exact hdis b hb h
      · have := hw2l b hb; omega
    have els3 := (elsR.keep rGPair_lawful k3 (fun b hb => hb.2)).mono (q := fun b => ((w2.heap.size + 2 ≤ b ∧ b < w3.heap.size) ∧ ¬ OwnB (.slice ar k cr) b) ∧ ¬ O2 b) rGPair_lawful (fun b hb => ⟨⟨⟨hb.1.1.1, by have := hb.1.1.2; omega⟩, hb.1.2⟩, fun h => by
      rcases hO2 b h with h | h
      · exact hb.2 h
      · have := hb.1.1.2; omega⟩)
    have o1l := fun b hb => o1'.lt b hb
    have o2l := fun b hb => o2'.lt b hb
    have o13 := owned_keep o1' k3 (fun b hb h => by have := (o1l b hb).1; have := hOk b h; omega)
    have o23 := owned_keep o2' k3 (fun b hb h => by have := (o2l b hb).1; have := hOk b h; omega)
    have hnew : ∀ b, Wp.heap.size ≤ b → b < W2.heap.size → ¬ O2 b := fun b h1 h2 h => by
      rcases hO2 b h with h | h
      · have := hOk b h; omega
      · omega
    have hel : rGPair w3 (fun b => ((w2.heap.size + 2 ≤ b ∧ b < w3.heap.size) ∧ ¬ OwnB (.slice ar k cr) b) ∧ ¬ O2 b) [.slice aK x.fKey.length cK, .slice aV x.fValue.length cV, .int .i64 x.fVersion] x :=
      rGPair_mk w3 _ ⟨(Lies.of_owned o13).mono (fun b hb => ⟨⟨⟨by have := hb.1; omega, by have := (o1l b hb.2).2; omega⟩, rows_apart o13 own3 (by decide) b hb.2⟩, hnew b hb.1 (o1l b hb.2).2⟩), (owned_bounds o13).2.1, f1⟩ ⟨(Lies.of_owned o23).mono (fun b hb => ⟨⟨⟨by have := hb.1; omega, by have := (o2l b hb.2).2; omega⟩, rows_apart o23 own3 (by decide) b hb.2⟩, hnew b hb.1 (o2l b hb.2).2⟩), (owned_bounds o23).2.1, f2⟩ hv
    have HEL := Lib.hid hel
    have HELS := Lib.hid els3
    have HOW := Lib.hid own3
    have HRO := Lib.hid row3
    have HM3 := Lib.hid M3
    have r0 := row3.cell 0
    have rf := row3.frozen 0
    (try simp only [List.getElem?_cons_zero] at r0)
    have q0 := rowP3.cell 0
    (try simp only [List.getElem?_cons_zero] at q0)
    have q1 := rowP3.cell 1
    (try simp only [List.getElem?_cons_succ] at q1); (try simp only [List.getElem?_cons_zero] at q1)
    have q2 := rowP3.cell 2
    (try simp only [List.getElem?_cons_succ] at q2); (try simp only [List.getElem?_cons_zero] at q2)
    have hL3 : w3.heap.size ≥ w2.heap.size + 2 := by omega
    clear b0 p0 o1 o2 o1' o2' o13 o23 o1l o2l hnew hel els3 elsR ownR rowR rowP rowP3 row3 MK M3 hcall rowBx hbk hne1
    go_wp2_with fail
    refine region_in (by kernel_rfl) (fun _ _ h => h) ?_
    go_wp2_with (at_builtin; refine wpl_append1_at (c := 1) T_lPair ?hgd (.tmp 15) (.tmp 17) ?ho (w2.heap.size + 2) ?hs own3 ?hx ?c0 ?c1 ?c2 ?c3 ?c4 ?_)
    case hgd => rfl
    case ho => rfl
    case hs => rfl
    case hx => rfl
    case c0 => rfl
    case c1 => simp [Value.oneCell']
    case c2 => unfold maxLen; omega
    case c3 => omega
    case c4 => omega
    intro a' cap' w6 own6 k6 hfresh
    have hs36 := k6.size
    have hge : ∀ b, OwnB (.slice ar k cr) b → w2.heap.size + 2 ≤ b := fun b hb => (own3.lt b hb).1
    have row6 := HRO.out.keep k6 (fun h => by have := hge _ h; omega)
    have s0 := row6.cell 0
    have sf := row6.frozen 0
    (try simp only [List.getElem?_cons_zero] at s0)
    have M6 := HM3.out.keep k6 (fun b hb h => hdis3 b h hb)
    have hO2l := HM3.out.lt
    have hst : ∀ b, (((w2.heap.size + 2 ≤ b ∧ b < w3.heap.size) ∧ ¬ OwnB (.slice ar k cr) b) ∧ ¬ O2 b) → (((w2.heap.size + 2 ≤ b ∧ b < w6.heap.size) ∧ ¬ OwnB (.slice a' (k + 1) cap') b) ∧ ¬ O2 b) := fun b hb => ⟨⟨⟨hb.1.1.1, by have := hb.1.1.2; omega⟩, fun h => by
      rcases hfresh b h with h | h
      · exact hb.1.2 h
      · have := hb.1.1.2; omega⟩, hb.2⟩
    have els6 := Els.snoc ((HELS.out.keep rGPair_lawful k6 (fun b hb => hb.1.2)).mono rGPair_lawful hst) (rGPair_lawful.mono (rGPair_lawful.keep HEL.out k6 (fun b hb => hb.1.2)) hst)
    have hdis6 : ∀ b, OwnB (.slice a' (k + 1) cap') b → ¬ O2 b := fun b hb h => by
      rcases hfresh b hb with h3 | h3
      · exact hdis3 b h3 h
      · have := hO2l b h; omega
    have hsub6 : ∀ b, O2 b → O b ∨ w2.heap.size + 2 ≤ b := fun b hb => by
      rcases hO2 b hb with h | h
      · exact hsub b h
      · exact .inr (by omega)
    have hOkc : ∀ b, Ok b → b = w.heap.size + 1 + 1 ∨ O b ∨ w2.heap.size ≤ b := fun b hb => by
      rcases hsub b hb with h | h
      · exact .inr (.inl h)
      · exact .inr (.inr (by omega))
    have k26 : Keep (fun b => Ok b ∨ OwnB (.slice ar k cr) b) W2 w6 := (k3.mono (fun b hb => .inl hb)).trans (k6.mono (fun b hb => .inr hb))
    have kR6 := kR2.then k26 (fun i hi h => by
      rcases h with h | h
      · rcases hOkc i h with h | h | h
        · exact .inl h
        · exact .inr h
        · omega
      · have := hge i h; omega)
    have kF : Keep (Free w2.heap.size (w.heap.size + 3) w2.heap.size) W2 w6 := k26.mono (fun b hb => by
      rcases hb with h | h
      · rcases hsub b h with h3 | h3
        · have := hlt b h3; exact ⟨by omega, by omega, by omega⟩
        · exact ⟨by omega, by omega, by omega⟩
      · have := hge b h; exact ⟨by omega, by omega, by omega⟩)
    have HE6 := Lib.hid els6
    have HO6 := Lib.hid own6
    have HM6 := Lib.hid M6
    have HRW := Lib.hid row6
    clear els6 own6 M6 row6 hst k6 k3 hfresh q0 q1 q2 r0 rf own3
    go_wp2_with fail
    refine ⟨kF.setCell (p := ⟨w.heap.size + 1 + 1, 0, none⟩) (fun _ => (show Free _ _ _ (w.heap.size + 1 + 1) from ⟨by omega, by omega, by omega⟩)) _, ?_⟩
    have kS : Keep (· = w.heap.size + 1 + 1) w6 (w6.setCell ⟨w.heap.size + 1 + 1, 0, none⟩ (.slice a' (k + 1) cap')) := (Keep.refl (· = w.heap.size + 1 + 1) w6).setCell (p := ⟨w.heap.size + 1 + 1, 0, none⟩) (fun _ => rfl) _
    have hcO2 : ¬ O2 (w.heap.size + 1 + 1) := fun h => by
      rcases hsub6 _ h with h | h
      · have := hlt _ h; omega
      · omega
    refine ⟨O2, a', cap', css ++ [[.slice aK x.fKey.length cK, .slice aV x.fValue.length cV, .int .i64 x.fVersion]], HRW.out.set 0 _, owned_keep (by simpa using HO6.out) kS (fun b hb e => by have := (HO6.out.lt b hb).1; omega), ?_, hdis6, ?_, hsub6, kR6.trans (kS.mono (fun b hb => .inl hb))⟩
    · rw [HTK.out]
      exact (HE6.out.keep rGPair_lawful kS (fun b hb e => by have := hb.1.1.1; omega)).mono rGPair_lawful (fun b hb => ⟨⟨⟨hb.1.1.1, by have := hb.1.1.2; have := kS.size; omega⟩, hb.1.2⟩, hb.2⟩)
    · rw [HTK.out, minusK_snoc, HLK.out]
      exact HM6.out.keep kS (fun b hb e => hcO2 (by rw [← e]; exact hb))
end Go.Proofs.Ythkocgpbpgfocaa
