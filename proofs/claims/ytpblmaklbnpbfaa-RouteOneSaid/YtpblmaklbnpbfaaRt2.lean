/- ROUTE: the keys that two spans have. Printed by mac.py. -/
import Derived.Test.YtpblmaklbnpbfaaRt1
namespace Go.Proofs.Ytpblmaklbnpbfaa
open Go.RowKit

def Four (w : World) (bs : Nat) (A B R S : List Value) (wx : World) : Prop := RowIs wx bs 29 A ∧ RowIs wx (bs + 1) 29 B ∧ RowIs wx (bs + 1 + 1) 29 R ∧ RowIs wx (bs + 1 + 1 + 1) 29 S ∧ Keep Nix w wx
theorem Four.keep {w w1 w2 : World} {bs : Nat} {A B R S : List Value} (h : Four w bs A B R S w1) (k : Keep Nix w1 w2) : Four w bs A B R S w2 :=
  ⟨h.1.keep k id, h.2.1.keep k id, h.2.2.1.keep k id, h.2.2.2.1.keep k id, h.2.2.2.2.trans k⟩
theorem Four.set {w w1 : World} {bs : Nat} {A B R S : List Value} (h : Four w bs A B R S w1) (hb : w.heap.size = bs) (j : Nat) (v : Value) : Four w bs A B R (S.set j v) (w1.setCell ⟨bs + 1 + 1 + 1, j, none⟩ v) := by
  have kS : Keep (· = bs + 1 + 1 + 1) w1 (w1.setCell ⟨bs + 1 + 1 + 1, j, none⟩ v) := (Keep.refl (· = bs + 1 + 1 + 1) w1).setCell (fun _ => rfl) _
  exact ⟨h.1.keep kS (by omega), h.2.1.keep kS (by omega), h.2.2.1.keep kS (by omega), h.2.2.2.1.set j v, h.2.2.2.2.then kS (fun i hi e => by omega)⟩
/-- Bytes that lie in the world ahead. -/
def LB (w : World) (s : Nat → Prop) (a : Option Addr) (cap : Nat) (l : List UInt8) : Prop := Lies w s a (l.map bv) ∧ l.length ≤ cap ∧ l.length ≤ far
theorem LB.mono {w : World} {s s' : Nat → Prop} {a : Option Addr} {cap : Nat} {l : List UInt8} (h : LB w s a cap l) (hs : ∀ i, s i → s' i) : LB w s' a cap l :=
  ⟨fun hx => by obtain ⟨b, off, h1, h2, h3⟩ := h.1 hx; exact ⟨b, off, h1, hs b h2, h3⟩, h.2⟩
theorem LB.keep {w w' : World} {s : Nat → Prop} {a : Option Addr} {cap : Nat} {l : List UInt8} (h : LB w s a cap l) (k : Keep Nix w w') : LB w' s a cap l := ⟨h.1.keep k (fun _ _ h => h), h.2⟩
theorem mkS {w : World} {p : Nat → Prop} {a b : Option Addr} {c d : Nat} {f t : List UInt8} (h1 : LB w p a c f) (h2 : LB w p b d t) : rGSpan w p [.slice a f.length c, .slice b t.length d] ⟨f, t⟩ := rGSpan_mk (x := ⟨f, t⟩) w p h1 h2
theorem LB.nil0 (w : World) (p : Nat → Prop) : LB w p none 0 [] := ⟨fun h => absurd rfl h, Nat.zero_le _, Nat.zero_le _⟩
theorem mkS0 (w : World) (p : Nat → Prop) : rGSpan w p [.slice none 0 0, .slice none 0 0] ⟨[], []⟩ := mkS (LB.nil0 w p) (LB.nil0 w p)
def partFrom (a b : GSpan) : List UInt8 := if ltB a.fFrom b.fFrom then b.fFrom else a.fFrom
def partTo (a b : GSpan) : List UInt8 := if a.fTo = [] ∨ (b.fTo ≠ [] ∧ ltB b.fTo a.fTo = true) then b.fTo else a.fTo
def partNo (a b : GSpan) : Bool := !(partTo a b).isEmpty && !ltB (partFrom a b) (partTo a b)
theorem partF_eq (a b : GSpan) : partF a b = if partNo a b then (⟨[], []⟩, false) else (⟨partFrom a b, partTo a b⟩, true) := by
  unfold partF partNo
  show (if partTo a b ≠ [] ∧ ltB (partFrom a b) (partTo a b) = false then ((⟨[], []⟩ : GSpan), false) else ((⟨partFrom a b, partTo a b⟩ : GSpan), true)) = _
  generalize partTo a b = t
  generalize partFrom a b = f
  cases t with
  | nil => rfl
  | cons c t => cases ltB f (c :: t) <;> simp
theorem len_pos {l : List UInt8} (h : l ≠ []) : (0 : Int) < (l.length : Int) := by
  cases l with
  | nil => exact absurd rfl h
  | cons _ _ => simp
theorem len0 {l : List UInt8} (h : l = []) : ((l.length : Int) == 0) = true := by rw [h]; rfl
theorem len1 {l : List UInt8} (h : l ≠ []) : ((l.length : Int) == 0) = false := by
  cases l with
  | nil => exact absurd rfl h
  | cons _ _ => simp only [List.length_cons, beq_eq_false_iff_ne]; omega
theorem pos0 {l : List UInt8} (h : l = []) : (l.length : Int) ≤ 0 := by rw [h]; exact Int.le_refl _
theorem pos1 {l : List UInt8} (h : l ≠ []) : (0 : Int) < (l.length : Int) := len_pos h
set_option maxRecDepth 100000 in
set_option maxHeartbeats 4000000 in
theorem part_c {p q : Nat → Prop} (a b : GSpan) (csa csb : List Value) (w : World) (ha : rGSpan w p csa a) (hb : rGSpan w q csb b) :
    Calls Try.prog 39 #[.agg csa.toArray, .agg csb.toArray] w (RetSB w (partF a b)) := by
  obtain ⟨aF, cF, aT, cT, rfl, f1, f2, -⟩ := rGSpan_open ha
  obtain ⟨bF, dF, bT, dT, rfl, f3, f4, -⟩ := rGSpan_open hb
  have F1 : LB w (fun i => p i ∨ q i) aF cF a.fFrom := LB.mono (s := p) f1 (fun _ => .inl)
  have F2 : LB w (fun i => p i ∨ q i) aT cT a.fTo := LB.mono (s := p) f2 (fun _ => .inl)
  have F3 : LB w (fun i => p i ∨ q i) bF dF b.fFrom := LB.mono (s := q) f3 (fun _ => .inr)
  have F4 : LB w (fun i => p i ∨ q i) bT dT b.fTo := LB.mono (s := q) f4 (fun _ => .inr)
  clear ha hb f1 f2 f3 f4
  have R1 : Four w w.heap.size [.slice aF a.fFrom.length cF, .slice aT a.fTo.length cT] [.slice bF b.fFrom.length dF, .slice bT b.fTo.length dT] [.slice none 0 0, .slice none 0 0] [.slice aF a.fFrom.length cF, .slice aT a.fTo.length cT] (((((w.alloc (.cells #[.slice aF a.fFrom.length cF, .slice aT a.fTo.length cT] 29)).alloc (.cells #[.slice bF b.fFrom.length dF, .slice bT b.fTo.length dT] 29)).alloc (.cells #[.slice none 0 0, .slice none 0 0] 29)).alloc (.cells #[.slice aF a.fFrom.length cF, .slice aT a.fTo.length cT] 29))) := by
    have k1 := fun (w : World) (o : Obj) => (Keep.refl Nix w).alloc o
    refine ⟨?_, ?_, ?_, ?_, (((k1 _ _).trans (k1 _ _)).trans (k1 _ _)).trans (k1 _ _)⟩
    · exact (((RowIs.alloc w _ _).keep (k1 _ _) id).keep (k1 _ _) id).keep (k1 _ _) id
    · have h := ((RowIs.alloc (w.alloc (.cells #[.slice aF a.fFrom.length cF, .slice aT a.fTo.length cT] 29)) #[.slice bF b.fFrom.length dF, .slice bT b.fTo.length dT] 29).keep (k1 _ (.cells #[.slice none 0 0, .slice none 0 0] 29)) id).keep (k1 _ (.cells #[.slice aF a.fFrom.length cF, .slice aT a.fTo.length cT] 29)) id
      simpa using h
    · have h := (RowIs.alloc ((w.alloc (.cells #[.slice aF a.fFrom.length cF, .slice aT a.fTo.length cT] 29)).alloc (.cells #[.slice bF b.fFrom.length dF, .slice bT b.fTo.length dT] 29)) #[.slice none 0 0, .slice none 0 0] 29).keep (k1 _ (.cells #[.slice aF a.fFrom.length cF, .slice aT a.fTo.length cT] 29)) id
      simpa using h
    · have h := RowIs.alloc (((w.alloc (.cells #[.slice aF a.fFrom.length cF, .slice aT a.fTo.length cT] 29)).alloc (.cells #[.slice bF b.fFrom.length dF, .slice bT b.fTo.length dT] 29)).alloc (.cells #[.slice none 0 0, .slice none 0 0] 29)) #[.slice aF a.fFrom.length cF, .slice aT a.fTo.length cT] 29
      simpa using h
  go_enter Try.func39, Try.ntmps39
  go_upto_region 2 with fail
  generalize (((((w.alloc (.cells #[.slice aF a.fFrom.length cF, .slice aT a.fTo.length cT] 29)).alloc (.cells #[.slice bF b.fFrom.length dF, .slice bT b.fTo.length dT] 29)).alloc (.cells #[.slice none 0 0, .slice none 0 0] 29)).alloc (.cells #[.slice aF a.fFrom.length cF, .slice aT a.fTo.length cT] 29))) = w1 at *
  generalize hb : w.heap.size = bs at *
  have x0 := R1.1.cell 0
  (try simp only [List.getElem?_cons_zero] at x0)
  have x1 := R1.1.cell 1
  (try simp only [List.getElem?_cons_succ] at x1); (try simp only [List.getElem?_cons_zero] at x1)
  have y0 := R1.2.1.cell 0
  (try simp only [List.getElem?_cons_zero] at y0)
  have y1 := R1.2.1.cell 1
  (try simp only [List.getElem?_cons_succ] at y1); (try simp only [List.getElem?_cons_zero] at y1)
  have z0 := R1.2.2.2.1.cell 0
  (try simp only [List.getElem?_cons_zero] at z0)
  have z1 := R1.2.2.2.1.cell 1
  (try simp only [List.getElem?_cons_succ] at z1); (try simp only [List.getElem?_cons_zero] at z1)
  have g0 := R1.2.2.2.1.frozen 0
  have g1 := R1.2.2.2.1.frozen 1
  have q0 := R1.2.2.1.cell 0
  (try simp only [List.getElem?_cons_zero] at q0)
  have q1 := R1.2.2.1.cell 1
  (try simp only [List.getElem?_cons_succ] at q1); (try simp only [List.getElem?_cons_zero] at q1)
  have h0 := R1.2.2.1.frozen 0
  have h1 := R1.2.2.1.frozen 1
  have hcall := cmpB_c bF aF b.fFrom.length dF a.fFrom.length cF b.fFrom a.fFrom w1 rfl rfl (F3.keep R1.2.2.2.2).1 (F1.keep R1.2.2.2.2).1
  have hgt := cmp_gt b.fFrom a.fFrom
  generalize Lib.compareBytes b.fFrom a.fFrom = n at hcall hgt
  obtain ⟨v, hv⟩ : ∃ v, ltB a.fFrom b.fFrom = v := ⟨_, rfl⟩
  rw [hv] at hgt
  have HV := Lib.hid hv
  clear hv
  go_wp2_with fail
  go_fit hcall
  clear hcall
  rintro e w' ⟨rfl, rfl⟩
  go_upto_if 13 with fail
  go_cut [] from 7 to 57 (fun wx => ∃ af cf, LB w (fun i => p i ∨ q i) af cf (partFrom a b) ∧ Four w bs [.slice aF a.fFrom.length cF, .slice aT a.fTo.length cT] [.slice bF b.fFrom.length dF, .slice bT b.fTo.length dT] [.slice none 0 0, .slice none 0 0] [.slice af (partFrom a b).length cf, .slice aT a.fTo.length cT] wx)
  case first =>
    have R1' := R1.set hb 0 (.slice bF b.fFrom.length dF)
    cases v with
    | true =>
      have e : partFrom a b = b.fFrom := by unfold partFrom; rw [HV.out]; rfl
      have hn : 0 < n := by simpa using hgt
      clear hgt F1 F2 F4 R1
      go_wp2_with fail
      go_meet
      rw [e]
      exact ⟨bF, dF, F3, R1'⟩
    | false =>
      have e : partFrom a b = a.fFrom := by unfold partFrom; rw [HV.out]; rfl
      have hn : n ≤ 0 := by simpa using hgt
      clear hgt F2 F3 F4 R1'
      go_wp2_with fail
      go_meet
      rw [e]
      exact ⟨aF, cF, F1, R1⟩
  case rest =>
    obtain ⟨af, cf, G1, R2⟩ := hcut
    clear R1 F1 F3 HV hgt x0 x1 y0 y1 z0 z1 g0 g1 h0 h1 q0 q1
    obtain ⟨f, hf⟩ : ∃ f, partFrom a b = f := ⟨_, rfl⟩
    rw [hf] at G1 R2
    have x0 := R2.1.cell 0
    (try simp only [List.getElem?_cons_zero] at x0)
    have x1 := R2.1.cell 1
    (try simp only [List.getElem?_cons_succ] at x1); (try simp only [List.getElem?_cons_zero] at x1)
    have y0 := R2.2.1.cell 0
    (try simp only [List.getElem?_cons_zero] at y0)
    have y1 := R2.2.1.cell 1
    (try simp only [List.getElem?_cons_succ] at y1); (try simp only [List.getElem?_cons_zero] at y1)
    have z0 := R2.2.2.2.1.cell 0
    (try simp only [List.getElem?_cons_zero] at z0)
    have z1 := R2.2.2.2.1.cell 1
    (try simp only [List.getElem?_cons_succ] at z1); (try simp only [List.getElem?_cons_zero] at z1)
    have g0 := R2.2.2.2.1.frozen 0
    have g1 := R2.2.2.2.1.frozen 1
    have q0 := R2.2.2.1.cell 0
    (try simp only [List.getElem?_cons_zero] at q0)
    have q1 := R2.2.2.1.cell 1
    (try simp only [List.getElem?_cons_succ] at q1); (try simp only [List.getElem?_cons_zero] at q1)
    have h0 := R2.2.2.1.frozen 0
    have h1 := R2.2.2.1.frozen 1
    obtain ⟨v, HV⟩ : ∃ v, Hid (decide (a.fTo = [] ∨ (b.fTo ≠ [] ∧ ltB b.fTo a.fTo = true)) = v) := ⟨_, rfl⟩
    have et : partTo a b = if v then b.fTo else a.fTo := by unfold partTo; rw [← HV.out]; simp only [decide_eq_true_eq]
    go_upto_region 4 with fail
    go_cut [34] from 7 to 57 (fun s34 wx => s34 = .bool v ∧ wc = wx)
    case first =>
      have hl := cmp_lt b.fTo a.fTo
      have hcall := cmpB_c bT aT b.fTo.length dT a.fTo.length cT b.fTo a.fTo wc rfl rfl (F4.keep R2.2.2.2.2).1 (F2.keep R2.2.2.2.2).1
      generalize Lib.compareBytes b.fTo a.fTo = n at hl hcall
      clear F2 F4 G1 R2 h0 h1 q0 q1
      by_cases ha : a.fTo = []
      · have hn0 := len0 ha
        have e : v = true := by rw [← HV.out]; simp [ha]
        subst e
        clear HV hl hcall et
        go_wp2_with fail
        go_meet
        exact ⟨rfl, rfl⟩
      · have hn1 := len1 ha
        by_cases hb2 : b.fTo = []
        · have hn2 := pos0 hb2
          have e : v = false := by rw [← HV.out]; simp [ha, hb2]
          subst e
          clear HV hl hcall et
          go_wp2_with fail
          go_meet
          exact ⟨rfl, rfl⟩
        · have hn2 := pos1 hb2
          have e : v = decide (n < 0) := by rw [← HV.out, hl]; cases ltB b.fTo a.fTo <;> simp [ha, hb2]
          clear HV et hl
          go_wp2_with fail
          go_fit hcall
          clear hcall
          rintro e' w' ⟨rfl, rfl⟩
          go_wp2_with fail
          go_meet
          exact ⟨by rw [e], rfl⟩
    case rest =>
    obtain ⟨rfl, rfl⟩ := hcut
    go_upto_if 34 with fail
    go_cut [] from 7 to 57 (fun wx => ∃ at' ct, LB w (fun i => p i ∨ q i) at' ct (partTo a b) ∧ Four w bs [.slice aF a.fFrom.length cF, .slice aT a.fTo.length cT] [.slice bF b.fFrom.length dF, .slice bT b.fTo.length dT] [.slice none 0 0, .slice none 0 0] [.slice af f.length cf, .slice at' (partTo a b).length ct] wx)
    case first =>
      have R2' := R2.set hb 1 (.slice bT b.fTo.length dT)
      cases v with
      | true =>
        clear F2 G1 R2 HV
        go_wp2_with fail
        go_meet
        rw [et]
        exact ⟨bT, dT, F4, R2'⟩
      | false =>
        clear F4 G1 R2' HV
        go_wp2_with fail
        go_meet
        rw [et]
        exact ⟨aT, cT, F2, R2⟩
    case rest =>
    obtain ⟨at', ct, G2, R3⟩ := hcut
    obtain ⟨t, ht⟩ : ∃ t, partTo a b = t := ⟨_, rfl⟩
    rw [ht] at G2 R3
    have HP : Hid (partF a b = if !t.isEmpty && !ltB f t then (⟨[], []⟩, false) else (⟨f, t⟩, true)) := by show _ = _; rw [partF_eq, partNo, hf, ht]
    clear R2 F2 F4 et HV x0 x1 y0 y1 z0 z1 g0 g1 h0 h1 q0 q1 hf ht
    have x0 := R3.1.cell 0
    (try simp only [List.getElem?_cons_zero] at x0)
    have x1 := R3.1.cell 1
    (try simp only [List.getElem?_cons_succ] at x1); (try simp only [List.getElem?_cons_zero] at x1)
    have y0 := R3.2.1.cell 0
    (try simp only [List.getElem?_cons_zero] at y0)
    have y1 := R3.2.1.cell 1
    (try simp only [List.getElem?_cons_succ] at y1); (try simp only [List.getElem?_cons_zero] at y1)
    have z0 := R3.2.2.2.1.cell 0
    (try simp only [List.getElem?_cons_zero] at z0)
    have z1 := R3.2.2.2.1.cell 1
    (try simp only [List.getElem?_cons_succ] at z1); (try simp only [List.getElem?_cons_zero] at z1)
    have g0 := R3.2.2.2.1.frozen 0
    have g1 := R3.2.2.2.1.frozen 1
    have q0 := R3.2.2.1.cell 0
    (try simp only [List.getElem?_cons_zero] at q0)
    have q1 := R3.2.2.1.cell 1
    (try simp only [List.getElem?_cons_succ] at q1); (try simp only [List.getElem?_cons_zero] at q1)
    have h0 := R3.2.2.1.frozen 0
    have h1 := R3.2.2.1.frozen 1
    obtain ⟨v, HV⟩ : ∃ v, Hid ((!t.isEmpty && !ltB f t) = v) := ⟨_, rfl⟩
    rw [HV.out] at HP
    go_upto_region 6 with fail
    go_cut [49] from 7 to 57 (fun s49 wx => s49 = .bool v ∧ wc = wx)
    case first =>
      have hl := cmp_ge f t
      have hcall := cmpB_c af at' f.length cf t.length ct f t wc rfl rfl (G1.keep R3.2.2.2.2).1 (G2.keep R3.2.2.2.2).1
      generalize Lib.compareBytes f t = n at hl hcall
      clear G1 G2 R3 h0 h1 q0 q1 HP x0 x1 y0 y1 g0 g1
      by_cases ht : t = []
      · have hn2 := pos0 ht
        have e : v = false := by rw [← HV.out]; simp [ht]
        subst e
        clear HV hl hcall
        go_wp2_with fail
        all_goals
          go_meet
          exact ⟨rfl, rfl⟩
      · have hn2 := pos1 ht
        have e : v = decide (0 ≤ n) := by rw [← HV.out, hl]; cases t with
          | nil => exact absurd rfl ht
          | cons _ _ => rfl
        clear HV hl
        go_wp2_with fail
        go_fit hcall
        clear hcall
        rintro e' w' ⟨rfl, rfl⟩
        go_wp2_with fail
        go_meet
        exact ⟨by rw [e], rfl⟩
    case rest =>
    obtain ⟨rfl, rfl⟩ := hcut
    clear HV x0 x1 y0 y1 g0 g1
    have hinfo : (Try.prog.info? 29).map (·.size) = some 2 := by kernel_rfl
    cases v with
    | true =>
      have rowF := (R3.2.2.1.set 0 (.slice none 0 0)).set 1 (.slice none 0 0)
      have kS : Keep (· = bs + 1 + 1) wc ((wc.setCell ⟨bs + 1 + 1, 0, none⟩ (.slice none 0 0)).setCell ⟨bs + 1 + 1, 1, none⟩ (.slice none 0 0)) := ((Keep.refl (· = bs + 1 + 1) wc).setCell (fun _ => rfl) _).setCell (fun _ => rfl) _
      have kk := R3.2.2.2.2.then kS (fun i hi e => by omega)
      clear z0 z1 R3 kS
      go_wp2_with fail
      refine bodyPost_ret (results_cell_row2 (by rfl) _ _ _ _ _ _ _ (by rfl) rowF Try.underlying29 (by rfl) hinfo) rfl ?_
      rw [HP.out]
      exact ⟨_, rfl, mkS0 _ _, kk⟩
    | false =>
      clear h0 h1 q0 q1
      go_upto_region 8 with fail
      have kD : Keep Nix wc wc.drew := (Keep.refl Nix wc).drew
      have rowR := R3.2.2.1.keep kD id
      have rowS := R3.2.2.2.1.keep kD id
      have kk := R3.2.2.2.2.trans kD
      clear z0 z1 kD R3
      have z0 := rowS.cell 0
      (try simp only [List.getElem?_cons_zero] at z0)
      have z1 := rowS.cell 1
      (try simp only [List.getElem?_cons_succ] at z1); (try simp only [List.getElem?_cons_zero] at z1)
      refine wp_region_held_drew (S := (fun w' => w'.cell? ⟨bs + 1 + 1 + 1, 0, none⟩ = some (.slice af f.length cf) ∧ w'.cell? ⟨bs + 1 + 1 + 1, 1, none⟩ = some (.slice at' t.length ct))) (by kernel_rfl) (⟨z0, z1⟩) (fun hHeld => ?_)
      generalize wc.drew = wd at *
      refine wpAnyH_take (i := 0) (v := ?_) rfl (by kernel_rfl) (by kernel_rfl) (by kernel_rfl) (fun _ _ _ h => h) (Or.inl ⟨by kernel_rfl, ?_⟩) hHeld ?_
      rotate_left
      · intro w' hSw
        (try dsimp only at hSw)
        (try simp only [List.getElem_toArray]); (try simp only [List.getElem_cons_succ]); (try simp only [List.getElem_cons_zero])
        go_simp
        try with_reducible rfl
      (try simp only [Act.put]); (try simp only [List.getElem_toArray]); (try simp only [List.getElem_cons_succ]); (try simp only [List.getElem_cons_zero]); (try simp only [List.setIfInBounds_toArray]); (try simp only [List.set_cons_succ]); (try simp only [List.set_cons_zero])
      refine wpAnyH_take (i := 1) (v := ?_) rfl (by kernel_rfl) (by kernel_rfl) (by kernel_rfl) (fun _ _ _ h => h) (Or.inl ⟨by kernel_rfl, ?_⟩) hHeld ?_
      rotate_left
      · intro w' hSw
        (try dsimp only at hSw)
        (try simp only [List.getElem_toArray]); (try simp only [List.getElem_cons_succ]); (try simp only [List.getElem_cons_zero])
        go_simp
        try with_reducible rfl
      (try simp only [Act.put]); (try simp only [List.getElem_toArray]); (try simp only [List.getElem_cons_succ]); (try simp only [List.getElem_cons_zero]); (try simp only [List.setIfInBounds_toArray]); (try simp only [List.set_cons_succ]); (try simp only [List.set_cons_zero])
      refine wpAnyH_take (i := 3) (v := ?_) rfl (by kernel_rfl) (by kernel_rfl) (by kernel_rfl) (fun _ _ _ h => h) (Or.inl ⟨by kernel_rfl, ?_⟩) hHeld ?_
      rotate_left
      · intro w' hSw
        (try dsimp only at hSw)
        (try simp only [List.getElem_toArray]); (try simp only [List.getElem_cons_succ]); (try simp only [List.getElem_cons_zero])
        go_simp
        try with_reducible rfl
      (try simp only [Act.put]); (try simp only [List.getElem_toArray]); (try simp only [List.getElem_cons_succ]); (try simp only [List.getElem_cons_zero]); (try simp only [List.setIfInBounds_toArray]); (try simp only [List.set_cons_succ]); (try simp only [List.set_cons_zero])
      refine wpAnyH_take (i := 4) (v := ?_) rfl (by kernel_rfl) (by kernel_rfl) (by kernel_rfl) (fun _ _ _ h => h) (Or.inl ⟨by kernel_rfl, ?_⟩) hHeld ?_
      rotate_left
      · intro w' hSw
        (try dsimp only at hSw)
        (try simp only [List.getElem_toArray]); (try simp only [List.getElem_cons_succ]); (try simp only [List.getElem_cons_zero])
        go_simp
        try with_reducible rfl
      (try simp only [Act.put]); (try simp only [List.getElem_toArray]); (try simp only [List.getElem_cons_succ]); (try simp only [List.getElem_cons_zero]); (try simp only [List.setIfInBounds_toArray]); (try simp only [List.set_cons_succ]); (try simp only [List.set_cons_zero])
      refine wpAnyH_ready (rs := [2]) (by kernel_rfl) (by simp) ?_
      refine AllReadyH.cons rfl (fun K hK => ?_) AllReadyH.nil
      go_simp
      go_fit (clR_c af cf f wd (G1.keep kk))
      rintro e w2 ⟨a1, c1, rfl, L1, k2⟩
      have hs1 := kk.size
      have hs2 := k2.size
      have hs0 := rowS.lt
      replace rowR := rowR.keep k2 id
      replace rowS := rowS.keep k2 id
      replace kk := kk.trans k2
      clear z0 z1 k2
      go_wp2_with fail
      have z0 := rowS.cell 0
      (try simp only [List.getElem?_cons_zero] at z0)
      have z1 := rowS.cell 1
      (try simp only [List.getElem?_cons_succ] at z1); (try simp only [List.getElem?_cons_zero] at z1)
      refine hK.out _ _ (⟨z0, z1⟩) (fun hHeld => ?_)
      clear hK K
      (try simp only [Act.put]); (try simp only [List.getElem_toArray]); (try simp only [List.getElem_cons_succ]); (try simp only [List.getElem_cons_zero]); (try simp only [List.setIfInBounds_toArray]); (try simp only [List.set_cons_succ]); (try simp only [List.set_cons_zero])
      refine wpAnyH_ready (rs := [5]) (by kernel_rfl) (by simp) ?_
      refine AllReadyH.cons rfl (fun K hK => ?_) AllReadyH.nil
      go_simp
      go_fit (clR_c at' ct t w2 (G2.keep kk))
      rintro e w3 ⟨a2, c2, rfl, L2, k3⟩
      have hs3 := k3.size
      replace rowR := rowR.keep k3 id
      replace rowS := rowS.keep k3 id
      replace L1 := LB.keep (show LB w2 (NewIn wd w2) a1 c1 f from L1) k3
      replace kk := kk.trans k3
      clear z0 z1 k3
      go_wp2_with fail
      have z0 := rowS.cell 0
      (try simp only [List.getElem?_cons_zero] at z0)
      have z1 := rowS.cell 1
      (try simp only [List.getElem?_cons_succ] at z1); (try simp only [List.getElem?_cons_zero] at z1)
      refine hK.out _ _ (⟨z0, z1⟩) (fun hHeld => ?_)
      clear hK K
      (try simp only [Act.put]); (try simp only [List.getElem_toArray]); (try simp only [List.getElem_cons_succ]); (try simp only [List.getElem_cons_zero]); (try simp only [List.setIfInBounds_toArray]); (try simp only [List.set_cons_succ]); (try simp only [List.set_cons_zero])
      refine wpAnyH_take (i := 6) (v := ?_) rfl (by kernel_rfl) (by kernel_rfl) (by kernel_rfl) (fun _ _ _ h => h) (Or.inl ⟨by kernel_rfl, ?_⟩) hHeld ?_
      rotate_left
      · intro w' hSw
        (try dsimp only at hSw)
        (try simp only [List.getElem_toArray]); (try simp only [List.getElem_cons_succ]); (try simp only [List.getElem_cons_zero])
        go_simp
        try with_reducible rfl
      (try simp only [Act.put]); (try simp only [List.getElem_toArray]); (try simp only [List.getElem_cons_succ]); (try simp only [List.getElem_cons_zero]); (try simp only [List.setIfInBounds_toArray]); (try simp only [List.set_cons_succ]); (try simp only [List.set_cons_zero])
      have q0 := rowR.cell 0
      (try simp only [List.getElem?_cons_zero] at q0)
      have q1 := rowR.cell 1
      (try simp only [List.getElem?_cons_succ] at q1); (try simp only [List.getElem?_cons_zero] at q1)
      have h0 := rowR.frozen 0
      have h1 := rowR.frozen 1
      have rowF : RowIs ((w3.setCell ⟨bs + 1 + 1, 0, none⟩ (.slice a1 f.length c1)).setCell ⟨bs + 1 + 1, 1, none⟩ (.slice a2 t.length c2)) (bs + 1 + 1) 29 [.slice a1 f.length c1, .slice a2 t.length c2] := (rowR.set 0 _).set 1 _
      have kS : Keep (· = bs + 1 + 1) w3 ((w3.setCell ⟨bs + 1 + 1, 0, none⟩ (.slice a1 f.length c1)).setCell ⟨bs + 1 + 1, 1, none⟩ (.slice a2 t.length c2)) := ((Keep.refl (· = bs + 1 + 1) w3).setCell (p := ⟨bs + 1 + 1, 0, none⟩) (fun _ => rfl) _).setCell (p := ⟨bs + 1 + 1, 1, none⟩) (fun _ => rfl) _
      have rowS' := rowS.keep kS (by omega)
      have kk' := kk.then kS (fun i hi e => by omega)
      have L1' : LB ((w3.setCell ⟨bs + 1 + 1, 0, none⟩ (.slice a1 f.length c1)).setCell ⟨bs + 1 + 1, 1, none⟩ (.slice a2 t.length c2)) (NewIn w ((w3.setCell ⟨bs + 1 + 1, 0, none⟩ (.slice a1 f.length c1)).setCell ⟨bs + 1 + 1, 1, none⟩ (.slice a2 t.length c2))) a1 c1 f := ⟨(L1.1.keep kS (fun i hi e => by have := hi.1; omega)).mono (fun i hi => ⟨by have := hi.1; omega, by have := hi.2; have := kS.size; omega⟩), L1.2⟩
      have L2' : LB ((w3.setCell ⟨bs + 1 + 1, 0, none⟩ (.slice a1 f.length c1)).setCell ⟨bs + 1 + 1, 1, none⟩ (.slice a2 t.length c2)) (NewIn w ((w3.setCell ⟨bs + 1 + 1, 0, none⟩ (.slice a1 f.length c1)).setCell ⟨bs + 1 + 1, 1, none⟩ (.slice a2 t.length c2))) a2 c2 t := ⟨(L2.1.keep kS (fun i hi e => by have := hi.1; omega)).mono (fun i hi => ⟨by have := hi.1; omega, by have := hi.2; have := kS.size; omega⟩), L2.2⟩
      refine wpAnyH_ready (rs := [7]) (by kernel_rfl) (by simp) ?_
      refine AllReadyH.cons rfl (fun K hK => ?_) AllReadyH.nil
      go_simp
      clear z0 z1 q0 q1 h0 h1 rowR rowS kk kS L1 L2
      generalize ((w3.setCell ⟨bs + 1 + 1, 0, none⟩ (.slice a1 f.length c1)).setCell ⟨bs + 1 + 1, 1, none⟩ (.slice a2 t.length c2)) = wz at *
      have z0 := rowS'.cell 0
      (try simp only [List.getElem?_cons_zero] at z0)
      have z1 := rowS'.cell 1
      (try simp only [List.getElem?_cons_succ] at z1); (try simp only [List.getElem?_cons_zero] at z1)
      refine hK.out _ _ (⟨z0, z1⟩) (fun hHeld => ?_)
      clear hK K
      (try simp only [Act.put]); (try simp only [List.getElem_toArray]); (try simp only [List.getElem_cons_succ]); (try simp only [List.getElem_cons_zero]); (try simp only [List.setIfInBounds_toArray]); (try simp only [List.set_cons_succ]); (try simp only [List.set_cons_zero])
      refine wpAnyH_take (i := 8) (v := ?_) rfl (by kernel_rfl) (by kernel_rfl) (by kernel_rfl) (fun _ _ _ h => h) (Or.inl ⟨by kernel_rfl, ?_⟩) hHeld ?_
      rotate_left
      · intro w' hSw
        (try dsimp only at hSw)
        (try simp only [List.getElem_toArray]); (try simp only [List.getElem_cons_succ]); (try simp only [List.getElem_cons_zero])
        go_simp
        try with_reducible rfl
      (try simp only [Act.put]); (try simp only [List.getElem_toArray]); (try simp only [List.getElem_cons_succ]); (try simp only [List.getElem_cons_zero]); (try simp only [List.setIfInBounds_toArray]); (try simp only [List.set_cons_succ]); (try simp only [List.set_cons_zero])
      refine wpAnyH_done (by kernel_rfl) ?_ _
      clear z0 z1 hHeld
      go_wp2_with fail
      refine bodyPost_ret (results_cell_row2 (by rfl) _ _ _ _ _ _ _ (by rfl) rowF Try.underlying29 (by rfl) hinfo) rfl ?_
      rw [HP.out]
      exact ⟨_, rfl, mkS L1' L2', kk'⟩
end Go.Proofs.Ytpblmaklbnpbfaa
