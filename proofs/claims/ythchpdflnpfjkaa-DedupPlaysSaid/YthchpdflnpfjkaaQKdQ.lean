/- DEDUP: the reference's machine: Do. Printed by mac.py. -/
import Derived.Test.YthchpdflnpfjkaaQKdO
import Derived.Test.YthchpdflnpfjkaaQInX
namespace Go.Proofs.Ythchpdflnpfjkaa
open Go.RowKit

theorem flat_set : ∀ (css : List (List Value)) (k j : Nat) (c : List Value) (rest : List Value) (v : Value), (∀ z ∈ css, z.length = 3) → css[k]? = some c → j < 3 → (css.flatten ++ rest).set (k * 3 + j) v = (css.set k (c.set j v)).flatten ++ rest
  | x :: css, 0, j, c, rest, v, hl, hc, hj => by
    cases hc
    have h3 := hl x (by simp)
    simp only [List.flatten_cons, List.set_cons_zero, Nat.zero_mul, Nat.zero_add, List.append_assoc]
    rw [List.set_append_left _ _ (by omega)]
  | x :: css, k + 1, j, c, rest, v, hl, hc, hj => by
    have h3 := hl x (by simp)
    have ih := flat_set css k j c rest v (fun z hz => hl z (by simp [hz])) (by simpa using hc) hj
    simp only [List.flatten_cons, List.set_cons_succ, List.append_assoc]
    rw [List.set_append_right _ _ (by omega), show (k + 1) * 3 + j - x.length = k * 3 + j by omega, ih]
def getE (L : List Ent) (k : Nat) : Ent := L.getD k (0, 0, [])
theorem getE_at {L : List Ent} {k : Nat} (h : k < L.length) : getE L k = L[k] := by unfold getE; rw [List.getD_eq_getElem?_getD, List.getElem?_eq_getElem h]; rfl
theorem getE_end (L : List Ent) : getE L L.length = (0, 0, []) := by simp [getE]
/-- What is done at a call that is taken as x, k being the client's place. -/
def onceK (tp : List (List UInt8)) (L : List Ent) (x : GCall) (k : Nat) : List (List UInt8) × List Ent × List UInt8 :=
  if x.fSeq < (getE L k).2.1 ∨ x.fSeq = 0 then (tp, L, [])
  else if x.fSeq = (getE L k).2.1 then (tp, L, (getE L k).2.2)
  else (tp ++ [x.fData], (if k = L.length then L ++ [(x.fClient, 0, [])] else L).set k (x.fClient, x.fSeq, answer (tp.length + 1) x.fData), answer (tp.length + 1) x.fData)
/-- The client's place. -/
def PlaceE (L : List Ent) (c : Int) (k : Nat) : Prop := k ≤ L.length ∧ (∀ i (h : i < k) (h2 : i < L.length), L[i].1 ≠ c) ∧ ∀ (h : k < L.length), L[k].1 = c
def OncePost (w : World) (Q : Nat → Prop) (bO : Nat) (y : List (List UInt8) × List Ent × List UInt8) (e : Ending) (w' : World) : Prop :=
  ∃ (a : Option Addr) (cp m : Nat) (Q' : Nat → Prop) (g : Option Nat) (aL : Option Addr) (cL : Nat) (css : List (List Value)), e = .returned (.slice a y.2.2.length cp) ∧ w.heap.size ≤ m ∧ w'.ownsRow m 5 1 (.slice a y.2.2.length cp) y.2.2.length (y.2.2.map bv) ∧
    OnceAt w' Q' bO g y.1 y.2.1 aL cL css ∧ Keep Q w w' ∧ ∀ b, Q' b → (Q b ∨ w.heap.size ≤ b) ∧ b < m
theorem Els.set {α : Type} {R : RD α} {w : World} {p : Nat → Prop} {css : List (List Value)} {xs : List α} (h : Els R w p css xs) (k : Nat) {c : List Value} {x : α} (hc : R w p c x) : Els R w p (css.set k c) (xs.set k x) := by
  refine ⟨by simp [h.1], fun i c' x' h1 h2 => ?_⟩
  rw [List.getElem?_set] at h1 h2
  split at h1
  · rename_i he
    rw [if_pos he] at h2
    split at h1
    · split at h2
      · cases h1; cases h2; exact hc
      · cases h2
    · cases h1
  · rename_i he
    rw [if_neg he] at h2
    exact h.2 i c' x' h1 h2
theorem OnceAt.len3 {w : World} {Q : Nat → Prop} {bO : Nat} {g : Option Nat} {tp : List (List UInt8)} {L : List Ent} {aL : Option Addr} {cL : Nat} {css : List (List Value)} (h : OnceAt w Q bO g tp L aL cL css) : ∀ z ∈ css, z.length = 3 := fun z hz => by
  obtain ⟨i, hi, rfl⟩ := List.mem_iff_getElem.1 hz
  exact rEnt_lawful.len (h.els.2 i css[i] (L[i]'(by rw [← h.els.1]; exact hi)) (List.getElem?_eq_getElem hi) (List.getElem?_eq_getElem _))
theorem cell_flat {w : World} {b e : Nat} {css : List (List Value)} {rest : List Value} {k : Nat} {cx : List Value} (row : RowIs w b e (css.flatten ++ rest)) (h3 : ∀ z ∈ css, z.length = 3) (hcx : css[k]? = some cx) {j : Nat} {u : Value} (hu : cx[j]? = some u) : w.cell? ⟨b, k * 3 + j, none⟩ = some u := by
  have hf := flat_at css h3 k cx hcx j u hu
  rw [row.cell, List.getElem?_append_left (List.getElem?_eq_some_iff.1 hf).1]
  exact hf
theorem flat_len3 : ∀ {css : List (List Value)}, (∀ z ∈ css, z.length = 3) → css.flatten.length = css.length * 3
  | [], _ => rfl
  | x :: css, h => by
    have h1 := h x (by simp)
    have ih := flat_len3 (css := css) (fun z hz => h z (by simp [hz]))
    simp only [List.flatten_cons, List.length_append, List.length_cons, h1, ih]; omega
theorem set_len3 {css : List (List Value)} (h3 : ∀ z ∈ css, z.length = 3) (k : Nat) {c : List Value} (hc : c.length = 3) : ∀ z ∈ css.set k c, z.length = 3 := fun z hz => (List.mem_or_eq_of_mem_set hz).elim (h3 z) (fun e => e ▸ hc)
section
attribute [local go_sem ↓] stz_Call
set_option maxRecDepth 100000 in
set_option maxHeartbeats 8000000 in
theorem odo_c {p : Nat → Prop} (Q : Nat → Prop) (bO : Nat) (g : Option Nat) (tp : List (List UInt8)) (L : List Ent) (aL : Option Addr) (cL : Nat) (css : List (List Value)) (a : Option Addr) (nn ca : Nat) (l : List UInt8) (x : GCall) (w : World) (h : OnceAt w Q bO g tp L aL cL css) (hL : L.length ≤ 1000) (ht : tp.length ≤ 1000) (hn : l.length = nn) (ha : Lies w p a (l.map bv)) (hr : nn ≤ 140737488355328) (hx : takeP pGCall zGCall l = (x, 0)) (hxd : x.fData.length ≤ 10000) (k0 : Nat) (hk0 : PlaceE L x.fClient k0) :
    Calls Try.prog 19 #[.pointer (some ⟨bO, 0, none⟩), .slice a nn ca] w (OncePost w Q bO (onceK tp L x k0)) := by
  have hT := iTakeCall_c a nn ca l w hn ha hr
  rw [hx] at hT
  replace hT := Lib.hid hT
  have HH := Lib.hid h
  have HP0 := Lib.hid hk0
  clear h ha hn hx hk0
  go_enter Try.func19, Try.ntmps19
  go_wp2_with fail
  go_fit hT.out
  rintro e w1 ⟨cs, rfl, hR, -, k1⟩
  obtain ⟨aX, cX, rfl, hc, hs, hd, -⟩ := rGCall_open hR
  obtain ⟨hd, hdc, hdf⟩ := hd
  clear hT hR
  obtain ⟨hst, rowC, kX⟩ := boxed (P := Try.prog) (zs := [.int .u64 0, .int .u64 0, .slice none 0 0]) (cs := [.int .u64 x.fClient, .int .u64 x.fSeq, .slice aX x.fData.length cX]) S_Call w1 rfl rfl rfl
  have hd2 := (hd.keep kX (fun _ _ => id)).mono (q := fun b => w.heap.size ≤ b ∧ b < w1.heap.size) (fun _ h => h)
  have hsC : w.heap.size ≤ w1.heap.size := k1.size
  have K2 := Lib.hid (k1.trans kX)
  clear hd k1 kX
  go_wp2_with fail
  clear hst
  generalize ((w1.alloc (.cells #[.int .u64 0, .int .u64 0, .slice none 0 0] 35)).setRow w1.heap.size ([.int .u64 x.fClient, .int .u64 x.fSeq, .slice aX x.fData.length cX] : List Value).toArray) = w2 at *
  generalize w1.heap.size = bC at *
  have ROWC := Lib.hid rowC
  have HD := Lib.hid hd2
  have HSC := Lib.hid hsC
  have HS := Lib.hid (And.intro hc hs)
  have HCZ : Hid (bC < w2.heap.size) := rowC.lt
  clear rowC hd2 hsC hc hs
  go_loopw [7] (fun i wr => ∃ k : Nat, k ≤ L.length ∧ i = .int .i64 (k : Int) ∧ Hid (∀ i (h : i < k) (h2 : i < L.length), L[i].1 ≠ x.fClient) ∧ Keep Nix w2 wr) (fun i _ => L.length - (intOf i).toNat)
  case atStart => exact ⟨0, Nat.zero_le _, rfl, fun i h => absurd h (Nat.not_lt_zero _), Keep.refl _ _⟩
  case round =>
    obtain ⟨k, hk, rfl, hno, kk⟩ := hrel
    have HKQ := Lib.hid kk
    have HKK := Lib.hid (K2.out.trans kk)
    have HO := Lib.hid (HH.out.nix HKK.out)
    have rowC := ROWC.out.keep kk id
    have RC := Lib.hid rowC
    have HDr := Lib.hid (HD.out.keep kk (fun _ _ => id))
    obtain ⟨aT, cT, row, -, -⟩ := HO.out.tape.row
    have x1 := row.cell 1
    (try simp only [List.getElem?_cons_succ] at x1); (try simp only [List.getElem?_cons_zero] at x1)
    have c0 := rowC.cell 0
    have c1 := rowC.cell 1
    (try simp only [List.getElem?_cons_succ] at c1); (try simp only [List.getElem?_cons_zero] at c0 c1)
    clear row kk rowC
    by_cases hlt : k < L.length
    · have hi0 : (0 : Int) ≤ (k : Int) := by omega
      have hi1 : (k : Int) < (L.length : Int) := by omega
      have hwk : IntKind.i64.wrap ((k : Int) + 1) = (k : Int) + 1 := by rw [IntKind.wrap_i64]; omega
      obtain ⟨b, cx, e1, -, rx, hcells⟩ := HO.out.cells hlt
      obtain ⟨y, hy⟩ : ∃ y, Hid (L[k] = y) := ⟨L[k], rfl⟩
      rw [hy.out] at rx
      obtain ⟨aA, cA, rfl, hl, hll, -, -⟩ := rx
      subst e1
      have y0 := hcells 0 _ rfl
      have y1 := hcells 1 _ rfl
      have y2 := hcells 2 _ rfl
      (try simp only [Nat.add_zero] at y0)
      have HAL := Lib.hid hl
      clear hcells hl
      by_cases h1 : y.1 = x.fClient
      · have t1 : (y.1 == x.fClient) = true := by simp [h1]
        have hk0 : Hid (k0 = k) := by
          show _ = _
          obtain ⟨q1, q2, q3⟩ := HP0.out
          rcases Nat.lt_trichotomy k0 k with h | h | h
          · exact absurd (q3 (by omega)) (hno.out k0 h (by omega))
          · exact h
          · exact absurd (by rw [hy.out]; exact h1) (q2 k h hlt)
        have hE : Hid (getE L k = y) := by show _ = _; rw [getE_at hlt, hy.out]
        have HYC := Lib.hid h1
        clear h1
        go_wp2_with fail
        go_quiet (fail)
        have kqq : Keep Nix wr (wr.drewN nq) := (Keep.refl Nix wr).drewN nq
        have HKK := Lib.hid (HKK.out.trans kqq)
        have HO := Lib.hid (HO.out.nix kqq)
        have RC := Lib.hid (RC.out.keep kqq id)
        have HDr := Lib.hid (HDr.out.keep kqq (fun _ _ => id))
        clear kqq x1 c0 c1 HKQ
        generalize wr.drewN nq = wn at *
        obtain ⟨aT, cT, row, -, -⟩ := HO.out.tape.row
        have x1 := row.cell 1
        (try simp only [List.getElem?_cons_succ] at x1); (try simp only [List.getElem?_cons_zero] at x1)
        have c0 := RC.out.cell 0
        have c1 := RC.out.cell 1
        (try simp only [List.getElem?_cons_succ] at c1); (try simp only [List.getElem?_cons_zero] at c0 c1)
        clear row
        clear y0 y1 y2 HAL
        obtain ⟨b', cx', e1, hcx, rx, hcells⟩ := HO.out.cells hlt
        cases e1
        rw [hy.out] at rx
        obtain ⟨aA, cA, rfl, hl, hll, -, -⟩ := rx
        have y0 := hcells 0 _ rfl
        have y1 := hcells 1 _ rfl
        have y2 := hcells 2 _ rfl
        (try simp only [Nat.add_zero] at y0)
        have HAL := Lib.hid hl
        clear hcells hl
        obtain ⟨aL', hL'⟩ : ∃ a' : Option Addr, a' = some ⟨b, 0, none⟩ := ⟨_, rfl⟩
        have HO : Hid (OnceAt wn Q bO g tp L aL' cL css) := hL' ▸ HO
        by_cases h2 : x.fSeq < y.2.1
        · have HE : Hid (onceK tp L x k0 = (tp, L, [])) := by show _ = _; unfold onceK; rw [hk0.out, hE.out, if_pos (.inl h2)]
          go_wp2_with fail
          go_ret
          unfold OncePost
          rw [HE.out]
          exact ⟨none, 0, wn.heap.size, Q, g, aL', cL, css, rfl, HKK.out.size, World.ownsRow_nil _ _ _ _, HO.out, HKK.out.nix, fun b hb => ⟨.inl hb, HO.out.lt b hb⟩⟩
        · by_cases h0 : x.fSeq = 0
          · have t0 : (x.fSeq == 0) = true := by simp [h0]
            have HE : Hid (onceK tp L x k0 = (tp, L, [])) := by show _ = _; unfold onceK; rw [hk0.out, hE.out, if_pos (.inr h0)]
            clear h0
            go_wp2_with fail
            go_ret
            unfold OncePost
            rw [HE.out]
            exact ⟨none, 0, wn.heap.size, Q, g, aL', cL, css, rfl, HKK.out.size, World.ownsRow_nil _ _ _ _, HO.out, HKK.out.nix, fun b hb => ⟨.inl hb, HO.out.lt b hb⟩⟩
          · have t0 : (x.fSeq == 0) = false := by simp [h0]
            by_cases hq : x.fSeq = y.2.1
            · have t3 : (x.fSeq == y.2.1) = true := by simp [hq]
              have HE : Hid (onceK tp L x k0 = (tp, L, y.2.2)) := by show _ = _; unfold onceK; rw [hk0.out, hE.out, if_neg (by omega), if_pos hq]
              clear h0 hq
              have hlz : (y.2.2.map bv).length = y.2.2.length * 1 := by simp
              go_wp2_with (at_builtin; refine wpl_append (m := y.2.2.length) (c := cA) T_bytes ?hgd (.const (.slice none 0 0)) (.tmp 75) ?ho wn.heap.size ?hs (World.ownsRow_nil wn wn.heap.size 5 1) (y.2.2.map bv) ?hx ?c0 HAL.out ?c1 ?c2 ?c3 ?c4 ?_)
              case hgd => rfl
              case ho => rfl
              (try case hs => rfl)
              (try case hx => rfl)
              (try case c0 => exact hlz)
              case c1 => first | exact bv_one _ | exact fun u hu => bv_one y.2.2 _ (List.mem_map.2 ⟨u, hu, rfl⟩)
              case c2 => unfold maxLen; omega
              case c3 => omega
              (try case c4 => exact Nat.le_refl _)
              intro aF cF wF ownF hgF
              have kF := Lib.hid ((Keep.refl Nix wn).grown hgF (fun i hi => by cases hi))
              have OWF := Lib.hid ownF
              clear ownF hgF y0 y1 y2 x1
              go_wp2_with fail
              go_ret
              unfold OncePost
              rw [HE.out]
              exact ⟨aF, cF, wn.heap.size, Q, g, aL', cL, css, (by (try rw [Nat.zero_add]); rfl), HKK.out.size, by simpa using OWF.out, HO.out.nix kF.out, (HKK.out.trans kF.out).nix, fun b hb => ⟨.inl hb, HO.out.lt b hb⟩⟩
            · have t3 : (x.fSeq == y.2.1) = false := by simp [hq]
              have t4 : ((k : Int) == (L.length : Int)) = false := by simp; omega
              have HE : Hid (onceK tp L x k0 = (tp ++ [x.fData], L.set k (x.fClient, x.fSeq, answer (tp.length + 1) x.fData), answer (tp.length + 1) x.fData)) := by show _ = _; unfold onceK; rw [hk0.out, hE.out, if_neg (by omega), if_neg hq, if_neg (by omega)]
              clear h0 hq
              have HCN : Hid (∀ i, w.heap.size ≤ i → i ≤ bC → ¬ Q i) := fun i hi _ hq => by have := HH.out.lt i hq; omega
              have HKK := Lib.hid (HKK.out.nix (S := Q))
              obtain ⟨Q2, hQ2⟩ : ∃ Q2 : Nat → Prop, Q2 = Q := ⟨_, rfl⟩
              have HO : Hid (OnceAt wn Q2 bO g tp L aL' cL css) := hQ2 ▸ HO
              have HCN : Hid (∀ i, w.heap.size ≤ i → i ≤ bC → ¬ Q2 i) := hQ2 ▸ HCN
              have HQ2 : Hid (∀ i, Q2 i → Q i ∨ w.heap.size ≤ i) := by show ∀ i, _; rw [hQ2]; exact fun i h => .inl h
              obtain ⟨bb, rest, e2, -, rowL, hlen, hxl, hnc, hcm⟩ := own_row HO.out.own (by omega)
              rw [hL'] at e2
              cases e2
              have RL := Lib.hid rowL
              have HLN := Lib.hid (And.intro hlen (And.intro hxl (And.intro hnc hcm)))
              have H3 := Lib.hid HO.out.len3
              have HCX := Lib.hid hcx
              have hD := HDr.out
              clear rowL hlen hxl hnc hcm hcx
              go_wp2_with fail
              have kd : Keep Nix wn wn.drew := Keep.drew (Keep.refl Nix wn)
              have HO := Lib.hid (HO.out.nix kd)
              have RC := Lib.hid (RC.out.keep kd id)
              have RL := Lib.hid (RL.out.keep kd id)
              have HKK := Lib.hid (HKK.out.trans kd.nix)
              have hD := hD.keep kd (fun _ _ => id)
              have hT : IsTapeG wn.drew bO 51 [.slice (some ⟨b, 0, none⟩) L.length cL] g tp := by have h := HO.out.tape; rw [hL'] at h; exact h
              have x1 : wn.drew.cell? ⟨bO, 1, none⟩ = some (.slice (some ⟨b, 0, none⟩) L.length cL) := x1
              have c1 : wn.drew.cell? ⟨bC, 1, none⟩ = some (.int .u64 x.fSeq) := RC.out.cell 1
              have c2 : wn.drew.cell? ⟨bC, 2, none⟩ = some (.slice aX x.fData.length cX) := RC.out.cell 2
              clear kd
              refine wp_region_held_drew (S := (fun w' => w'.cell? ⟨bO, 1, none⟩ = some (.slice (some ⟨b, 0, none⟩) L.length cL) ∧ w'.cell? ⟨bC, 1, none⟩ = some (.int .u64 x.fSeq) ∧ w'.cell? ⟨bC, 2, none⟩ = some (.slice aX x.fData.length cX))) (by kernel_rfl) (⟨x1, c1, c2⟩) (fun hHeld => ?_)
              refine wpAnyH_take (i := 0) (v := ?_) rfl (by kernel_rfl) (by kernel_rfl) (by kernel_rfl) (fun _ _ _ h => h) (Or.inl ⟨by kernel_rfl, ?_⟩) hHeld ?_
              rotate_left
              · intro w' hSw
                (try dsimp only at hSw)
                (try simp only [List.getElem_toArray]); (try simp only [List.getElem_cons_succ]); (try simp only [List.getElem_cons_zero])
                go_simp
                try with_reducible rfl
              (try simp only [Act.put]); (try simp only [List.getElem_toArray]); (try simp only [List.getElem_cons_succ]); (try simp only [List.getElem_cons_zero]); (try simp only [List.setIfInBounds_toArray]); (try simp only [List.set_cons_succ]); (try simp only [List.set_cons_zero])
              refine wpAnyH_take (i := 1) (v := ?_) rfl (by kernel_rfl) (by kernel_rfl) (by kernel_rfl) (fun _ _ _ h => h) (Or.inl ⟨by kernel_rfl, ?_⟩) hHeld ?_
              rotate_left
              · intro w' hSw
                (try dsimp only at hSw)
                (try simp only [List.getElem_toArray]); (try simp only [List.getElem_cons_succ]); (try simp only [List.getElem_cons_zero])
                go_simp
                try with_reducible rfl
              (try simp only [Act.put]); (try simp only [List.getElem_toArray]); (try simp only [List.getElem_cons_succ]); (try simp only [List.getElem_cons_zero]); (try simp only [List.setIfInBounds_toArray]); (try simp only [List.set_cons_succ]); (try simp only [List.set_cons_zero])
              refine wpAnyH_take (i := 2) (v := ?_) rfl (by kernel_rfl) (by kernel_rfl) (by kernel_rfl) (fun _ _ _ h => h) (Or.inl ⟨by kernel_rfl, ?_⟩) hHeld ?_
              rotate_left
              · intro w' hSw
                (try dsimp only at hSw)
                (try simp only [List.getElem_toArray]); (try simp only [List.getElem_cons_succ]); (try simp only [List.getElem_cons_zero])
                go_simp
                try with_reducible rfl
              (try simp only [Act.put]); (try simp only [List.getElem_toArray]); (try simp only [List.getElem_cons_succ]); (try simp only [List.getElem_cons_zero]); (try simp only [List.setIfInBounds_toArray]); (try simp only [List.set_cons_succ]); (try simp only [List.set_cons_zero])
              refine wpAnyH_take (i := 3) (v := ?_) rfl (by kernel_rfl) (by kernel_rfl) (by kernel_rfl) (fun _ _ _ h => h) (Or.inl ⟨by kernel_rfl, ?_⟩) hHeld ?_
              rotate_left
              · intro w' hSw
                (try dsimp only at hSw)
                (try simp only [List.getElem_toArray]); (try simp only [List.getElem_cons_succ]); (try simp only [List.getElem_cons_zero])
                go_simp
                try with_reducible rfl
              (try simp only [Act.put]); (try simp only [List.getElem_toArray]); (try simp only [List.getElem_cons_succ]); (try simp only [List.getElem_cons_zero]); (try simp only [List.setIfInBounds_toArray]); (try simp only [List.set_cons_succ]); (try simp only [List.set_cons_zero])
              refine wpAnyH_take (i := 4) (v := ?_) rfl (by kernel_rfl) (by kernel_rfl) (by kernel_rfl) (fun _ _ _ h => h) (Or.inl ⟨by kernel_rfl, ?_⟩) hHeld ?_
              rotate_left
              · intro w' hSw
                (try dsimp only at hSw)
                (try simp only [List.getElem_toArray]); (try simp only [List.getElem_cons_succ]); (try simp only [List.getElem_cons_zero])
                go_simp
                try with_reducible rfl
              (try simp only [Act.put]); (try simp only [List.getElem_toArray]); (try simp only [List.getElem_cons_succ]); (try simp only [List.getElem_cons_zero]); (try simp only [List.setIfInBounds_toArray]); (try simp only [List.set_cons_succ]); (try simp only [List.set_cons_zero])
              refine wpAnyH_take (i := 5) (v := ?_) rfl (by kernel_rfl) (by kernel_rfl) (by kernel_rfl) (fun _ _ _ h => h) (Or.inl ⟨by kernel_rfl, ?_⟩) hHeld ?_
              rotate_left
              · intro w' hSw
                (try dsimp only at hSw)
                (try simp only [List.getElem_toArray]); (try simp only [List.getElem_cons_succ]); (try simp only [List.getElem_cons_zero])
                go_simp
                try with_reducible rfl
              (try simp only [Act.put]); (try simp only [List.getElem_toArray]); (try simp only [List.getElem_cons_succ]); (try simp only [List.getElem_cons_zero]); (try simp only [List.setIfInBounds_toArray]); (try simp only [List.set_cons_succ]); (try simp only [List.set_cons_zero])
              refine wpAnyH_take (i := 6) (v := ?_) rfl (by kernel_rfl) (by kernel_rfl) (by kernel_rfl) (fun _ _ _ h => h) (Or.inl ⟨by kernel_rfl, ?_⟩) hHeld ?_
              rotate_left
              · intro w' hSw
                (try dsimp only at hSw)
                (try simp only [List.getElem_toArray]); (try simp only [List.getElem_cons_succ]); (try simp only [List.getElem_cons_zero])
                go_simp
                try with_reducible rfl
              (try simp only [Act.put]); (try simp only [List.getElem_toArray]); (try simp only [List.getElem_cons_succ]); (try simp only [List.getElem_cons_zero]); (try simp only [List.setIfInBounds_toArray]); (try simp only [List.set_cons_succ]); (try simp only [List.set_cons_zero])
              refine wpAnyH_take (i := 7) (v := ?_) rfl (by kernel_rfl) (by kernel_rfl) (by kernel_rfl) (fun _ _ _ h => h) (Or.inl ⟨by kernel_rfl, ?_⟩) hHeld ?_
              rotate_left
              · intro w' hSw
                (try dsimp only at hSw)
                (try simp only [List.getElem_toArray]); (try simp only [List.getElem_cons_succ]); (try simp only [List.getElem_cons_zero])
                go_simp
                try with_reducible rfl
              (try simp only [Act.put]); (try simp only [List.getElem_toArray]); (try simp only [List.getElem_cons_succ]); (try simp only [List.getElem_cons_zero]); (try simp only [List.setIfInBounds_toArray]); (try simp only [List.set_cons_succ]); (try simp only [List.set_cons_zero])
              refine wpAnyH_take (i := 8) (v := ?_) rfl (by kernel_rfl) (by kernel_rfl) (by kernel_rfl) (fun _ _ _ h => h) (Or.inl ⟨by kernel_rfl, ?_⟩) hHeld ?_
              rotate_left
              · intro w' hSw
                (try dsimp only at hSw)
                (try simp only [List.getElem_toArray]); (try simp only [List.getElem_cons_succ]); (try simp only [List.getElem_cons_zero])
                go_simp
                try with_reducible rfl
              (try simp only [Act.put]); (try simp only [List.getElem_toArray]); (try simp only [List.getElem_cons_succ]); (try simp only [List.getElem_cons_zero]); (try simp only [List.setIfInBounds_toArray]); (try simp only [List.set_cons_succ]); (try simp only [List.set_cons_zero])
              refine wpAnyH_take (i := 9) (v := ?_) rfl (by kernel_rfl) (by kernel_rfl) (by kernel_rfl) (fun _ _ _ h => h) (Or.inl ⟨by kernel_rfl, ?_⟩) hHeld ?_
              rotate_left
              · intro w' hSw
                (try dsimp only at hSw)
                (try simp only [List.getElem_toArray]); (try simp only [List.getElem_cons_succ]); (try simp only [List.getElem_cons_zero])
                go_simp
                try with_reducible rfl
              (try simp only [Act.put]); (try simp only [List.getElem_toArray]); (try simp only [List.getElem_cons_succ]); (try simp only [List.getElem_cons_zero]); (try simp only [List.setIfInBounds_toArray]); (try simp only [List.set_cons_succ]); (try simp only [List.set_cons_zero])
              refine wpAnyH_take (i := 10) (v := ?_) rfl (by kernel_rfl) (by kernel_rfl) (by kernel_rfl) (fun _ _ _ h => h) (Or.inl ⟨by kernel_rfl, ?_⟩) hHeld ?_
              rotate_left
              · intro w' hSw
                (try dsimp only at hSw)
                (try simp only [List.getElem_toArray]); (try simp only [List.getElem_cons_succ]); (try simp only [List.getElem_cons_zero])
                go_simp
                try with_reducible rfl
              (try simp only [Act.put]); (try simp only [List.getElem_toArray]); (try simp only [List.getElem_cons_succ]); (try simp only [List.getElem_cons_zero]); (try simp only [List.setIfInBounds_toArray]); (try simp only [List.set_cons_succ]); (try simp only [List.set_cons_zero])
              refine wpAnyH_take (i := 11) (v := ?_) rfl (by kernel_rfl) (by kernel_rfl) (by kernel_rfl) (fun _ _ _ h => h) (Or.inl ⟨by kernel_rfl, ?_⟩) hHeld ?_
              rotate_left
              · intro w' hSw
                (try dsimp only at hSw)
                (try simp only [List.getElem_toArray]); (try simp only [List.getElem_cons_succ]); (try simp only [List.getElem_cons_zero])
                go_simp
                try with_reducible rfl
              (try simp only [Act.put]); (try simp only [List.getElem_toArray]); (try simp only [List.getElem_cons_succ]); (try simp only [List.getElem_cons_zero]); (try simp only [List.setIfInBounds_toArray]); (try simp only [List.set_cons_succ]); (try simp only [List.set_cons_zero])
              refine wpAnyH_take (i := 12) (v := ?_) rfl (by kernel_rfl) (by kernel_rfl) (by kernel_rfl) (fun _ _ _ h => h) (Or.inl ⟨by kernel_rfl, ?_⟩) hHeld ?_
              rotate_left
              · intro w' hSw
                (try dsimp only at hSw)
                (try simp only [List.getElem_toArray]); (try simp only [List.getElem_cons_succ]); (try simp only [List.getElem_cons_zero])
                go_simp
                try with_reducible rfl
              (try simp only [Act.put]); (try simp only [List.getElem_toArray]); (try simp only [List.getElem_cons_succ]); (try simp only [List.getElem_cons_zero]); (try simp only [List.setIfInBounds_toArray]); (try simp only [List.set_cons_succ]); (try simp only [List.set_cons_zero])
              refine wpAnyH_take (i := 13) (v := ?_) rfl (by kernel_rfl) (by kernel_rfl) (by kernel_rfl) (fun _ _ _ h => h) (Or.inl ⟨by kernel_rfl, ?_⟩) hHeld ?_
              rotate_left
              · intro w' hSw
                (try dsimp only at hSw)
                (try simp only [List.getElem_toArray]); (try simp only [List.getElem_cons_succ]); (try simp only [List.getElem_cons_zero])
                go_simp
                try with_reducible rfl
              (try simp only [Act.put]); (try simp only [List.getElem_toArray]); (try simp only [List.getElem_cons_succ]); (try simp only [List.getElem_cons_zero]); (try simp only [List.setIfInBounds_toArray]); (try simp only [List.set_cons_succ]); (try simp only [List.set_cons_zero])
              refine wpAnyH_take (i := 14) (v := ?_) rfl (by kernel_rfl) (by kernel_rfl) (by kernel_rfl) (fun _ _ _ h => h) (Or.inl ⟨by kernel_rfl, ?_⟩) hHeld ?_
              rotate_left
              · intro w' hSw
                (try dsimp only at hSw)
                (try simp only [List.getElem_toArray]); (try simp only [List.getElem_cons_succ]); (try simp only [List.getElem_cons_zero])
                go_simp
                try with_reducible rfl
              (try simp only [Act.put]); (try simp only [List.getElem_toArray]); (try simp only [List.getElem_cons_succ]); (try simp only [List.getElem_cons_zero]); (try simp only [List.setIfInBounds_toArray]); (try simp only [List.set_cons_succ]); (try simp only [List.set_cons_zero])
              refine wpAnyH_take (i := 15) (v := ?_) rfl (by kernel_rfl) (by kernel_rfl) (by kernel_rfl) (fun _ _ _ h => h) (Or.inl ⟨by kernel_rfl, ?_⟩) hHeld ?_
              rotate_left
              · intro w' hSw
                (try dsimp only at hSw)
                (try simp only [List.getElem_toArray]); (try simp only [List.getElem_cons_succ]); (try simp only [List.getElem_cons_zero])
                go_simp
                try with_reducible rfl
              (try simp only [Act.put]); (try simp only [List.getElem_toArray]); (try simp only [List.getElem_cons_succ]); (try simp only [List.getElem_cons_zero]); (try simp only [List.setIfInBounds_toArray]); (try simp only [List.set_cons_succ]); (try simp only [List.set_cons_zero])
              refine wpAnyH_take (i := 16) (v := ?_) rfl (by kernel_rfl) (by kernel_rfl) (by kernel_rfl) (fun _ _ _ h => h) (Or.inl ⟨by kernel_rfl, ?_⟩) hHeld ?_
              rotate_left
              · intro w' hSw
                (try dsimp only at hSw)
                (try simp only [List.getElem_toArray]); (try simp only [List.getElem_cons_succ]); (try simp only [List.getElem_cons_zero])
                go_simp
                try with_reducible rfl
              (try simp only [Act.put]); (try simp only [List.getElem_toArray]); (try simp only [List.getElem_cons_succ]); (try simp only [List.getElem_cons_zero]); (try simp only [List.setIfInBounds_toArray]); (try simp only [List.set_cons_succ]); (try simp only [List.set_cons_zero])
              clear x1 c1 c2
              generalize wn.drew = w5 at *
              refine wpAnyH_ready (rs := [17]) (by kernel_rfl) (by simp) ?_
              refine AllReadyH.cons rfl (fun K hK => ?_) AllReadyH.nil
              go_simp
              go_fit (tDoG_c bO 51 [.slice (some ⟨b, 0, none⟩) L.length cL] g tp aX x.fData.length cX x.fData w5 rfl hD (fun i hi => ⟨fun e => HCN.out i hi.1 (Nat.le_of_lt hi.2) (e ▸ HO.out.oO), fun e => HCN.out i hi.1 (Nat.le_of_lt hi.2) (HO.out.oG i e)⟩) hT (by omega) (by omega))
              rintro e w6 ⟨a6, c6, g6, m6, rfl, hm6, own6, tpe6, hg6, k6, hfr6⟩
              have hLb : OwnB (.slice aL' L.length cL) b := by rw [hL']; rfl
              have hQb : Q2 b := HO.out.oL b hLb
              have hQC : ¬ Q2 bC := HCN.out bC HSC.out (Nat.le_refl _)
              have hbO : b ≠ bO := fun e => HO.out.ne (e ▸ hLb)
              have hbC : bC ≠ b := fun e => hQC (e ▸ hQb)
              have hbw : b < w5.heap.size := HO.out.lt b hQb
              have hgb : g6 ≠ some b := fun e => (hfr6 b e).elim (fun e => HO.out.ng b e hLb) (fun h => by omega)
              have hb6 : ¬ (b = bO ∨ g = some b) := fun h => h.elim (fun e => HO.out.ne (e ▸ hLb)) (fun e => HO.out.ng b e hLb)
              have hC6 : ¬ (bC = bO ∨ g = some bC) := fun h => h.elim (fun e => hQC (e ▸ HO.out.oO)) (fun e => hQC (HO.out.oG bC e))
              have rowL6 := RL.out.keep k6 hb6
              have rowC6 := RC.out.keep k6 hC6
              have els6 := Lib.hid (HO.out.els.keep rEnt_lawful k6 (fun i hi h => h.elim hi.2.1 hi.2.2.1))
              have KK6 : Hid (Keep (fun i => Q2 i) w5 w6) := k6.mono (fun i h => h.elim (fun e => e ▸ HO.out.oO) (fun e => HO.out.oG i e))
              have TP6 := Lib.hid tpe6
              have OW6 := Lib.hid own6
              have HM6 := Lib.hid (And.intro hm6 (And.intro hg6 hfr6))
              have HB := Lib.hid (And.intro hLb (And.intro hQb (And.intro hQC (And.intro hbO (And.intro hbC (And.intro hbw hgb))))))
              obtain ⟨aT6, cT6, rowO6, -, -⟩ := tpe6.row
              clear hT hD k6 hb6 hC6 tpe6 own6 hm6 hg6 hfr6 hLb hQb hQC hbO hbC hbw hgb y0 y1 y2 HAL
              have x1 : w6.cell? ⟨bO, 1, none⟩ = some (.slice (some ⟨b, 0, none⟩) L.length cL) := rowO6.cell 1
              have c1 : w6.cell? ⟨bC, 1, none⟩ = some (.int .u64 x.fSeq) := rowC6.cell 1
              have c2 : w6.cell? ⟨bC, 2, none⟩ = some (.slice aX x.fData.length cX) := rowC6.cell 2
              go_wp2_with fail
              refine hK.out _ _ (⟨x1, c1, c2⟩) (fun hHeld => ?_)
              clear hK K
              (try simp only [Act.put]); (try simp only [List.getElem_toArray]); (try simp only [List.getElem_cons_succ]); (try simp only [List.getElem_cons_zero]); (try simp only [List.setIfInBounds_toArray]); (try simp only [List.set_cons_succ]); (try simp only [List.set_cons_zero])
              refine wpAnyH_take (i := 18) (v := ?_) rfl (by kernel_rfl) (by kernel_rfl) (by kernel_rfl) (fun _ _ _ h => h) (Or.inl ⟨by kernel_rfl, ?_⟩) hHeld ?_
              rotate_left
              · intro w' hSw
                (try dsimp only at hSw)
                (try simp only [List.getElem_toArray]); (try simp only [List.getElem_cons_succ]); (try simp only [List.getElem_cons_zero])
                go_simp
                try with_reducible rfl
              (try simp only [Act.put]); (try simp only [List.getElem_toArray]); (try simp only [List.getElem_cons_succ]); (try simp only [List.getElem_cons_zero]); (try simp only [List.setIfInBounds_toArray]); (try simp only [List.set_cons_succ]); (try simp only [List.set_cons_zero])
              refine wpAnyH_take (i := 19) (v := ?_) rfl (by kernel_rfl) (by kernel_rfl) (by kernel_rfl) (fun _ _ _ h => h) (Or.inl ⟨by kernel_rfl, ?_⟩) hHeld ?_
              rotate_left
              · intro w' hSw
                (try dsimp only at hSw)
                (try simp only [List.getElem_toArray]); (try simp only [List.getElem_cons_succ]); (try simp only [List.getElem_cons_zero])
                go_simp
                try with_reducible rfl
              (try simp only [Act.put]); (try simp only [List.getElem_toArray]); (try simp only [List.getElem_cons_succ]); (try simp only [List.getElem_cons_zero]); (try simp only [List.setIfInBounds_toArray]); (try simp only [List.set_cons_succ]); (try simp only [List.set_cons_zero])
              refine wpAnyH_ready (rs := [20]) (by kernel_rfl) (by simp) ?_
              refine AllReadyH.cons rfl (fun K hK => ?_) AllReadyH.nil
              have l1 : w6.cell? ⟨b, k * 3 + 1, none⟩ = some (.int .u64 y.2.1) := cell_flat rowL6 H3.out HCX.out (j := 1) rfl
              have f1 := rowL6.frozen (k * 3 + 1)
              (try simp only [List.getElem_toArray]); (try simp only [List.getElem_cons_succ]); (try simp only [List.getElem_cons_zero])
              go_simp
              clear l1 f1 x1 c1 c2
              have k7 : Keep (· = b) w6 (w6.setCell ⟨b, k * 3 + 1, none⟩ (.int .u64 x.fSeq)) := (Keep.refl (· = b) w6).setCell (p := ⟨b, k * 3 + 1, none⟩) (fun _ => rfl) _
              have rowL7 := rowL6.set (k * 3 + 1) (.int .u64 x.fSeq)
              rw [flat_set _ k 1 _ rest _ H3.out HCX.out (by decide)] at rowL7
              have rowC7 := rowC6.keep k7 HB.out.2.2.2.2.1
              have rowO7 := rowO6.keep k7 HB.out.2.2.2.1.symm
              clear rowL6 rowC6 rowO6
              generalize w6.setCell ⟨b, k * 3 + 1, none⟩ (.int .u64 x.fSeq) = w7 at *
              have x1 : w7.cell? ⟨bO, 1, none⟩ = some (.slice (some ⟨b, 0, none⟩) L.length cL) := rowO7.cell 1
              have c1 : w7.cell? ⟨bC, 1, none⟩ = some (.int .u64 x.fSeq) := rowC7.cell 1
              have c2 : w7.cell? ⟨bC, 2, none⟩ = some (.slice aX x.fData.length cX) := rowC7.cell 2
              refine hK.out _ _ (⟨x1, c1, c2⟩) (fun hHeld => ?_)
              clear hK K
              (try simp only [Act.put]); (try simp only [List.getElem_toArray]); (try simp only [List.getElem_cons_succ]); (try simp only [List.getElem_cons_zero]); (try simp only [List.setIfInBounds_toArray]); (try simp only [List.set_cons_succ]); (try simp only [List.set_cons_zero])
              refine wpAnyH_take (i := 21) (v := ?_) rfl (by kernel_rfl) (by kernel_rfl) (by kernel_rfl) (fun _ _ _ h => h) (Or.inl ⟨by kernel_rfl, ?_⟩) hHeld ?_
              rotate_left
              · intro w' hSw
                (try dsimp only at hSw)
                (try simp only [List.getElem_toArray]); (try simp only [List.getElem_cons_succ]); (try simp only [List.getElem_cons_zero])
                go_simp
                try with_reducible rfl
              (try simp only [Act.put]); (try simp only [List.getElem_toArray]); (try simp only [List.getElem_cons_succ]); (try simp only [List.getElem_cons_zero]); (try simp only [List.setIfInBounds_toArray]); (try simp only [List.set_cons_succ]); (try simp only [List.set_cons_zero])
              refine wpAnyH_take (i := 22) (v := ?_) rfl (by kernel_rfl) (by kernel_rfl) (by kernel_rfl) (fun _ _ _ h => h) (Or.inl ⟨by kernel_rfl, ?_⟩) hHeld ?_
              rotate_left
              · intro w' hSw
                (try dsimp only at hSw)
                (try simp only [List.getElem_toArray]); (try simp only [List.getElem_cons_succ]); (try simp only [List.getElem_cons_zero])
                go_simp
                try with_reducible rfl
              (try simp only [Act.put]); (try simp only [List.getElem_toArray]); (try simp only [List.getElem_cons_succ]); (try simp only [List.getElem_cons_zero]); (try simp only [List.setIfInBounds_toArray]); (try simp only [List.set_cons_succ]); (try simp only [List.set_cons_zero])
              refine wpAnyH_ready (rs := [23]) (by kernel_rfl) (by simp) ?_
              refine AllReadyH.cons rfl (fun K hK => ?_) AllReadyH.nil
              have l2 : w7.cell? ⟨b, k * 3 + 2, none⟩ = some (.slice aA y.2.2.length cA) := cell_flat rowL7 (set_len3 H3.out k rfl) (List.getElem?_set_self (List.getElem?_eq_some_iff.1 HCX.out).1) (j := 2) rfl
              have f2 := rowL7.frozen (k * 3 + 2)
              (try simp only [List.getElem_toArray]); (try simp only [List.getElem_cons_succ]); (try simp only [List.getElem_cons_zero])
              go_simp
              clear l2 f2 x1 c1 c2
              have k8 : Keep (· = b) w7 (w7.setCell ⟨b, k * 3 + 2, none⟩ (.slice a6 (x.fData.length + 2) c6)) := (Keep.refl (· = b) w7).setCell (p := ⟨b, k * 3 + 2, none⟩) (fun _ => rfl) _
              have rowL8 := rowL7.set (k * 3 + 2) (.slice a6 (x.fData.length + 2) c6)
              rw [flat_set _ k 2 _ rest _ (set_len3 H3.out k rfl) (List.getElem?_set_self (List.getElem?_eq_some_iff.1 HCX.out).1) (by decide), List.set_set] at rowL8
              have rowC8 := rowC7.keep k8 HB.out.2.2.2.2.1
              have rowO8 := rowO7.keep k8 HB.out.2.2.2.1.symm
              have k78 := Lib.hid (k7.trans k8)
              clear rowL7 rowC7 rowO7 k7 k8
              generalize w7.setCell ⟨b, k * 3 + 2, none⟩ (.slice a6 (x.fData.length + 2) c6) = w8 at *
              have x1 : w8.cell? ⟨bO, 1, none⟩ = some (.slice (some ⟨b, 0, none⟩) L.length cL) := rowO8.cell 1
              have c1 : w8.cell? ⟨bC, 1, none⟩ = some (.int .u64 x.fSeq) := rowC8.cell 1
              have c2 : w8.cell? ⟨bC, 2, none⟩ = some (.slice aX x.fData.length cX) := rowC8.cell 2
              refine hK.out _ _ (⟨x1, c1, c2⟩) (fun hHeld => ?_)
              clear hK K
              (try simp only [Act.put]); (try simp only [List.getElem_toArray]); (try simp only [List.getElem_cons_succ]); (try simp only [List.getElem_cons_zero]); (try simp only [List.setIfInBounds_toArray]); (try simp only [List.set_cons_succ]); (try simp only [List.set_cons_zero])
              refine wpAnyH_done (by kernel_rfl) ?_ _
              have hcx9 : (css.set k ([.int .u64 x.fClient, .int .u64 x.fSeq, .slice a6 (x.fData.length + 2) c6]))[k]? = some [.int .u64 x.fClient, .int .u64 x.fSeq, .slice a6 (x.fData.length + 2) c6] := List.getElem?_set_self (List.getElem?_eq_some_iff.1 HCX.out).1
              have rowL9 : RowIs w8 b 89 ((css.set k ([.int .u64 x.fClient, .int .u64 x.fSeq, .slice a6 (x.fData.length + 2) c6])).flatten ++ rest) := by have h := rowL8; simp only [List.set_cons_succ, List.set_cons_zero] at h; (try rw [HYC.out] at h); exact h
              have y2 : w8.cell? ⟨b, k * 3 + 2, none⟩ = some (.slice a6 (x.fData.length + 2) c6) := cell_flat rowL9 (set_len3 H3.out k rfl) hcx9 (j := 2) rfl
              have RL9 := Lib.hid rowL9
              have hal : (answer (tp.length + 1) x.fData).length = x.fData.length + 2 := answer_len _ _
              obtain ⟨ans, hans⟩ : ∃ ans, answer (tp.length + 1) x.fData = ans := ⟨_, rfl⟩
              rw [hans] at OW6 HE hal
              have lies8 := (Lies.of_owned OW6.out).keep k78.out (fun i hi e => by have h1 : m6 ≤ i := hi.1; have := HM6.out.1; have := HB.out.2.2.2.2.2.1; omega)
              have HL8 := Lib.hid lies8
              have hlz : (ans.map bv).length = (x.fData.length + 2) * 1 := by rw [List.length_map, hal]; omega
              clear rowL8 rowL9 rowC8 rowO8 hHeld c1 c2 lies8 hcx9
              go_wp2_with (at_builtin; refine wpl_append (m := x.fData.length + 2) (c := c6) T_bytes ?hgdf (.const (.slice none 0 0)) (.tmp 125) ?hof w8.heap.size ?hsf (World.ownsRow_nil w8 w8.heap.size 5 1) (ans.map bv) ?hxf ?c0f HL8.out ?c1f ?c2f ?c3f ?c4f ?_)
              case hgdf => rfl
              case hof => rfl
              (try case hsf => rfl)
              (try case hxf => rfl)
              (try case c0f => exact hlz)
              case c1f => first | exact bv_one _ | exact fun u hu => bv_one ans _ (List.mem_map.2 ⟨u, hu, rfl⟩)
              case c2f => unfold maxLen; omega
              case c3f => omega
              (try case c4f => exact Nat.le_refl _)
              intro aF cF wF ownF hgF
              have kF := Lib.hid ((Keep.refl Nix w8).grown hgF (fun i hi => by cases hi))
              have OWF := Lib.hid ownF
              clear ownF hgF y2 x1
              go_wp2_with fail
              go_ret
              unfold OncePost
              rw [HE.out]
              clear HE
              have hs6 : w5.heap.size ≤ w6.heap.size := KK6.out.size
              have hs8 : w6.heap.size ≤ w8.heap.size := k78.out.size
              have hsF : w8.heap.size ≤ wF.heap.size := kF.out.size
              have hs5 : w.heap.size ≤ w5.heap.size := HKK.out.size
              have h3n := set_len3 H3.out k (c := [.int .u64 x.fClient, .int .u64 x.fSeq, .slice a6 (x.fData.length + 2) c6]) rfl
              have hfl := flat_len3 h3n
              have hfo := flat_len3 H3.out
              rw [List.length_set] at hfl
              have hec := els6.out.1
              have hlt := HO.out.lt
              have hllt : ∀ i, OwnB (.slice aL' L.length cL) i → i < w5.heap.size := fun i hi => hlt i (HO.out.oL i hi)
              have hel : Lies wF (fun i => (Q2 i ∨ (w5.heap.size ≤ i ∧ i < w8.heap.size)) ∧ i ≠ bO ∧ g6 ≠ some i ∧ ¬ OwnB (.slice aL' L.length cL) i) a6 (ans.map bv) := (HL8.out.keep kF.out (fun _ _ h => h)).mono (fun i hi => by
                have h1 : m6 ≤ i := hi.1
                have h2 := (OW6.out.lt i hi.2).2
                have h3 := HM6.out.1
                exact ⟨.inr ⟨by omega, by omega⟩, fun e => by have := hlt bO HO.out.oO; omega, fun e => by have := HM6.out.2.1 i e; omega, fun e => by have := hllt i e; omega⟩)
              have hels := (((els6.out.keep rEnt_lawful k78.out (fun i hi e => hi.2.2.2 (e ▸ HB.out.1))).keep rEnt_lawful kF.out (fun _ _ h => h)).mono rEnt_lawful (q := fun i => (Q2 i ∨ (w5.heap.size ≤ i ∧ i < w8.heap.size)) ∧ i ≠ bO ∧ g6 ≠ some i ∧ ¬ OwnB (.slice aL' L.length cL) i) (fun i hi => ⟨.inl hi.1, hi.2.1, fun e => (HM6.out.2.2 i e).elim hi.2.2.1 (fun h => by have := hlt i hi.1; omega), hi.2.2.2⟩)).set k (c := [.int .u64 x.fClient, .int .u64 x.fSeq, .slice a6 (x.fData.length + 2) c6]) (x := (x.fClient, x.fSeq, ans)) ⟨a6, c6, by rw [hal], hel, by show ans.length ≤ _; omega, HS.out.1, HS.out.2⟩
              have htp := (TP6.out.keep k78.out (S := (· = b)) (fun e => HB.out.2.2.2.1 e.symm) (fun i hi e => HB.out.2.2.2.2.2.2 (e ▸ hi))).keep kF.out id (fun _ _ => id)
              have hown : wF.ownsRow 0 89 3 (.slice aL' L.length cL) L.length (css.set k ([.int .u64 x.fClient, .int .u64 x.fSeq, .slice a6 (x.fData.length + 2) c6])).flatten := by
                rw [hL']
                have h1 := HLN.out.1
                rw [List.length_append] at h1
                exact row_own (RL9.out.keep kF.out id) (Nat.zero_le _) (by rw [List.length_append]; omega) (by omega) HLN.out.2.2.1 HLN.out.2.2.2
              refine ⟨aF, cF, w8.heap.size, (fun i => Q2 i ∨ (w5.heap.size ≤ i ∧ i < w8.heap.size)), g6, aL', cL, css.set k ([.int .u64 x.fClient, .int .u64 x.fSeq, .slice a6 (x.fData.length + 2) c6]), ?_, by omega, ?_, ?_, ?_, ?_⟩
              · show _ = Ending.returned (.slice aF ans.length cF)
                rw [hal]; (try rw [Nat.zero_add]); rfl
              · have h := OWF.out
                show wF.ownsRow w8.heap.size 5 1 (.slice aF ans.length cF) ans.length (ans.map bv)
                rw [hal]; simpa using h
              · refine ⟨?_, ?_, ?_, ?_, ?_, ?_, ?_, ?_, ?_⟩
                · show IsTapeG wF bO 51 [.slice aL' (L.set k (x.fClient, x.fSeq, ans)).length cL] g6 (tp ++ [x.fData])
                  rw [List.length_set, hL']; exact htp
                · show wF.ownsRow 0 89 3 (.slice aL' (L.set k (x.fClient, x.fSeq, ans)).length cL) (L.set k (x.fClient, x.fSeq, ans)).length _
                  rw [List.length_set]; exact hown
                · show Els rEnt wF (fun i => (Q2 i ∨ (w5.heap.size ≤ i ∧ i < w8.heap.size)) ∧ i ≠ bO ∧ g6 ≠ some i ∧ ¬ OwnB (.slice aL' (L.set k (x.fClient, x.fSeq, ans)).length cL) i) _ (L.set k (x.fClient, x.fSeq, ans))
                  rw [List.length_set]; exact hels
                · show ¬ OwnB (.slice aL' (L.set k (x.fClient, x.fSeq, ans)).length cL) bO
                  rw [List.length_set]; exact HO.out.ne
                · show ∀ i, g6 = some i → ¬ OwnB (.slice aL' (L.set k (x.fClient, x.fSeq, ans)).length cL) i
                  rw [List.length_set]; exact fun i hi ho => (HM6.out.2.2 i hi).elim (fun h => HO.out.ng i h ho) (fun h => by have := hllt i ho; omega)
                · exact fun i hi => hi.elim (fun h => by have := hlt i h; omega) (fun h => by omega)
                · exact .inl HO.out.oO
                · exact fun i hi => (HM6.out.2.2 i hi).elim (fun h => .inl (HO.out.oG i h)) (fun h => .inr ⟨h, by have := TP6.out.glt i hi; omega⟩)
                · show ∀ i, OwnB (.slice aL' (L.set k (x.fClient, x.fSeq, ans)).length cL) i → _
                  rw [List.length_set]; exact fun i hi => .inl (HO.out.oL i hi)
              · exact ((HKK.out.then KK6.out (fun i hi h => (HQ2.out i h).elim id (fun h => by omega))).then k78.out (fun i hi e => (HQ2.out i (e ▸ HB.out.2.1)).elim id (fun h => by omega))).trans kF.out.nix
              · exact fun i hi => hi.elim (fun h => ⟨HQ2.out i h, by have := hlt i h; omega⟩) (fun h => ⟨.inr (by omega), h.2⟩)
      · have t1 : (y.1 == x.fClient) = false := by simp [h1]
        have HNX : Hid (∀ i (h : i < k + 1) (h2 : i < L.length), L[i].1 ≠ x.fClient) := fun i hi hi2 => by
          rcases Nat.lt_or_ge i k with h | h
          · exact hno.out i h hi2
          · obtain rfl : i = k := by omega
            rw [hy.out]; exact h1
        clear h1
        go_wp2_with fail
        go_quiet (fail)
        have HKN := Lib.hid (HKQ.out.drewN nq)
        generalize wr.drewN nq = wn at *
        go_wp2_with fail
        go_roundw
        case rel => exact ⟨k + 1, by omega, by go_num, by show ∀ i (h : i < k + 1) (h2 : i < L.length), _; exact HNX.out, HKN.out⟩
        case measure => simp [intOf]; omega
    · have HKL : Hid (k = L.length) := by show _ = _; omega
      have hi1 : ¬ (k : Int) < (L.length : Int) := by omega
      have t4 : ((k : Int) == (L.length : Int)) = true := by rw [HKL.out]; simp
      have h2 : ¬ x.fSeq < 0 := fun h => by have := HS.out.2.1; omega
      have hk0 : Hid (k0 = L.length) := by
        show _ = _
        obtain ⟨q1, q2, q3⟩ := HP0.out
        rcases Nat.lt_or_ge k0 L.length with h | h
        · exact absurd (q3 h) (hno.out k0 (by omega) h)
        · omega
      have hE : Hid (getE L L.length = (0, 0, [])) := getE_end L
      go_wp2_with fail
      go_quiet (fail)
      have kqq : Keep Nix wr (wr.drewN nq) := (Keep.refl Nix wr).drewN nq
      have HKK := Lib.hid (HKK.out.trans kqq)
      have HO := Lib.hid (HO.out.nix kqq)
      have RC := Lib.hid (RC.out.keep kqq id)
      have HDr := Lib.hid (HDr.out.keep kqq (fun _ _ => id))
      clear kqq x1 c0 c1 HKQ
      generalize wr.drewN nq = wn at *
      obtain ⟨aT, cT, row, -, -⟩ := HO.out.tape.row
      have x1 := row.cell 1
      (try simp only [List.getElem?_cons_succ] at x1); (try simp only [List.getElem?_cons_zero] at x1)
      have c0 := RC.out.cell 0
      have c1 := RC.out.cell 1
      (try simp only [List.getElem?_cons_succ] at c1); (try simp only [List.getElem?_cons_zero] at c0 c1)
      clear row
      by_cases h0 : x.fSeq = 0
      · have t0 : (x.fSeq == 0) = true := by simp [h0]
        have HE : Hid (onceK tp L x k0 = (tp, L, [])) := by show _ = _; unfold onceK; rw [hk0.out, hE.out, if_pos (.inr h0)]
        clear h0
        go_wp2_with fail
        go_ret
        unfold OncePost
        rw [HE.out]
        exact ⟨none, 0, wn.heap.size, Q, g, aL, cL, css, rfl, HKK.out.size, World.ownsRow_nil _ _ _ _, HO.out, HKK.out.nix, fun b hb => ⟨.inl hb, HO.out.lt b hb⟩⟩
      · have t0 : (x.fSeq == 0) = false := by simp [h0]
        have HE : Hid (onceK tp L x k0 = (tp ++ [x.fData], (L ++ [(x.fClient, 0, [])]).set k (x.fClient, x.fSeq, answer (tp.length + 1) x.fData), answer (tp.length + 1) x.fData)) := by show _ = _; unfold onceK; rw [hk0.out, hE.out, if_neg (fun h => h.elim (fun h => by have h' : x.fSeq < 0 := h; omega) (fun h => absurd h h0)), if_neg (fun h => absurd h h0), if_pos rfl, HKL.out]
        have HCN : Hid (∀ i, w.heap.size ≤ i → i ≤ bC → ¬ Q i) := fun i hi _ hq => by have := HH.out.lt i hq; omega
        clear h0
        go_wp2_with fail
        have kd : Keep Nix wn wn.drew := Keep.drew (Keep.refl Nix wn)
        have HO := Lib.hid (HO.out.nix kd)
        have RC := Lib.hid (RC.out.keep kd id)
        have HKK := Lib.hid (HKK.out.trans kd)
        have HDr := Lib.hid (HDr.out.keep kd (fun _ _ => id))
        obtain ⟨aT, cT, rowO, ownT, hgT⟩ := HO.out.tape.row
        have RO := Lib.hid rowO
        have OWT := Lib.hid ownT
        have HGT := Lib.hid hgT
        have c0 : wn.drew.cell? ⟨bC, 0, none⟩ = some (.int .u64 x.fClient) := RC.out.cell 0
        clear kd rowO ownT hgT x1 c1
        refine wp_region_held_drew (S := (fun w' => w'.cell? ⟨bC, 0, none⟩ = some (.int .u64 x.fClient))) (by kernel_rfl) (c0) (fun hHeld => ?_)
        refine wpAnyH_take (i := 0) (v := ?_) rfl (by kernel_rfl) (by kernel_rfl) (by kernel_rfl) (fun _ _ _ h => h) (Or.inl ⟨by kernel_rfl, ?_⟩) hHeld ?_
        rotate_left
        · intro w' hSw
          (try dsimp only at hSw)
          (try simp only [List.getElem_toArray]); (try simp only [List.getElem_cons_succ]); (try simp only [List.getElem_cons_zero])
          go_simp
          try with_reducible rfl
        (try simp only [Act.put]); (try simp only [List.getElem_toArray]); (try simp only [List.getElem_cons_succ]); (try simp only [List.getElem_cons_zero]); (try simp only [List.setIfInBounds_toArray]); (try simp only [List.set_cons_succ]); (try simp only [List.set_cons_zero])
        refine wpAnyH_take (i := 1) (v := ?_) rfl (by kernel_rfl) (by kernel_rfl) (by kernel_rfl) (fun _ _ _ h => h) (Or.inl ⟨by kernel_rfl, ?_⟩) hHeld ?_
        rotate_left
        · intro w' hSw
          (try dsimp only at hSw)
          (try simp only [List.getElem_toArray]); (try simp only [List.getElem_cons_succ]); (try simp only [List.getElem_cons_zero])
          go_simp
          try with_reducible rfl
        (try simp only [Act.put]); (try simp only [List.getElem_toArray]); (try simp only [List.getElem_cons_succ]); (try simp only [List.getElem_cons_zero]); (try simp only [List.setIfInBounds_toArray]); (try simp only [List.set_cons_succ]); (try simp only [List.set_cons_zero])
        refine wpAnyH_take (i := 2) (v := ?_) rfl (by kernel_rfl) (by kernel_rfl) (by kernel_rfl) (fun _ _ _ h => h) (Or.inl ⟨by kernel_rfl, ?_⟩) hHeld ?_
        rotate_left
        · intro w' hSw
          (try dsimp only at hSw)
          (try simp only [List.getElem_toArray]); (try simp only [List.getElem_cons_succ]); (try simp only [List.getElem_cons_zero])
          go_simp
          try with_reducible rfl
        (try simp only [Act.put]); (try simp only [List.getElem_toArray]); (try simp only [List.getElem_cons_succ]); (try simp only [List.getElem_cons_zero]); (try simp only [List.setIfInBounds_toArray]); (try simp only [List.set_cons_succ]); (try simp only [List.set_cons_zero])
        refine wpAnyH_take (i := 3) (v := ?_) rfl (by kernel_rfl) (by kernel_rfl) (by kernel_rfl) (fun _ _ _ h => h) (Or.inl ⟨by kernel_rfl, ?_⟩) hHeld ?_
        rotate_left
        · intro w' hSw
          (try dsimp only at hSw)
          (try simp only [List.getElem_toArray]); (try simp only [List.getElem_cons_succ]); (try simp only [List.getElem_cons_zero])
          go_simp
          try with_reducible rfl
        (try simp only [Act.put]); (try simp only [List.getElem_toArray]); (try simp only [List.getElem_cons_succ]); (try simp only [List.getElem_cons_zero]); (try simp only [List.setIfInBounds_toArray]); (try simp only [List.set_cons_succ]); (try simp only [List.set_cons_zero])
        refine wpAnyH_take (i := 5) (v := ?_) rfl (by kernel_rfl) (by kernel_rfl) (by kernel_rfl) (fun _ _ _ h => h) (Or.inl ⟨by kernel_rfl, ?_⟩) hHeld ?_
        rotate_left
        · intro w' hSw
          (try dsimp only at hSw)
          (try simp only [List.getElem_toArray]); (try simp only [List.getElem_cons_succ]); (try simp only [List.getElem_cons_zero])
          go_simp
          try with_reducible rfl
        (try simp only [Act.put]); (try simp only [List.getElem_toArray]); (try simp only [List.getElem_cons_succ]); (try simp only [List.getElem_cons_zero]); (try simp only [List.setIfInBounds_toArray]); (try simp only [List.set_cons_succ]); (try simp only [List.set_cons_zero])
        refine wpAnyH_take (i := 6) (v := ?_) rfl (by kernel_rfl) (by kernel_rfl) (by kernel_rfl) (fun _ _ _ h => h) (Or.inl ⟨by kernel_rfl, ?_⟩) hHeld ?_
        rotate_left
        · intro w' hSw
          (try dsimp only at hSw)
          (try simp only [List.getElem_toArray]); (try simp only [List.getElem_cons_succ]); (try simp only [List.getElem_cons_zero])
          go_simp
          try with_reducible rfl
        (try simp only [Act.put]); (try simp only [List.getElem_toArray]); (try simp only [List.getElem_cons_succ]); (try simp only [List.getElem_cons_zero]); (try simp only [List.setIfInBounds_toArray]); (try simp only [List.set_cons_succ]); (try simp only [List.set_cons_zero])
        refine wpAnyH_take (i := 7) (v := ?_) rfl (by kernel_rfl) (by kernel_rfl) (by kernel_rfl) (fun _ _ _ h => h) (Or.inl ⟨by kernel_rfl, ?_⟩) hHeld ?_
        rotate_left
        · intro w' hSw
          (try dsimp only at hSw)
          (try simp only [List.getElem_toArray]); (try simp only [List.getElem_cons_succ]); (try simp only [List.getElem_cons_zero])
          go_simp
          try with_reducible rfl
        (try simp only [Act.put]); (try simp only [List.getElem_toArray]); (try simp only [List.getElem_cons_succ]); (try simp only [List.getElem_cons_zero]); (try simp only [List.setIfInBounds_toArray]); (try simp only [List.set_cons_succ]); (try simp only [List.set_cons_zero])
        clear c0
        generalize wn.drew = w5 at *
        refine wpAnyH_ready (rs := [4, 8]) (by kernel_rfl) (by simp) ?_
        refine AllReadyH.cons rfl (fun K hK => ?_) (AllReadyH.cons rfl (fun K hK => ?_) AllReadyH.nil)
        · have x4 : w5.cell? ⟨bO, 1, none⟩ = some (.slice aL L.length cL) := RO.out.cell 1
          have c4 : w5.cell? ⟨bC, 0, none⟩ = some (.int .u64 x.fClient) := RC.out.cell 0
          (try simp only [List.getElem_toArray]); (try simp only [List.getElem_cons_succ]); (try simp only [List.getElem_cons_zero])
          go_simp
          clear x4
          refine hK.out _ _ (c4) (fun hHeld => ?_)
          clear hK K
          (try simp only [Act.put]); (try simp only [List.getElem_toArray]); (try simp only [List.getElem_cons_succ]); (try simp only [List.getElem_cons_zero]); (try simp only [List.setIfInBounds_toArray]); (try simp only [List.set_cons_succ]); (try simp only [List.set_cons_zero])
          clear c4
          refine wpAnyH_ready (rs := [8]) (by kernel_rfl) (by simp) ?_
          refine AllReadyH.cons rfl (fun K hK => ?_) AllReadyH.nil
          (try simp only [List.getElem_toArray]); (try simp only [List.getElem_cons_succ]); (try simp only [List.getElem_cons_zero])
          go_simp
          have kA : Keep Nix w5 (w5.alloc (.cells #[.int .u64 x.fClient, .int .u64 0, .slice none 0 0] 89)) := (Keep.refl Nix w5).alloc (.cells #[.int .u64 x.fClient, .int .u64 0, .slice none 0 0] 89)
          have rowCA := RC.out.keep kA id
          have rowOA := RO.out.keep kA id
          have cA : (w5.alloc (.cells #[.int .u64 x.fClient, .int .u64 0, .slice none 0 0] 89)).cell? ⟨bC, 0, none⟩ = some (.int .u64 x.fClient) := rowCA.cell 0
          refine hK.out _ _ (cA) (fun hHeld => ?_)
          clear hK K
          (try simp only [Act.put]); (try simp only [List.getElem_toArray]); (try simp only [List.getElem_cons_succ]); (try simp only [List.getElem_cons_zero]); (try simp only [List.setIfInBounds_toArray]); (try simp only [List.set_cons_succ]); (try simp only [List.set_cons_zero])
          clear cA
          refine wpAnyH_ready (rs := [9]) (by kernel_rfl) (by simp) ?_
          refine AllReadyH.cons rfl (fun K hK => ?_) AllReadyH.nil
          have own := HO.out.own
          refine step_append1 T_lClient (by rfl) (.tmp 88) (.tmp 92) (by rfl) 0 (by rfl) own (by rfl) rfl (by simp [Value.oneCell']) (by unfold maxLen; omega) (by omega) (Nat.zero_le _) ?_
          intro aL' cN w6 own6 k6 hfresh
          have hbO : bO < w5.heap.size := HO.out.lt bO HO.out.oO
          have rowO6 := RO.out.keep k6 HO.out.ne
          have rowC6 := RC.out.keep k6 (fun h => HCN.out bC HSC.out (Nat.le_refl _) (HO.out.oL bC h))
          have c4 : w6.cell? ⟨bC, 0, none⟩ = some (.int .u64 x.fClient) := rowC6.cell 0
          clear own kA rowCA rowOA
          refine hK.out _ _ (c4) (fun hHeld => ?_)
          clear hK K
          (try simp only [Act.put]); (try simp only [List.getElem_toArray]); (try simp only [List.getElem_cons_succ]); (try simp only [List.getElem_cons_zero]); (try simp only [List.setIfInBounds_toArray]); (try simp only [List.set_cons_succ]); (try simp only [List.set_cons_zero])
          refine wpAnyH_take (i := 10) (v := ?_) rfl (by kernel_rfl) (by kernel_rfl) (by kernel_rfl) (fun _ _ _ h => h) (Or.inl ⟨by kernel_rfl, ?_⟩) hHeld ?_
          rotate_left
          · intro w' hSw
            (try dsimp only at hSw)
            (try simp only [List.getElem_toArray]); (try simp only [List.getElem_cons_succ]); (try simp only [List.getElem_cons_zero])
            go_simp
            try with_reducible rfl
          (try simp only [Act.put]); (try simp only [List.getElem_toArray]); (try simp only [List.getElem_cons_succ]); (try simp only [List.getElem_cons_zero]); (try simp only [List.setIfInBounds_toArray]); (try simp only [List.set_cons_succ]); (try simp only [List.set_cons_zero])
          refine wpAnyH_take (i := 11) (v := ?_) rfl (by kernel_rfl) (by kernel_rfl) (by kernel_rfl) (fun _ _ _ h => h) (Or.inl ⟨by kernel_rfl, ?_⟩) hHeld ?_
          rotate_left
          · intro w' hSw
            (try dsimp only at hSw)
            (try simp only [List.getElem_toArray]); (try simp only [List.getElem_cons_succ]); (try simp only [List.getElem_cons_zero])
            go_simp
            try with_reducible rfl
          (try simp only [Act.put]); (try simp only [List.getElem_toArray]); (try simp only [List.getElem_cons_succ]); (try simp only [List.getElem_cons_zero]); (try simp only [List.setIfInBounds_toArray]); (try simp only [List.set_cons_succ]); (try simp only [List.set_cons_zero])
          refine wpAnyH_ready (rs := [12]) (by kernel_rfl) (by simp) ?_
          refine AllReadyH.cons rfl (fun K hK => ?_) AllReadyH.nil
          have x4 : w6.cell? ⟨bO, 1, none⟩ = some (.slice aL L.length cL) := rowO6.cell 1
          have f4 := rowO6.frozen 1
          (try simp only [List.getElem_toArray]); (try simp only [List.getElem_cons_succ]); (try simp only [List.getElem_cons_zero])
          go_simp
          clear x4 f4 c4
          have k7 : Keep (· = bO) w6 (w6.setCell ⟨bO, 1, none⟩ (.slice aL' (L.length + 1) cN)) := (Keep.refl (· = bO) w6).setCell (p := ⟨bO, 1, none⟩) (fun _ => rfl) _
          have rowO7 := rowO6.set 1 (.slice aL' (L.length + 1) cN)
          simp only [List.set_cons_succ, List.set_cons_zero] at rowO7
          have hCO : bC ≠ bO := fun e => HCN.out bC HSC.out (Nat.le_refl _) (e ▸ HO.out.oO)
          have rowC7 := rowC6.keep k7 hCO
          have hOf : ∀ i, OwnB (.slice aL' (L.length + 1) cN) i → OwnB (.slice aL L.length cL) i ∨ w5.heap.size ≤ i := hfresh
          have own7 := owned_keep own6 k7 (fun i hi e => by subst e; exact (hOf _ hi).elim HO.out.ne (fun h => by omega))
          have ownT7 := owned_keep (owned_keep OWT.out k6 (fun i hi h => HO.out.ng i (HGT.out ▸ hi) h)) k7 (fun i hi e => HO.out.tape.ne (by subst e; exact HGT.out ▸ hi))
          have els7 := ((HO.out.els.keep rEnt_lawful k6 (fun i hi h => hi.2.2.2 h)).keep rEnt_lawful k7 (fun i hi e => hi.2.1 e))
          have lies7 := (HDr.out.keep k6 (fun i hi h => HCN.out i hi.1 (Nat.le_of_lt hi.2) (HO.out.oL i h))).keep k7 (fun i hi e => HCN.out i hi.1 (Nat.le_of_lt hi.2) (e ▸ HO.out.oO))
          have KK7 := Lib.hid ((HKK.out.nix (S := Q)).then (k6.mono (fun i h => (HO.out.oL i h : Q i))) (fun i hi h => h) |>.then k7 (fun i hi e => (e ▸ HO.out.oO : Q i)))
          have hs7 : w5.heap.size ≤ w6.heap.size ∧ w6.heap.size ≤ (w6.setCell ⟨bO, 1, none⟩ (.slice aL' (L.length + 1) cN)).heap.size := ⟨k6.size, k7.size⟩
          clear rowO6 rowC6 own6 k6 k7 hfresh
          generalize w6.setCell ⟨bO, 1, none⟩ (.slice aL' (L.length + 1) cN) = w7 at *
          have c4 : w7.cell? ⟨bC, 0, none⟩ = some (.int .u64 x.fClient) := rowC7.cell 0
          refine hK.out _ _ (c4) (fun hHeld => ?_)
          clear hK K
          (try simp only [Act.put]); (try simp only [List.getElem_toArray]); (try simp only [List.getElem_cons_succ]); (try simp only [List.getElem_cons_zero]); (try simp only [List.setIfInBounds_toArray]); (try simp only [List.set_cons_succ]); (try simp only [List.set_cons_zero])
          refine wpAnyH_done (by kernel_rfl) ?_ _
          clear c4 hHeld
          obtain ⟨b, rst, hL', -⟩ := own_row own7 (by omega)
          have hbC : bC < w5.heap.size := RC.out.lt
          have hw5 : w.heap.size ≤ w5.heap.size := HKK.out.size
          obtain ⟨Q2, hQ2⟩ : ∃ Q2 : Nat → Prop, Q2 = fun i => Q i ∨ (w5.heap.size ≤ i ∧ i < w7.heap.size) := ⟨_, rfl⟩
          obtain ⟨L1, hL1⟩ : ∃ L1 : List Ent, L1 = L ++ [(x.fClient, 0, [])] := ⟨_, rfl⟩
          obtain ⟨css1, hcss1⟩ : ∃ css1 : List (List Value), css1 = css ++ [[.int .u64 x.fClient, .int .u64 0, .slice none 0 0]] := ⟨_, rfl⟩
          have hl1 : L1.length = L.length + 1 := by rw [hL1]; simp
          have hec : css.length = L.length := HO.out.els.1
          have hcx : css1[k]? = some [.int .u64 x.fClient, .int .u64 0, .slice none 0 0] := by rw [hcss1, HKL.out, ← hec]; simp
          have hfl : css.flatten ++ [.int .u64 x.fClient, .int .u64 0, .slice none 0 0] = css1.flatten := by rw [hcss1]; simp
          have hown1 : w7.ownsRow 0 89 3 (.slice aL' L1.length cN) L1.length css1.flatten := by rw [hl1, ← hfl]; exact own7
          have hHO : OnceAt w7 Q2 bO g tp L1 aL' cN css1 := by
            rw [← hl1] at rowO7 hOf
            refine ⟨⟨⟨aT, cT, rowO7, ownT7, HGT.out⟩, HO.out.tape.ne, fun i hi => by have := HO.out.tape.glt i hi; omega⟩, hown1, ?_, ?_, ?_, ?_, ?_, ?_, ?_⟩
            · rw [hL1, hcss1]
              refine (els7.mono rEnt_lawful (fun i hi => ⟨by rw [hQ2]; exact .inl hi.1, hi.2.1, hi.2.2.1, fun h => ?_⟩)).snoc ⟨none, 0, rfl, Lies.nil _ _ _, Nat.zero_le _, HS.out.1, ⟨(by decide : (0 : Int) ≤ 0), (by decide : (0 : Int) ≤ 18446744073709551615)⟩⟩
              exact (hOf i (hL1 ▸ h)).elim hi.2.2.2 (fun h => by have := HO.out.lt i hi.1; omega)
            · exact fun h => (hOf bO h).elim HO.out.ne (fun h => by omega)
            · exact fun i hi h => (hOf i h).elim (HO.out.ng i hi) (fun h => by have := HO.out.tape.glt i hi; omega)
            · intro i hi; rw [hQ2] at hi; exact hi.elim (fun h => by have := HO.out.lt i h; omega) (fun h => h.2)
            · rw [hQ2]; exact .inl HO.out.oO
            · intro i hi; rw [hQ2]; exact .inl (HO.out.oG i hi)
            · intro i hi; rw [hQ2]; exact (hOf i hi).elim (fun h => .inl (HO.out.oL i h)) (fun h => .inr ⟨h, (hown1.lt i hi).2⟩)
          have HCN : Hid (∀ i, w.heap.size ≤ i → i ≤ bC → ¬ Q2 i) := by show ∀ i, _; rw [hQ2]; exact fun i h1 h2 h => h.elim (HCN.out i h1 h2) (fun h => by omega)
          have HQ2 : Hid (∀ i, Q2 i → Q i ∨ w.heap.size ≤ i) := by show ∀ i, _; rw [hQ2]; exact fun i h => h.imp id (fun h => by omega)
          have HE : Hid (onceK tp L x k0 = (tp ++ [x.fData], L1.set k (x.fClient, x.fSeq, answer (tp.length + 1) x.fData), answer (tp.length + 1) x.fData)) := by rw [hL1]; exact HE
          have x1 : w7.cell? ⟨bO, 1, none⟩ = some (.slice (some ⟨b, 0, none⟩) L1.length cN) := by rw [hl1, ← hL']; exact rowO7.cell 1
          have HO := Lib.hid hHO
          have RC := Lib.hid rowC7
          have HKK := KK7
          have HDr := Lib.hid lies7
          have HYC : Hid (x.fClient = x.fClient) := rfl
          have hi2 : (k : Int) < (L1.length : Int) := by omega
          have hl1p : 0 < L1.length := by omega
          have HL1 := Lib.hid hl1
          have hi0 : (0 : Int) ≤ (k : Int) := by omega
          clear hHO rowC7 rowO7 lies7 els7 own7 ownT7 hOf hown1 hfl hQ2 hL1 hcss1 hCO hl1 hec
          obtain ⟨bb, rest, e2, -, rowL, hlen, hxl, hnc, hcm⟩ := own_row HO.out.own (by omega)
          rw [hL'] at e2
          cases e2
          have RL := Lib.hid rowL
          have HLN := Lib.hid (And.intro hlen (And.intro hxl (And.intro hnc hcm)))
          have H3 := Lib.hid HO.out.len3
          have HCX := Lib.hid hcx
          have hD := HDr.out
          clear rowL hlen hxl hnc hcm hcx
          go_wp2_with fail
          have kd : Keep Nix w7 w7.drew := Keep.drew (Keep.refl Nix w7)
          have HO := Lib.hid (HO.out.nix kd)
          have RC := Lib.hid (RC.out.keep kd id)
          have RL := Lib.hid (RL.out.keep kd id)
          have HKK := Lib.hid (HKK.out.trans kd.nix)
          have hD := hD.keep kd (fun _ _ => id)
          have hT : IsTapeG w7.drew bO 51 [.slice (some ⟨b, 0, none⟩) L1.length cN] g tp := by have h := HO.out.tape; rw [hL'] at h; exact h
          have x1 : w7.drew.cell? ⟨bO, 1, none⟩ = some (.slice (some ⟨b, 0, none⟩) L1.length cN) := x1
          have c1 : w7.drew.cell? ⟨bC, 1, none⟩ = some (.int .u64 x.fSeq) := RC.out.cell 1
          have c2 : w7.drew.cell? ⟨bC, 2, none⟩ = some (.slice aX x.fData.length cX) := RC.out.cell 2
          clear kd
          refine wp_region_held_drew (S := (fun w' => w'.cell? ⟨bO, 1, none⟩ = some (.slice (some ⟨b, 0, none⟩) L1.length cN) ∧ w'.cell? ⟨bC, 1, none⟩ = some (.int .u64 x.fSeq) ∧ w'.cell? ⟨bC, 2, none⟩ = some (.slice aX x.fData.length cX))) (by kernel_rfl) (⟨x1, c1, c2⟩) (fun hHeld => ?_)
          refine wpAnyH_take (i := 0) (v := ?_) rfl (by kernel_rfl) (by kernel_rfl) (by kernel_rfl) (fun _ _ _ h => h) (Or.inl ⟨by kernel_rfl, ?_⟩) hHeld ?_
          rotate_left
          · intro w' hSw
            (try dsimp only at hSw)
            (try simp only [List.getElem_toArray]); (try simp only [List.getElem_cons_succ]); (try simp only [List.getElem_cons_zero])
            go_simp
            try with_reducible rfl
          (try simp only [Act.put]); (try simp only [List.getElem_toArray]); (try simp only [List.getElem_cons_succ]); (try simp only [List.getElem_cons_zero]); (try simp only [List.setIfInBounds_toArray]); (try simp only [List.set_cons_succ]); (try simp only [List.set_cons_zero])
          refine wpAnyH_take (i := 1) (v := ?_) rfl (by kernel_rfl) (by kernel_rfl) (by kernel_rfl) (fun _ _ _ h => h) (Or.inl ⟨by kernel_rfl, ?_⟩) hHeld ?_
          rotate_left
          · intro w' hSw
            (try dsimp only at hSw)
            (try simp only [List.getElem_toArray]); (try simp only [List.getElem_cons_succ]); (try simp only [List.getElem_cons_zero])
            go_simp
            try with_reducible rfl
          (try simp only [Act.put]); (try simp only [List.getElem_toArray]); (try simp only [List.getElem_cons_succ]); (try simp only [List.getElem_cons_zero]); (try simp only [List.setIfInBounds_toArray]); (try simp only [List.set_cons_succ]); (try simp only [List.set_cons_zero])
          refine wpAnyH_take (i := 2) (v := ?_) rfl (by kernel_rfl) (by kernel_rfl) (by kernel_rfl) (fun _ _ _ h => h) (Or.inl ⟨by kernel_rfl, ?_⟩) hHeld ?_
          rotate_left
          · intro w' hSw
            (try dsimp only at hSw)
            (try simp only [List.getElem_toArray]); (try simp only [List.getElem_cons_succ]); (try simp only [List.getElem_cons_zero])
            go_simp
            try with_reducible rfl
          (try simp only [Act.put]); (try simp only [List.getElem_toArray]); (try simp only [List.getElem_cons_succ]); (try simp only [List.getElem_cons_zero]); (try simp only [List.setIfInBounds_toArray]); (try simp only [List.set_cons_succ]); (try simp only [List.set_cons_zero])
          refine wpAnyH_take (i := 3) (v := ?_) rfl (by kernel_rfl) (by kernel_rfl) (by kernel_rfl) (fun _ _ _ h => h) (Or.inl ⟨by kernel_rfl, ?_⟩) hHeld ?_
          rotate_left
          · intro w' hSw
            (try dsimp only at hSw)
            (try simp only [List.getElem_toArray]); (try simp only [List.getElem_cons_succ]); (try simp only [List.getElem_cons_zero])
            go_simp
            try with_reducible rfl
          (try simp only [Act.put]); (try simp only [List.getElem_toArray]); (try simp only [List.getElem_cons_succ]); (try simp only [List.getElem_cons_zero]); (try simp only [List.setIfInBounds_toArray]); (try simp only [List.set_cons_succ]); (try simp only [List.set_cons_zero])
          refine wpAnyH_take (i := 4) (v := ?_) rfl (by kernel_rfl) (by kernel_rfl) (by kernel_rfl) (fun _ _ _ h => h) (Or.inl ⟨by kernel_rfl, ?_⟩) hHeld ?_
          rotate_left
          · intro w' hSw
            (try dsimp only at hSw)
            (try simp only [List.getElem_toArray]); (try simp only [List.getElem_cons_succ]); (try simp only [List.getElem_cons_zero])
            go_simp
            try with_reducible rfl
          (try simp only [Act.put]); (try simp only [List.getElem_toArray]); (try simp only [List.getElem_cons_succ]); (try simp only [List.getElem_cons_zero]); (try simp only [List.setIfInBounds_toArray]); (try simp only [List.set_cons_succ]); (try simp only [List.set_cons_zero])
          refine wpAnyH_take (i := 5) (v := ?_) rfl (by kernel_rfl) (by kernel_rfl) (by kernel_rfl) (fun _ _ _ h => h) (Or.inl ⟨by kernel_rfl, ?_⟩) hHeld ?_
          rotate_left
          · intro w' hSw
            (try dsimp only at hSw)
            (try simp only [List.getElem_toArray]); (try simp only [List.getElem_cons_succ]); (try simp only [List.getElem_cons_zero])
            go_simp
            try with_reducible rfl
          (try simp only [Act.put]); (try simp only [List.getElem_toArray]); (try simp only [List.getElem_cons_succ]); (try simp only [List.getElem_cons_zero]); (try simp only [List.setIfInBounds_toArray]); (try simp only [List.set_cons_succ]); (try simp only [List.set_cons_zero])
          refine wpAnyH_take (i := 6) (v := ?_) rfl (by kernel_rfl) (by kernel_rfl) (by kernel_rfl) (fun _ _ _ h => h) (Or.inl ⟨by kernel_rfl, ?_⟩) hHeld ?_
          rotate_left
          · intro w' hSw
            (try dsimp only at hSw)
            (try simp only [List.getElem_toArray]); (try simp only [List.getElem_cons_succ]); (try simp only [List.getElem_cons_zero])
            go_simp
            try with_reducible rfl
          (try simp only [Act.put]); (try simp only [List.getElem_toArray]); (try simp only [List.getElem_cons_succ]); (try simp only [List.getElem_cons_zero]); (try simp only [List.setIfInBounds_toArray]); (try simp only [List.set_cons_succ]); (try simp only [List.set_cons_zero])
          refine wpAnyH_take (i := 7) (v := ?_) rfl (by kernel_rfl) (by kernel_rfl) (by kernel_rfl) (fun _ _ _ h => h) (Or.inl ⟨by kernel_rfl, ?_⟩) hHeld ?_
          rotate_left
          · intro w' hSw
            (try dsimp only at hSw)
            (try simp only [List.getElem_toArray]); (try simp only [List.getElem_cons_succ]); (try simp only [List.getElem_cons_zero])
            go_simp
            try with_reducible rfl
          (try simp only [Act.put]); (try simp only [List.getElem_toArray]); (try simp only [List.getElem_cons_succ]); (try simp only [List.getElem_cons_zero]); (try simp only [List.setIfInBounds_toArray]); (try simp only [List.set_cons_succ]); (try simp only [List.set_cons_zero])
          refine wpAnyH_take (i := 8) (v := ?_) rfl (by kernel_rfl) (by kernel_rfl) (by kernel_rfl) (fun _ _ _ h => h) (Or.inl ⟨by kernel_rfl, ?_⟩) hHeld ?_
          rotate_left
          · intro w' hSw
            (try dsimp only at hSw)
            (try simp only [List.getElem_toArray]); (try simp only [List.getElem_cons_succ]); (try simp only [List.getElem_cons_zero])
            go_simp
            try with_reducible rfl
          (try simp only [Act.put]); (try simp only [List.getElem_toArray]); (try simp only [List.getElem_cons_succ]); (try simp only [List.getElem_cons_zero]); (try simp only [List.setIfInBounds_toArray]); (try simp only [List.set_cons_succ]); (try simp only [List.set_cons_zero])
          refine wpAnyH_take (i := 9) (v := ?_) rfl (by kernel_rfl) (by kernel_rfl) (by kernel_rfl) (fun _ _ _ h => h) (Or.inl ⟨by kernel_rfl, ?_⟩) hHeld ?_
          rotate_left
          · intro w' hSw
            (try dsimp only at hSw)
            (try simp only [List.getElem_toArray]); (try simp only [List.getElem_cons_succ]); (try simp only [List.getElem_cons_zero])
            go_simp
            try with_reducible rfl
          (try simp only [Act.put]); (try simp only [List.getElem_toArray]); (try simp only [List.getElem_cons_succ]); (try simp only [List.getElem_cons_zero]); (try simp only [List.setIfInBounds_toArray]); (try simp only [List.set_cons_succ]); (try simp only [List.set_cons_zero])
          refine wpAnyH_take (i := 10) (v := ?_) rfl (by kernel_rfl) (by kernel_rfl) (by kernel_rfl) (fun _ _ _ h => h) (Or.inl ⟨by kernel_rfl, ?_⟩) hHeld ?_
          rotate_left
          · intro w' hSw
            (try dsimp only at hSw)
            (try simp only [List.getElem_toArray]); (try simp only [List.getElem_cons_succ]); (try simp only [List.getElem_cons_zero])
            go_simp
            try with_reducible rfl
          (try simp only [Act.put]); (try simp only [List.getElem_toArray]); (try simp only [List.getElem_cons_succ]); (try simp only [List.getElem_cons_zero]); (try simp only [List.setIfInBounds_toArray]); (try simp only [List.set_cons_succ]); (try simp only [List.set_cons_zero])
          refine wpAnyH_take (i := 11) (v := ?_) rfl (by kernel_rfl) (by kernel_rfl) (by kernel_rfl) (fun _ _ _ h => h) (Or.inl ⟨by kernel_rfl, ?_⟩) hHeld ?_
          rotate_left
          · intro w' hSw
            (try dsimp only at hSw)
            (try simp only [List.getElem_toArray]); (try simp only [List.getElem_cons_succ]); (try simp only [List.getElem_cons_zero])
            go_simp
            try with_reducible rfl
          (try simp only [Act.put]); (try simp only [List.getElem_toArray]); (try simp only [List.getElem_cons_succ]); (try simp only [List.getElem_cons_zero]); (try simp only [List.setIfInBounds_toArray]); (try simp only [List.set_cons_succ]); (try simp only [List.set_cons_zero])
          refine wpAnyH_take (i := 12) (v := ?_) rfl (by kernel_rfl) (by kernel_rfl) (by kernel_rfl) (fun _ _ _ h => h) (Or.inl ⟨by kernel_rfl, ?_⟩) hHeld ?_
          rotate_left
          · intro w' hSw
            (try dsimp only at hSw)
            (try simp only [List.getElem_toArray]); (try simp only [List.getElem_cons_succ]); (try simp only [List.getElem_cons_zero])
            go_simp
            try with_reducible rfl
          (try simp only [Act.put]); (try simp only [List.getElem_toArray]); (try simp only [List.getElem_cons_succ]); (try simp only [List.getElem_cons_zero]); (try simp only [List.setIfInBounds_toArray]); (try simp only [List.set_cons_succ]); (try simp only [List.set_cons_zero])
          refine wpAnyH_take (i := 13) (v := ?_) rfl (by kernel_rfl) (by kernel_rfl) (by kernel_rfl) (fun _ _ _ h => h) (Or.inl ⟨by kernel_rfl, ?_⟩) hHeld ?_
          rotate_left
          · intro w' hSw
            (try dsimp only at hSw)
            (try simp only [List.getElem_toArray]); (try simp only [List.getElem_cons_succ]); (try simp only [List.getElem_cons_zero])
            go_simp
            try with_reducible rfl
          (try simp only [Act.put]); (try simp only [List.getElem_toArray]); (try simp only [List.getElem_cons_succ]); (try simp only [List.getElem_cons_zero]); (try simp only [List.setIfInBounds_toArray]); (try simp only [List.set_cons_succ]); (try simp only [List.set_cons_zero])
          refine wpAnyH_take (i := 14) (v := ?_) rfl (by kernel_rfl) (by kernel_rfl) (by kernel_rfl) (fun _ _ _ h => h) (Or.inl ⟨by kernel_rfl, ?_⟩) hHeld ?_
          rotate_left
          · intro w' hSw
            (try dsimp only at hSw)
            (try simp only [List.getElem_toArray]); (try simp only [List.getElem_cons_succ]); (try simp only [List.getElem_cons_zero])
            go_simp
            try with_reducible rfl
          (try simp only [Act.put]); (try simp only [List.getElem_toArray]); (try simp only [List.getElem_cons_succ]); (try simp only [List.getElem_cons_zero]); (try simp only [List.setIfInBounds_toArray]); (try simp only [List.set_cons_succ]); (try simp only [List.set_cons_zero])
          refine wpAnyH_take (i := 15) (v := ?_) rfl (by kernel_rfl) (by kernel_rfl) (by kernel_rfl) (fun _ _ _ h => h) (Or.inl ⟨by kernel_rfl, ?_⟩) hHeld ?_
          rotate_left
          · intro w' hSw
            (try dsimp only at hSw)
            (try simp only [List.getElem_toArray]); (try simp only [List.getElem_cons_succ]); (try simp only [List.getElem_cons_zero])
            go_simp
            try with_reducible rfl
          (try simp only [Act.put]); (try simp only [List.getElem_toArray]); (try simp only [List.getElem_cons_succ]); (try simp only [List.getElem_cons_zero]); (try simp only [List.setIfInBounds_toArray]); (try simp only [List.set_cons_succ]); (try simp only [List.set_cons_zero])
          refine wpAnyH_take (i := 16) (v := ?_) rfl (by kernel_rfl) (by kernel_rfl) (by kernel_rfl) (fun _ _ _ h => h) (Or.inl ⟨by kernel_rfl, ?_⟩) hHeld ?_
          rotate_left
          · intro w' hSw
            (try dsimp only at hSw)
            (try simp only [List.getElem_toArray]); (try simp only [List.getElem_cons_succ]); (try simp only [List.getElem_cons_zero])
            go_simp
            try with_reducible rfl
          (try simp only [Act.put]); (try simp only [List.getElem_toArray]); (try simp only [List.getElem_cons_succ]); (try simp only [List.getElem_cons_zero]); (try simp only [List.setIfInBounds_toArray]); (try simp only [List.set_cons_succ]); (try simp only [List.set_cons_zero])
          clear x1 c1 c2
          generalize w7.drew = w5 at *
          refine wpAnyH_ready (rs := [17]) (by kernel_rfl) (by simp) ?_
          refine AllReadyH.cons rfl (fun K hK => ?_) AllReadyH.nil
          go_simp
          go_fit (tDoG_c bO 51 [.slice (some ⟨b, 0, none⟩) L1.length cN] g tp aX x.fData.length cX x.fData w5 rfl hD (fun i hi => ⟨fun e => HCN.out i hi.1 (Nat.le_of_lt hi.2) (e ▸ HO.out.oO), fun e => HCN.out i hi.1 (Nat.le_of_lt hi.2) (HO.out.oG i e)⟩) hT (by omega) (by omega))
          rintro e w6 ⟨a6, c6, g6, m6, rfl, hm6, own6, tpe6, hg6, k6, hfr6⟩
          have hLb : OwnB (.slice aL' L1.length cN) b := by rw [hL']; rfl
          have hQb : Q2 b := HO.out.oL b hLb
          have hQC : ¬ Q2 bC := HCN.out bC HSC.out (Nat.le_refl _)
          have hbO : b ≠ bO := fun e => HO.out.ne (e ▸ hLb)
          have hbC : bC ≠ b := fun e => hQC (e ▸ hQb)
          have hbw : b < w5.heap.size := HO.out.lt b hQb
          have hgb : g6 ≠ some b := fun e => (hfr6 b e).elim (fun e => HO.out.ng b e hLb) (fun h => by omega)
          have hb6 : ¬ (b = bO ∨ g = some b) := fun h => h.elim (fun e => HO.out.ne (e ▸ hLb)) (fun e => HO.out.ng b e hLb)
          have hC6 : ¬ (bC = bO ∨ g = some bC) := fun h => h.elim (fun e => hQC (e ▸ HO.out.oO)) (fun e => hQC (HO.out.oG bC e))
          have rowL6 := RL.out.keep k6 hb6
          have rowC6 := RC.out.keep k6 hC6
          have els6 := Lib.hid (HO.out.els.keep rEnt_lawful k6 (fun i hi h => h.elim hi.2.1 hi.2.2.1))
          have KK6 : Hid (Keep (fun i => Q2 i) w5 w6) := k6.mono (fun i h => h.elim (fun e => e ▸ HO.out.oO) (fun e => HO.out.oG i e))
          have TP6 := Lib.hid tpe6
          have OW6 := Lib.hid own6
          have HM6 := Lib.hid (And.intro hm6 (And.intro hg6 hfr6))
          have HB := Lib.hid (And.intro hLb (And.intro hQb (And.intro hQC (And.intro hbO (And.intro hbC (And.intro hbw hgb))))))
          obtain ⟨aT6, cT6, rowO6, -, -⟩ := tpe6.row
          clear hT hD k6 hb6 hC6 tpe6 own6 hm6 hg6 hfr6 hLb hQb hQC hbO hbC hbw hgb
          have x1 : w6.cell? ⟨bO, 1, none⟩ = some (.slice (some ⟨b, 0, none⟩) L1.length cN) := rowO6.cell 1
          have c1 : w6.cell? ⟨bC, 1, none⟩ = some (.int .u64 x.fSeq) := rowC6.cell 1
          have c2 : w6.cell? ⟨bC, 2, none⟩ = some (.slice aX x.fData.length cX) := rowC6.cell 2
          go_wp2_with fail
          refine hK.out _ _ (⟨x1, c1, c2⟩) (fun hHeld => ?_)
          clear hK K
          (try simp only [Act.put]); (try simp only [List.getElem_toArray]); (try simp only [List.getElem_cons_succ]); (try simp only [List.getElem_cons_zero]); (try simp only [List.setIfInBounds_toArray]); (try simp only [List.set_cons_succ]); (try simp only [List.set_cons_zero])
          refine wpAnyH_take (i := 18) (v := ?_) rfl (by kernel_rfl) (by kernel_rfl) (by kernel_rfl) (fun _ _ _ h => h) (Or.inl ⟨by kernel_rfl, ?_⟩) hHeld ?_
          rotate_left
          · intro w' hSw
            (try dsimp only at hSw)
            (try simp only [List.getElem_toArray]); (try simp only [List.getElem_cons_succ]); (try simp only [List.getElem_cons_zero])
            go_simp
            try with_reducible rfl
          (try simp only [Act.put]); (try simp only [List.getElem_toArray]); (try simp only [List.getElem_cons_succ]); (try simp only [List.getElem_cons_zero]); (try simp only [List.setIfInBounds_toArray]); (try simp only [List.set_cons_succ]); (try simp only [List.set_cons_zero])
          refine wpAnyH_take (i := 19) (v := ?_) rfl (by kernel_rfl) (by kernel_rfl) (by kernel_rfl) (fun _ _ _ h => h) (Or.inl ⟨by kernel_rfl, ?_⟩) hHeld ?_
          rotate_left
          · intro w' hSw
            (try dsimp only at hSw)
            (try simp only [List.getElem_toArray]); (try simp only [List.getElem_cons_succ]); (try simp only [List.getElem_cons_zero])
            go_simp
            try with_reducible rfl
          (try simp only [Act.put]); (try simp only [List.getElem_toArray]); (try simp only [List.getElem_cons_succ]); (try simp only [List.getElem_cons_zero]); (try simp only [List.setIfInBounds_toArray]); (try simp only [List.set_cons_succ]); (try simp only [List.set_cons_zero])
          refine wpAnyH_ready (rs := [20]) (by kernel_rfl) (by simp) ?_
          refine AllReadyH.cons rfl (fun K hK => ?_) AllReadyH.nil
          have l1 : w6.cell? ⟨b, k * 3 + 1, none⟩ = some (.int .u64 0) := cell_flat rowL6 H3.out HCX.out (j := 1) rfl
          have f1 := rowL6.frozen (k * 3 + 1)
          (try simp only [List.getElem_toArray]); (try simp only [List.getElem_cons_succ]); (try simp only [List.getElem_cons_zero])
          go_simp
          clear l1 f1 x1 c1 c2
          have k7 : Keep (· = b) w6 (w6.setCell ⟨b, k * 3 + 1, none⟩ (.int .u64 x.fSeq)) := (Keep.refl (· = b) w6).setCell (p := ⟨b, k * 3 + 1, none⟩) (fun _ => rfl) _
          have rowL7 := rowL6.set (k * 3 + 1) (.int .u64 x.fSeq)
          rw [flat_set _ k 1 _ rest _ H3.out HCX.out (by decide)] at rowL7
          have rowC7 := rowC6.keep k7 HB.out.2.2.2.2.1
          have rowO7 := rowO6.keep k7 HB.out.2.2.2.1.symm
          clear rowL6 rowC6 rowO6
          generalize w6.setCell ⟨b, k * 3 + 1, none⟩ (.int .u64 x.fSeq) = w7 at *
          have x1 : w7.cell? ⟨bO, 1, none⟩ = some (.slice (some ⟨b, 0, none⟩) L1.length cN) := rowO7.cell 1
          have c1 : w7.cell? ⟨bC, 1, none⟩ = some (.int .u64 x.fSeq) := rowC7.cell 1
          have c2 : w7.cell? ⟨bC, 2, none⟩ = some (.slice aX x.fData.length cX) := rowC7.cell 2
          refine hK.out _ _ (⟨x1, c1, c2⟩) (fun hHeld => ?_)
          clear hK K
          (try simp only [Act.put]); (try simp only [List.getElem_toArray]); (try simp only [List.getElem_cons_succ]); (try simp only [List.getElem_cons_zero]); (try simp only [List.setIfInBounds_toArray]); (try simp only [List.set_cons_succ]); (try simp only [List.set_cons_zero])
          refine wpAnyH_take (i := 21) (v := ?_) rfl (by kernel_rfl) (by kernel_rfl) (by kernel_rfl) (fun _ _ _ h => h) (Or.inl ⟨by kernel_rfl, ?_⟩) hHeld ?_
          rotate_left
          · intro w' hSw
            (try dsimp only at hSw)
            (try simp only [List.getElem_toArray]); (try simp only [List.getElem_cons_succ]); (try simp only [List.getElem_cons_zero])
            go_simp
            try with_reducible rfl
          (try simp only [Act.put]); (try simp only [List.getElem_toArray]); (try simp only [List.getElem_cons_succ]); (try simp only [List.getElem_cons_zero]); (try simp only [List.setIfInBounds_toArray]); (try simp only [List.set_cons_succ]); (try simp only [List.set_cons_zero])
          refine wpAnyH_take (i := 22) (v := ?_) rfl (by kernel_rfl) (by kernel_rfl) (by kernel_rfl) (fun _ _ _ h => h) (Or.inl ⟨by kernel_rfl, ?_⟩) hHeld ?_
          rotate_left
          · intro w' hSw
            (try dsimp only at hSw)
            (try simp only [List.getElem_toArray]); (try simp only [List.getElem_cons_succ]); (try simp only [List.getElem_cons_zero])
            go_simp
            try with_reducible rfl
          (try simp only [Act.put]); (try simp only [List.getElem_toArray]); (try simp only [List.getElem_cons_succ]); (try simp only [List.getElem_cons_zero]); (try simp only [List.setIfInBounds_toArray]); (try simp only [List.set_cons_succ]); (try simp only [List.set_cons_zero])
          refine wpAnyH_ready (rs := [23]) (by kernel_rfl) (by simp) ?_
          refine AllReadyH.cons rfl (fun K hK => ?_) AllReadyH.nil
          have l2 : w7.cell? ⟨b, k * 3 + 2, none⟩ = some (.slice none 0 0) := cell_flat rowL7 (set_len3 H3.out k rfl) (List.getElem?_set_self (List.getElem?_eq_some_iff.1 HCX.out).1) (j := 2) rfl
          have f2 := rowL7.frozen (k * 3 + 2)
          (try simp only [List.getElem_toArray]); (try simp only [List.getElem_cons_succ]); (try simp only [List.getElem_cons_zero])
          go_simp
          clear l2 f2 x1 c1 c2
          have k8 : Keep (· = b) w7 (w7.setCell ⟨b, k * 3 + 2, none⟩ (.slice a6 (x.fData.length + 2) c6)) := (Keep.refl (· = b) w7).setCell (p := ⟨b, k * 3 + 2, none⟩) (fun _ => rfl) _
          have rowL8 := rowL7.set (k * 3 + 2) (.slice a6 (x.fData.length + 2) c6)
          rw [flat_set _ k 2 _ rest _ (set_len3 H3.out k rfl) (List.getElem?_set_self (List.getElem?_eq_some_iff.1 HCX.out).1) (by decide), List.set_set] at rowL8
          have rowC8 := rowC7.keep k8 HB.out.2.2.2.2.1
          have rowO8 := rowO7.keep k8 HB.out.2.2.2.1.symm
          have k78 := Lib.hid (k7.trans k8)
          clear rowL7 rowC7 rowO7 k7 k8
          generalize w7.setCell ⟨b, k * 3 + 2, none⟩ (.slice a6 (x.fData.length + 2) c6) = w8 at *
          have x1 : w8.cell? ⟨bO, 1, none⟩ = some (.slice (some ⟨b, 0, none⟩) L1.length cN) := rowO8.cell 1
          have c1 : w8.cell? ⟨bC, 1, none⟩ = some (.int .u64 x.fSeq) := rowC8.cell 1
          have c2 : w8.cell? ⟨bC, 2, none⟩ = some (.slice aX x.fData.length cX) := rowC8.cell 2
          refine hK.out _ _ (⟨x1, c1, c2⟩) (fun hHeld => ?_)
          clear hK K
          (try simp only [Act.put]); (try simp only [List.getElem_toArray]); (try simp only [List.getElem_cons_succ]); (try simp only [List.getElem_cons_zero]); (try simp only [List.setIfInBounds_toArray]); (try simp only [List.set_cons_succ]); (try simp only [List.set_cons_zero])
          refine wpAnyH_done (by kernel_rfl) ?_ _
          have hcx9 : (css1.set k ([.int .u64 x.fClient, .int .u64 x.fSeq, .slice a6 (x.fData.length + 2) c6]))[k]? = some [.int .u64 x.fClient, .int .u64 x.fSeq, .slice a6 (x.fData.length + 2) c6] := List.getElem?_set_self (List.getElem?_eq_some_iff.1 HCX.out).1
          have rowL9 : RowIs w8 b 89 ((css1.set k ([.int .u64 x.fClient, .int .u64 x.fSeq, .slice a6 (x.fData.length + 2) c6])).flatten ++ rest) := by have h := rowL8; simp only [List.set_cons_succ, List.set_cons_zero] at h; (try rw [HYC.out] at h); exact h
          have y2 : w8.cell? ⟨b, k * 3 + 2, none⟩ = some (.slice a6 (x.fData.length + 2) c6) := cell_flat rowL9 (set_len3 H3.out k rfl) hcx9 (j := 2) rfl
          have RL9 := Lib.hid rowL9
          have hal : (answer (tp.length + 1) x.fData).length = x.fData.length + 2 := answer_len _ _
          obtain ⟨ans, hans⟩ : ∃ ans, answer (tp.length + 1) x.fData = ans := ⟨_, rfl⟩
          rw [hans] at OW6 HE hal
          have lies8 := (Lies.of_owned OW6.out).keep k78.out (fun i hi e => by have h1 : m6 ≤ i := hi.1; have := HM6.out.1; have := HB.out.2.2.2.2.2.1; omega)
          have HL8 := Lib.hid lies8
          have hlz : (ans.map bv).length = (x.fData.length + 2) * 1 := by rw [List.length_map, hal]; omega
          clear rowL8 rowL9 rowC8 rowO8 hHeld c1 c2 lies8 hcx9
          go_wp2_with (at_builtin; refine wpl_append (m := x.fData.length + 2) (c := c6) T_bytes ?hgde (.const (.slice none 0 0)) (.tmp 125) ?hoe w8.heap.size ?hse (World.ownsRow_nil w8 w8.heap.size 5 1) (ans.map bv) ?hxe ?c0e HL8.out ?c1e ?c2e ?c3e ?c4e ?_)
          case hgde => rfl
          case hoe => rfl
          (try case hse => rfl)
          (try case hxe => rfl)
          (try case c0e => exact hlz)
          case c1e => first | exact bv_one _ | exact fun u hu => bv_one ans _ (List.mem_map.2 ⟨u, hu, rfl⟩)
          case c2e => unfold maxLen; omega
          case c3e => omega
          (try case c4e => exact Nat.le_refl _)
          intro aF cF wF ownF hgF
          have kF := Lib.hid ((Keep.refl Nix w8).grown hgF (fun i hi => by cases hi))
          have OWF := Lib.hid ownF
          clear ownF hgF y2 x1
          go_wp2_with fail
          go_ret
          unfold OncePost
          rw [HE.out]
          clear HE
          have hs6 : w5.heap.size ≤ w6.heap.size := KK6.out.size
          have hs8 : w6.heap.size ≤ w8.heap.size := k78.out.size
          have hsF : w8.heap.size ≤ wF.heap.size := kF.out.size
          have hs5 : w.heap.size ≤ w5.heap.size := HKK.out.size
          have h3n := set_len3 H3.out k (c := [.int .u64 x.fClient, .int .u64 x.fSeq, .slice a6 (x.fData.length + 2) c6]) rfl
          have hfl := flat_len3 h3n
          have hfo := flat_len3 H3.out
          rw [List.length_set] at hfl
          have hec := els6.out.1
          have hlt := HO.out.lt
          have hllt : ∀ i, OwnB (.slice aL' L1.length cN) i → i < w5.heap.size := fun i hi => hlt i (HO.out.oL i hi)
          have hel : Lies wF (fun i => (Q2 i ∨ (w5.heap.size ≤ i ∧ i < w8.heap.size)) ∧ i ≠ bO ∧ g6 ≠ some i ∧ ¬ OwnB (.slice aL' L1.length cN) i) a6 (ans.map bv) := (HL8.out.keep kF.out (fun _ _ h => h)).mono (fun i hi => by
            have h1 : m6 ≤ i := hi.1
            have h2 := (OW6.out.lt i hi.2).2
            have h3 := HM6.out.1
            exact ⟨.inr ⟨by omega, by omega⟩, fun e => by have := hlt bO HO.out.oO; omega, fun e => by have := HM6.out.2.1 i e; omega, fun e => by have := hllt i e; omega⟩)
          have hels := (((els6.out.keep rEnt_lawful k78.out (fun i hi e => hi.2.2.2 (e ▸ HB.out.1))).keep rEnt_lawful kF.out (fun _ _ h => h)).mono rEnt_lawful (q := fun i => (Q2 i ∨ (w5.heap.size ≤ i ∧ i < w8.heap.size)) ∧ i ≠ bO ∧ g6 ≠ some i ∧ ¬ OwnB (.slice aL' L1.length cN) i) (fun i hi => ⟨.inl hi.1, hi.2.1, fun e => (HM6.out.2.2 i e).elim hi.2.2.1 (fun h => by have := hlt i hi.1; omega), hi.2.2.2⟩)).set k (c := [.int .u64 x.fClient, .int .u64 x.fSeq, .slice a6 (x.fData.length + 2) c6]) (x := (x.fClient, x.fSeq, ans)) ⟨a6, c6, by rw [hal], hel, by show ans.length ≤ _; omega, HS.out.1, HS.out.2⟩
          have htp := (TP6.out.keep k78.out (S := (· = b)) (fun e => HB.out.2.2.2.1 e.symm) (fun i hi e => HB.out.2.2.2.2.2.2 (e ▸ hi))).keep kF.out id (fun _ _ => id)
          have hown : wF.ownsRow 0 89 3 (.slice aL' L1.length cN) L1.length (css1.set k ([.int .u64 x.fClient, .int .u64 x.fSeq, .slice a6 (x.fData.length + 2) c6])).flatten := by
            rw [hL']
            have h1 := HLN.out.1
            rw [List.length_append] at h1
            exact row_own (RL9.out.keep kF.out id) (Nat.zero_le _) (by rw [List.length_append]; omega) (by omega) HLN.out.2.2.1 HLN.out.2.2.2
          refine ⟨aF, cF, w8.heap.size, (fun i => Q2 i ∨ (w5.heap.size ≤ i ∧ i < w8.heap.size)), g6, aL', cN, css1.set k ([.int .u64 x.fClient, .int .u64 x.fSeq, .slice a6 (x.fData.length + 2) c6]), ?_, by omega, ?_, ?_, ?_, ?_⟩
          · show _ = Ending.returned (.slice aF ans.length cF)
            rw [hal]; (try rw [Nat.zero_add]); rfl
          · have h := OWF.out
            show wF.ownsRow w8.heap.size 5 1 (.slice aF ans.length cF) ans.length (ans.map bv)
            rw [hal]; simpa using h
          · refine ⟨?_, ?_, ?_, ?_, ?_, ?_, ?_, ?_, ?_⟩
            · show IsTapeG wF bO 51 [.slice aL' (L1.set k (x.fClient, x.fSeq, ans)).length cN] g6 (tp ++ [x.fData])
              rw [List.length_set, hL']; exact htp
            · show wF.ownsRow 0 89 3 (.slice aL' (L1.set k (x.fClient, x.fSeq, ans)).length cN) (L1.set k (x.fClient, x.fSeq, ans)).length _
              rw [List.length_set]; exact hown
            · show Els rEnt wF (fun i => (Q2 i ∨ (w5.heap.size ≤ i ∧ i < w8.heap.size)) ∧ i ≠ bO ∧ g6 ≠ some i ∧ ¬ OwnB (.slice aL' (L1.set k (x.fClient, x.fSeq, ans)).length cN) i) _ (L1.set k (x.fClient, x.fSeq, ans))
              rw [List.length_set]; exact hels
            · show ¬ OwnB (.slice aL' (L1.set k (x.fClient, x.fSeq, ans)).length cN) bO
              rw [List.length_set]; exact HO.out.ne
            · show ∀ i, g6 = some i → ¬ OwnB (.slice aL' (L1.set k (x.fClient, x.fSeq, ans)).length cN) i
              rw [List.length_set]; exact fun i hi ho => (HM6.out.2.2 i hi).elim (fun h => HO.out.ng i h ho) (fun h => by have := hllt i ho; omega)
            · exact fun i hi => hi.elim (fun h => by have := hlt i h; omega) (fun h => by omega)
            · exact .inl HO.out.oO
            · exact fun i hi => (HM6.out.2.2 i hi).elim (fun h => .inl (HO.out.oG i h)) (fun h => .inr ⟨h, by have := TP6.out.glt i hi; omega⟩)
            · show ∀ i, OwnB (.slice aL' (L1.set k (x.fClient, x.fSeq, ans)).length cN) i → _
              rw [List.length_set]; exact fun i hi => .inl (HO.out.oL i hi)
          · exact ((HKK.out.then KK6.out (fun i hi h => (HQ2.out i h).elim id (fun h => by omega))).then k78.out (fun i hi e => (HQ2.out i (e ▸ HB.out.2.1)).elim id (fun h => by omega))).trans kF.out.nix
          · exact fun i hi => hi.elim (fun h => ⟨HQ2.out i h, by have := hlt i h; omega⟩) (fun h => ⟨.inr (by omega), h.2⟩)
        · (try simp only [List.getElem_toArray]); (try simp only [List.getElem_cons_succ]); (try simp only [List.getElem_cons_zero])
          go_simp
          have kA : Keep Nix w5 (w5.alloc (.cells #[.int .u64 x.fClient, .int .u64 0, .slice none 0 0] 89)) := (Keep.refl Nix w5).alloc (.cells #[.int .u64 x.fClient, .int .u64 0, .slice none 0 0] 89)
          have rowCA := RC.out.keep kA id
          have rowOA := RO.out.keep kA id
          have cA : (w5.alloc (.cells #[.int .u64 x.fClient, .int .u64 0, .slice none 0 0] 89)).cell? ⟨bC, 0, none⟩ = some (.int .u64 x.fClient) := rowCA.cell 0
          refine hK.out _ _ (cA) (fun hHeld => ?_)
          clear hK K
          (try simp only [Act.put]); (try simp only [List.getElem_toArray]); (try simp only [List.getElem_cons_succ]); (try simp only [List.getElem_cons_zero]); (try simp only [List.setIfInBounds_toArray]); (try simp only [List.set_cons_succ]); (try simp only [List.set_cons_zero])
          clear cA
          refine wpAnyH_ready (rs := [4]) (by kernel_rfl) (by simp) ?_
          refine AllReadyH.cons rfl (fun K hK => ?_) AllReadyH.nil
          have x4 : (w5.alloc (.cells #[.int .u64 x.fClient, .int .u64 0, .slice none 0 0] 89)).cell? ⟨bO, 1, none⟩ = some (.slice aL L.length cL) := rowOA.cell 1
          have c4 : (w5.alloc (.cells #[.int .u64 x.fClient, .int .u64 0, .slice none 0 0] 89)).cell? ⟨bC, 0, none⟩ = some (.int .u64 x.fClient) := rowCA.cell 0
          (try simp only [List.getElem_toArray]); (try simp only [List.getElem_cons_succ]); (try simp only [List.getElem_cons_zero])
          go_simp
          clear x4
          refine hK.out _ _ (c4) (fun hHeld => ?_)
          clear hK K
          (try simp only [Act.put]); (try simp only [List.getElem_toArray]); (try simp only [List.getElem_cons_succ]); (try simp only [List.getElem_cons_zero]); (try simp only [List.setIfInBounds_toArray]); (try simp only [List.set_cons_succ]); (try simp only [List.set_cons_zero])
          clear c4
          refine wpAnyH_ready (rs := [9]) (by kernel_rfl) (by simp) ?_
          refine AllReadyH.cons rfl (fun K hK => ?_) AllReadyH.nil
          have own := HO.out.own
          refine step_append1 T_lClient (by rfl) (.tmp 88) (.tmp 92) (by rfl) 0 (by rfl) own (by rfl) rfl (by simp [Value.oneCell']) (by unfold maxLen; omega) (by omega) (Nat.zero_le _) ?_
          intro aL' cN w6 own6 k6 hfresh
          have hbO : bO < w5.heap.size := HO.out.lt bO HO.out.oO
          have rowO6 := RO.out.keep k6 HO.out.ne
          have rowC6 := RC.out.keep k6 (fun h => HCN.out bC HSC.out (Nat.le_refl _) (HO.out.oL bC h))
          have c4 : w6.cell? ⟨bC, 0, none⟩ = some (.int .u64 x.fClient) := rowC6.cell 0
          clear own kA rowCA rowOA
          refine hK.out _ _ (c4) (fun hHeld => ?_)
          clear hK K
          (try simp only [Act.put]); (try simp only [List.getElem_toArray]); (try simp only [List.getElem_cons_succ]); (try simp only [List.getElem_cons_zero]); (try simp only [List.setIfInBounds_toArray]); (try simp only [List.set_cons_succ]); (try simp only [List.set_cons_zero])
          refine wpAnyH_take (i := 10) (v := ?_) rfl (by kernel_rfl) (by kernel_rfl) (by kernel_rfl) (fun _ _ _ h => h) (Or.inl ⟨by kernel_rfl, ?_⟩) hHeld ?_
          rotate_left
          · intro w' hSw
            (try dsimp only at hSw)
            (try simp only [List.getElem_toArray]); (try simp only [List.getElem_cons_succ]); (try simp only [List.getElem_cons_zero])
            go_simp
            try with_reducible rfl
          (try simp only [Act.put]); (try simp only [List.getElem_toArray]); (try simp only [List.getElem_cons_succ]); (try simp only [List.getElem_cons_zero]); (try simp only [List.setIfInBounds_toArray]); (try simp only [List.set_cons_succ]); (try simp only [List.set_cons_zero])
          refine wpAnyH_take (i := 11) (v := ?_) rfl (by kernel_rfl) (by kernel_rfl) (by kernel_rfl) (fun _ _ _ h => h) (Or.inl ⟨by kernel_rfl, ?_⟩) hHeld ?_
          rotate_left
          · intro w' hSw
            (try dsimp only at hSw)
            (try simp only [List.getElem_toArray]); (try simp only [List.getElem_cons_succ]); (try simp only [List.getElem_cons_zero])
            go_simp
            try with_reducible rfl
          (try simp only [Act.put]); (try simp only [List.getElem_toArray]); (try simp only [List.getElem_cons_succ]); (try simp only [List.getElem_cons_zero]); (try simp only [List.setIfInBounds_toArray]); (try simp only [List.set_cons_succ]); (try simp only [List.set_cons_zero])
          refine wpAnyH_ready (rs := [12]) (by kernel_rfl) (by simp) ?_
          refine AllReadyH.cons rfl (fun K hK => ?_) AllReadyH.nil
          have x4 : w6.cell? ⟨bO, 1, none⟩ = some (.slice aL L.length cL) := rowO6.cell 1
          have f4 := rowO6.frozen 1
          (try simp only [List.getElem_toArray]); (try simp only [List.getElem_cons_succ]); (try simp only [List.getElem_cons_zero])
          go_simp
          clear x4 f4 c4
          have k7 : Keep (· = bO) w6 (w6.setCell ⟨bO, 1, none⟩ (.slice aL' (L.length + 1) cN)) := (Keep.refl (· = bO) w6).setCell (p := ⟨bO, 1, none⟩) (fun _ => rfl) _
          have rowO7 := rowO6.set 1 (.slice aL' (L.length + 1) cN)
          simp only [List.set_cons_succ, List.set_cons_zero] at rowO7
          have hCO : bC ≠ bO := fun e => HCN.out bC HSC.out (Nat.le_refl _) (e ▸ HO.out.oO)
          have rowC7 := rowC6.keep k7 hCO
          have hOf : ∀ i, OwnB (.slice aL' (L.length + 1) cN) i → OwnB (.slice aL L.length cL) i ∨ w5.heap.size ≤ i := hfresh
          have own7 := owned_keep own6 k7 (fun i hi e => by subst e; exact (hOf _ hi).elim HO.out.ne (fun h => by omega))
          have ownT7 := owned_keep (owned_keep OWT.out k6 (fun i hi h => HO.out.ng i (HGT.out ▸ hi) h)) k7 (fun i hi e => HO.out.tape.ne (by subst e; exact HGT.out ▸ hi))
          have els7 := ((HO.out.els.keep rEnt_lawful k6 (fun i hi h => hi.2.2.2 h)).keep rEnt_lawful k7 (fun i hi e => hi.2.1 e))
          have lies7 := (HDr.out.keep k6 (fun i hi h => HCN.out i hi.1 (Nat.le_of_lt hi.2) (HO.out.oL i h))).keep k7 (fun i hi e => HCN.out i hi.1 (Nat.le_of_lt hi.2) (e ▸ HO.out.oO))
          have KK7 := Lib.hid ((HKK.out.nix (S := Q)).then (k6.mono (fun i h => (HO.out.oL i h : Q i))) (fun i hi h => h) |>.then k7 (fun i hi e => (e ▸ HO.out.oO : Q i)))
          have hs7 : w5.heap.size ≤ w6.heap.size ∧ w6.heap.size ≤ (w6.setCell ⟨bO, 1, none⟩ (.slice aL' (L.length + 1) cN)).heap.size := ⟨k6.size, k7.size⟩
          clear rowO6 rowC6 own6 k6 k7 hfresh
          generalize w6.setCell ⟨bO, 1, none⟩ (.slice aL' (L.length + 1) cN) = w7 at *
          have c4 : w7.cell? ⟨bC, 0, none⟩ = some (.int .u64 x.fClient) := rowC7.cell 0
          refine hK.out _ _ (c4) (fun hHeld => ?_)
          clear hK K
          (try simp only [Act.put]); (try simp only [List.getElem_toArray]); (try simp only [List.getElem_cons_succ]); (try simp only [List.getElem_cons_zero]); (try simp only [List.setIfInBounds_toArray]); (try simp only [List.set_cons_succ]); (try simp only [List.set_cons_zero])
          refine wpAnyH_done (by kernel_rfl) ?_ _
          clear c4 hHeld
          obtain ⟨b, rst, hL', -⟩ := own_row own7 (by omega)
          have hbC : bC < w5.heap.size := RC.out.lt
          have hw5 : w.heap.size ≤ w5.heap.size := HKK.out.size
          obtain ⟨Q2, hQ2⟩ : ∃ Q2 : Nat → Prop, Q2 = fun i => Q i ∨ (w5.heap.size ≤ i ∧ i < w7.heap.size) := ⟨_, rfl⟩
          obtain ⟨L1, hL1⟩ : ∃ L1 : List Ent, L1 = L ++ [(x.fClient, 0, [])] := ⟨_, rfl⟩
          obtain ⟨css1, hcss1⟩ : ∃ css1 : List (List Value), css1 = css ++ [[.int .u64 x.fClient, .int .u64 0, .slice none 0 0]] := ⟨_, rfl⟩
          have hl1 : L1.length = L.length + 1 := by rw [hL1]; simp
          have hec : css.length = L.length := HO.out.els.1
          have hcx : css1[k]? = some [.int .u64 x.fClient, .int .u64 0, .slice none 0 0] := by rw [hcss1, HKL.out, ← hec]; simp
          have hfl : css.flatten ++ [.int .u64 x.fClient, .int .u64 0, .slice none 0 0] = css1.flatten := by rw [hcss1]; simp
          have hown1 : w7.ownsRow 0 89 3 (.slice aL' L1.length cN) L1.length css1.flatten := by rw [hl1, ← hfl]; exact own7
          have hHO : OnceAt w7 Q2 bO g tp L1 aL' cN css1 := by
            rw [← hl1] at rowO7 hOf
            refine ⟨⟨⟨aT, cT, rowO7, ownT7, HGT.out⟩, HO.out.tape.ne, fun i hi => by have := HO.out.tape.glt i hi; omega⟩, hown1, ?_, ?_, ?_, ?_, ?_, ?_, ?_⟩
            · rw [hL1, hcss1]
              refine (els7.mono rEnt_lawful (fun i hi => ⟨by rw [hQ2]; exact .inl hi.1, hi.2.1, hi.2.2.1, fun h => ?_⟩)).snoc ⟨none, 0, rfl, Lies.nil _ _ _, Nat.zero_le _, HS.out.1, ⟨(by decide : (0 : Int) ≤ 0), (by decide : (0 : Int) ≤ 18446744073709551615)⟩⟩
              exact (hOf i (hL1 ▸ h)).elim hi.2.2.2 (fun h => by have := HO.out.lt i hi.1; omega)
            · exact fun h => (hOf bO h).elim HO.out.ne (fun h => by omega)
            · exact fun i hi h => (hOf i h).elim (HO.out.ng i hi) (fun h => by have := HO.out.tape.glt i hi; omega)
            · intro i hi; rw [hQ2] at hi; exact hi.elim (fun h => by have := HO.out.lt i h; omega) (fun h => h.2)
            · rw [hQ2]; exact .inl HO.out.oO
            · intro i hi; rw [hQ2]; exact .inl (HO.out.oG i hi)
            · intro i hi; rw [hQ2]; exact (hOf i hi).elim (fun h => .inl (HO.out.oL i h)) (fun h => .inr ⟨h, (hown1.lt i hi).2⟩)
          have HCN : Hid (∀ i, w.heap.size ≤ i → i ≤ bC → ¬ Q2 i) := by show ∀ i, _; rw [hQ2]; exact fun i h1 h2 h => h.elim (HCN.out i h1 h2) (fun h => by omega)
          have HQ2 : Hid (∀ i, Q2 i → Q i ∨ w.heap.size ≤ i) := by show ∀ i, _; rw [hQ2]; exact fun i h => h.imp id (fun h => by omega)
          have HE : Hid (onceK tp L x k0 = (tp ++ [x.fData], L1.set k (x.fClient, x.fSeq, answer (tp.length + 1) x.fData), answer (tp.length + 1) x.fData)) := by rw [hL1]; exact HE
          have x1 : w7.cell? ⟨bO, 1, none⟩ = some (.slice (some ⟨b, 0, none⟩) L1.length cN) := by rw [hl1, ← hL']; exact rowO7.cell 1
          have HO := Lib.hid hHO
          have RC := Lib.hid rowC7
          have HKK := KK7
          have HDr := Lib.hid lies7
          have HYC : Hid (x.fClient = x.fClient) := rfl
          have hi2 : (k : Int) < (L1.length : Int) := by omega
          have hl1p : 0 < L1.length := by omega
          have HL1 := Lib.hid hl1
          have hi0 : (0 : Int) ≤ (k : Int) := by omega
          clear hHO rowC7 rowO7 lies7 els7 own7 ownT7 hOf hown1 hfl hQ2 hL1 hcss1 hCO hl1 hec
          obtain ⟨bb, rest, e2, -, rowL, hlen, hxl, hnc, hcm⟩ := own_row HO.out.own (by omega)
          rw [hL'] at e2
          cases e2
          have RL := Lib.hid rowL
          have HLN := Lib.hid (And.intro hlen (And.intro hxl (And.intro hnc hcm)))
          have H3 := Lib.hid HO.out.len3
          have HCX := Lib.hid hcx
          have hD := HDr.out
          clear rowL hlen hxl hnc hcm hcx
          go_wp2_with fail
          have kd : Keep Nix w7 w7.drew := Keep.drew (Keep.refl Nix w7)
          have HO := Lib.hid (HO.out.nix kd)
          have RC := Lib.hid (RC.out.keep kd id)
          have RL := Lib.hid (RL.out.keep kd id)
          have HKK := Lib.hid (HKK.out.trans kd.nix)
          have hD := hD.keep kd (fun _ _ => id)
          have hT : IsTapeG w7.drew bO 51 [.slice (some ⟨b, 0, none⟩) L1.length cN] g tp := by have h := HO.out.tape; rw [hL'] at h; exact h
          have x1 : w7.drew.cell? ⟨bO, 1, none⟩ = some (.slice (some ⟨b, 0, none⟩) L1.length cN) := x1
          have c1 : w7.drew.cell? ⟨bC, 1, none⟩ = some (.int .u64 x.fSeq) := RC.out.cell 1
          have c2 : w7.drew.cell? ⟨bC, 2, none⟩ = some (.slice aX x.fData.length cX) := RC.out.cell 2
          clear kd
          refine wp_region_held_drew (S := (fun w' => w'.cell? ⟨bO, 1, none⟩ = some (.slice (some ⟨b, 0, none⟩) L1.length cN) ∧ w'.cell? ⟨bC, 1, none⟩ = some (.int .u64 x.fSeq) ∧ w'.cell? ⟨bC, 2, none⟩ = some (.slice aX x.fData.length cX))) (by kernel_rfl) (⟨x1, c1, c2⟩) (fun hHeld => ?_)
          refine wpAnyH_take (i := 0) (v := ?_) rfl (by kernel_rfl) (by kernel_rfl) (by kernel_rfl) (fun _ _ _ h => h) (Or.inl ⟨by kernel_rfl, ?_⟩) hHeld ?_
          rotate_left
          · intro w' hSw
            (try dsimp only at hSw)
            (try simp only [List.getElem_toArray]); (try simp only [List.getElem_cons_succ]); (try simp only [List.getElem_cons_zero])
            go_simp
            try with_reducible rfl
          (try simp only [Act.put]); (try simp only [List.getElem_toArray]); (try simp only [List.getElem_cons_succ]); (try simp only [List.getElem_cons_zero]); (try simp only [List.setIfInBounds_toArray]); (try simp only [List.set_cons_succ]); (try simp only [List.set_cons_zero])
          refine wpAnyH_take (i := 1) (v := ?_) rfl (by kernel_rfl) (by kernel_rfl) (by kernel_rfl) (fun _ _ _ h => h) (Or.inl ⟨by kernel_rfl, ?_⟩) hHeld ?_
          rotate_left
          · intro w' hSw
            (try dsimp only at hSw)
            (try simp only [List.getElem_toArray]); (try simp only [List.getElem_cons_succ]); (try simp only [List.getElem_cons_zero])
            go_simp
            try with_reducible rfl
          (try simp only [Act.put]); (try simp only [List.getElem_toArray]); (try simp only [List.getElem_cons_succ]); (try simp only [List.getElem_cons_zero]); (try simp only [List.setIfInBounds_toArray]); (try simp only [List.set_cons_succ]); (try simp only [List.set_cons_zero])
          refine wpAnyH_take (i := 2) (v := ?_) rfl (by kernel_rfl) (by kernel_rfl) (by kernel_rfl) (fun _ _ _ h => h) (Or.inl ⟨by kernel_rfl, ?_⟩) hHeld ?_
          rotate_left
          · intro w' hSw
            (try dsimp only at hSw)
            (try simp only [List.getElem_toArray]); (try simp only [List.getElem_cons_succ]); (try simp only [List.getElem_cons_zero])
            go_simp
            try with_reducible rfl
          (try simp only [Act.put]); (try simp only [List.getElem_toArray]); (try simp only [List.getElem_cons_succ]); (try simp only [List.getElem_cons_zero]); (try simp only [List.setIfInBounds_toArray]); (try simp only [List.set_cons_succ]); (try simp only [List.set_cons_zero])
          refine wpAnyH_take (i := 3) (v := ?_) rfl (by kernel_rfl) (by kernel_rfl) (by kernel_rfl) (fun _ _ _ h => h) (Or.inl ⟨by kernel_rfl, ?_⟩) hHeld ?_
          rotate_left
          · intro w' hSw
            (try dsimp only at hSw)
            (try simp only [List.getElem_toArray]); (try simp only [List.getElem_cons_succ]); (try simp only [List.getElem_cons_zero])
            go_simp
            try with_reducible rfl
          (try simp only [Act.put]); (try simp only [List.getElem_toArray]); (try simp only [List.getElem_cons_succ]); (try simp only [List.getElem_cons_zero]); (try simp only [List.setIfInBounds_toArray]); (try simp only [List.set_cons_succ]); (try simp only [List.set_cons_zero])
          refine wpAnyH_take (i := 4) (v := ?_) rfl (by kernel_rfl) (by kernel_rfl) (by kernel_rfl) (fun _ _ _ h => h) (Or.inl ⟨by kernel_rfl, ?_⟩) hHeld ?_
          rotate_left
          · intro w' hSw
            (try dsimp only at hSw)
            (try simp only [List.getElem_toArray]); (try simp only [List.getElem_cons_succ]); (try simp only [List.getElem_cons_zero])
            go_simp
            try with_reducible rfl
          (try simp only [Act.put]); (try simp only [List.getElem_toArray]); (try simp only [List.getElem_cons_succ]); (try simp only [List.getElem_cons_zero]); (try simp only [List.setIfInBounds_toArray]); (try simp only [List.set_cons_succ]); (try simp only [List.set_cons_zero])
          refine wpAnyH_take (i := 5) (v := ?_) rfl (by kernel_rfl) (by kernel_rfl) (by kernel_rfl) (fun _ _ _ h => h) (Or.inl ⟨by kernel_rfl, ?_⟩) hHeld ?_
          rotate_left
          · intro w' hSw
            (try dsimp only at hSw)
            (try simp only [List.getElem_toArray]); (try simp only [List.getElem_cons_succ]); (try simp only [List.getElem_cons_zero])
            go_simp
            try with_reducible rfl
          (try simp only [Act.put]); (try simp only [List.getElem_toArray]); (try simp only [List.getElem_cons_succ]); (try simp only [List.getElem_cons_zero]); (try simp only [List.setIfInBounds_toArray]); (try simp only [List.set_cons_succ]); (try simp only [List.set_cons_zero])
          refine wpAnyH_take (i := 6) (v := ?_) rfl (by kernel_rfl) (by kernel_rfl) (by kernel_rfl) (fun _ _ _ h => h) (Or.inl ⟨by kernel_rfl, ?_⟩) hHeld ?_
          rotate_left
          · intro w' hSw
            (try dsimp only at hSw)
            (try simp only [List.getElem_toArray]); (try simp only [List.getElem_cons_succ]); (try simp only [List.getElem_cons_zero])
            go_simp
            try with_reducible rfl
          (try simp only [Act.put]); (try simp only [List.getElem_toArray]); (try simp only [List.getElem_cons_succ]); (try simp only [List.getElem_cons_zero]); (try simp only [List.setIfInBounds_toArray]); (try simp only [List.set_cons_succ]); (try simp only [List.set_cons_zero])
          refine wpAnyH_take (i := 7) (v := ?_) rfl (by kernel_rfl) (by kernel_rfl) (by kernel_rfl) (fun _ _ _ h => h) (Or.inl ⟨by kernel_rfl, ?_⟩) hHeld ?_
          rotate_left
          · intro w' hSw
            (try dsimp only at hSw)
            (try simp only [List.getElem_toArray]); (try simp only [List.getElem_cons_succ]); (try simp only [List.getElem_cons_zero])
            go_simp
            try with_reducible rfl
          (try simp only [Act.put]); (try simp only [List.getElem_toArray]); (try simp only [List.getElem_cons_succ]); (try simp only [List.getElem_cons_zero]); (try simp only [List.setIfInBounds_toArray]); (try simp only [List.set_cons_succ]); (try simp only [List.set_cons_zero])
          refine wpAnyH_take (i := 8) (v := ?_) rfl (by kernel_rfl) (by kernel_rfl) (by kernel_rfl) (fun _ _ _ h => h) (Or.inl ⟨by kernel_rfl, ?_⟩) hHeld ?_
          rotate_left
          · intro w' hSw
            (try dsimp only at hSw)
            (try simp only [List.getElem_toArray]); (try simp only [List.getElem_cons_succ]); (try simp only [List.getElem_cons_zero])
            go_simp
            try with_reducible rfl
          (try simp only [Act.put]); (try simp only [List.getElem_toArray]); (try simp only [List.getElem_cons_succ]); (try simp only [List.getElem_cons_zero]); (try simp only [List.setIfInBounds_toArray]); (try simp only [List.set_cons_succ]); (try simp only [List.set_cons_zero])
          refine wpAnyH_take (i := 9) (v := ?_) rfl (by kernel_rfl) (by kernel_rfl) (by kernel_rfl) (fun _ _ _ h => h) (Or.inl ⟨by kernel_rfl, ?_⟩) hHeld ?_
          rotate_left
          · intro w' hSw
            (try dsimp only at hSw)
            (try simp only [List.getElem_toArray]); (try simp only [List.getElem_cons_succ]); (try simp only [List.getElem_cons_zero])
            go_simp
            try with_reducible rfl
          (try simp only [Act.put]); (try simp only [List.getElem_toArray]); (try simp only [List.getElem_cons_succ]); (try simp only [List.getElem_cons_zero]); (try simp only [List.setIfInBounds_toArray]); (try simp only [List.set_cons_succ]); (try simp only [List.set_cons_zero])
          refine wpAnyH_take (i := 10) (v := ?_) rfl (by kernel_rfl) (by kernel_rfl) (by kernel_rfl) (fun _ _ _ h => h) (Or.inl ⟨by kernel_rfl, ?_⟩) hHeld ?_
          rotate_left
          · intro w' hSw
            (try dsimp only at hSw)
            (try simp only [List.getElem_toArray]); (try simp only [List.getElem_cons_succ]); (try simp only [List.getElem_cons_zero])
            go_simp
            try with_reducible rfl
          (try simp only [Act.put]); (try simp only [List.getElem_toArray]); (try simp only [List.getElem_cons_succ]); (try simp only [List.getElem_cons_zero]); (try simp only [List.setIfInBounds_toArray]); (try simp only [List.set_cons_succ]); (try simp only [List.set_cons_zero])
          refine wpAnyH_take (i := 11) (v := ?_) rfl (by kernel_rfl) (by kernel_rfl) (by kernel_rfl) (fun _ _ _ h => h) (Or.inl ⟨by kernel_rfl, ?_⟩) hHeld ?_
          rotate_left
          · intro w' hSw
            (try dsimp only at hSw)
            (try simp only [List.getElem_toArray]); (try simp only [List.getElem_cons_succ]); (try simp only [List.getElem_cons_zero])
            go_simp
            try with_reducible rfl
          (try simp only [Act.put]); (try simp only [List.getElem_toArray]); (try simp only [List.getElem_cons_succ]); (try simp only [List.getElem_cons_zero]); (try simp only [List.setIfInBounds_toArray]); (try simp only [List.set_cons_succ]); (try simp only [List.set_cons_zero])
          refine wpAnyH_take (i := 12) (v := ?_) rfl (by kernel_rfl) (by kernel_rfl) (by kernel_rfl) (fun _ _ _ h => h) (Or.inl ⟨by kernel_rfl, ?_⟩) hHeld ?_
          rotate_left
          · intro w' hSw
            (try dsimp only at hSw)
            (try simp only [List.getElem_toArray]); (try simp only [List.getElem_cons_succ]); (try simp only [List.getElem_cons_zero])
            go_simp
            try with_reducible rfl
          (try simp only [Act.put]); (try simp only [List.getElem_toArray]); (try simp only [List.getElem_cons_succ]); (try simp only [List.getElem_cons_zero]); (try simp only [List.setIfInBounds_toArray]); (try simp only [List.set_cons_succ]); (try simp only [List.set_cons_zero])
          refine wpAnyH_take (i := 13) (v := ?_) rfl (by kernel_rfl) (by kernel_rfl) (by kernel_rfl) (fun _ _ _ h => h) (Or.inl ⟨by kernel_rfl, ?_⟩) hHeld ?_
          rotate_left
          · intro w' hSw
            (try dsimp only at hSw)
            (try simp only [List.getElem_toArray]); (try simp only [List.getElem_cons_succ]); (try simp only [List.getElem_cons_zero])
            go_simp
            try with_reducible rfl
          (try simp only [Act.put]); (try simp only [List.getElem_toArray]); (try simp only [List.getElem_cons_succ]); (try simp only [List.getElem_cons_zero]); (try simp only [List.setIfInBounds_toArray]); (try simp only [List.set_cons_succ]); (try simp only [List.set_cons_zero])
          refine wpAnyH_take (i := 14) (v := ?_) rfl (by kernel_rfl) (by kernel_rfl) (by kernel_rfl) (fun _ _ _ h => h) (Or.inl ⟨by kernel_rfl, ?_⟩) hHeld ?_
          rotate_left
          · intro w' hSw
            (try dsimp only at hSw)
            (try simp only [List.getElem_toArray]); (try simp only [List.getElem_cons_succ]); (try simp only [List.getElem_cons_zero])
            go_simp
            try with_reducible rfl
          (try simp only [Act.put]); (try simp only [List.getElem_toArray]); (try simp only [List.getElem_cons_succ]); (try simp only [List.getElem_cons_zero]); (try simp only [List.setIfInBounds_toArray]); (try simp only [List.set_cons_succ]); (try simp only [List.set_cons_zero])
          refine wpAnyH_take (i := 15) (v := ?_) rfl (by kernel_rfl) (by kernel_rfl) (by kernel_rfl) (fun _ _ _ h => h) (Or.inl ⟨by kernel_rfl, ?_⟩) hHeld ?_
          rotate_left
          · intro w' hSw
            (try dsimp only at hSw)
            (try simp only [List.getElem_toArray]); (try simp only [List.getElem_cons_succ]); (try simp only [List.getElem_cons_zero])
            go_simp
            try with_reducible rfl
          (try simp only [Act.put]); (try simp only [List.getElem_toArray]); (try simp only [List.getElem_cons_succ]); (try simp only [List.getElem_cons_zero]); (try simp only [List.setIfInBounds_toArray]); (try simp only [List.set_cons_succ]); (try simp only [List.set_cons_zero])
          refine wpAnyH_take (i := 16) (v := ?_) rfl (by kernel_rfl) (by kernel_rfl) (by kernel_rfl) (fun _ _ _ h => h) (Or.inl ⟨by kernel_rfl, ?_⟩) hHeld ?_
          rotate_left
          · intro w' hSw
            (try dsimp only at hSw)
            (try simp only [List.getElem_toArray]); (try simp only [List.getElem_cons_succ]); (try simp only [List.getElem_cons_zero])
            go_simp
            try with_reducible rfl
          (try simp only [Act.put]); (try simp only [List.getElem_toArray]); (try simp only [List.getElem_cons_succ]); (try simp only [List.getElem_cons_zero]); (try simp only [List.setIfInBounds_toArray]); (try simp only [List.set_cons_succ]); (try simp only [List.set_cons_zero])
          clear x1 c1 c2
          generalize w7.drew = w5 at *
          refine wpAnyH_ready (rs := [17]) (by kernel_rfl) (by simp) ?_
          refine AllReadyH.cons rfl (fun K hK => ?_) AllReadyH.nil
          go_simp
          go_fit (tDoG_c bO 51 [.slice (some ⟨b, 0, none⟩) L1.length cN] g tp aX x.fData.length cX x.fData w5 rfl hD (fun i hi => ⟨fun e => HCN.out i hi.1 (Nat.le_of_lt hi.2) (e ▸ HO.out.oO), fun e => HCN.out i hi.1 (Nat.le_of_lt hi.2) (HO.out.oG i e)⟩) hT (by omega) (by omega))
          rintro e w6 ⟨a6, c6, g6, m6, rfl, hm6, own6, tpe6, hg6, k6, hfr6⟩
          have hLb : OwnB (.slice aL' L1.length cN) b := by rw [hL']; rfl
          have hQb : Q2 b := HO.out.oL b hLb
          have hQC : ¬ Q2 bC := HCN.out bC HSC.out (Nat.le_refl _)
          have hbO : b ≠ bO := fun e => HO.out.ne (e ▸ hLb)
          have hbC : bC ≠ b := fun e => hQC (e ▸ hQb)
          have hbw : b < w5.heap.size := HO.out.lt b hQb
          have hgb : g6 ≠ some b := fun e => (hfr6 b e).elim (fun e => HO.out.ng b e hLb) (fun h => by omega)
          have hb6 : ¬ (b = bO ∨ g = some b) := fun h => h.elim (fun e => HO.out.ne (e ▸ hLb)) (fun e => HO.out.ng b e hLb)
          have hC6 : ¬ (bC = bO ∨ g = some bC) := fun h => h.elim (fun e => hQC (e ▸ HO.out.oO)) (fun e => hQC (HO.out.oG bC e))
          have rowL6 := RL.out.keep k6 hb6
          have rowC6 := RC.out.keep k6 hC6
          have els6 := Lib.hid (HO.out.els.keep rEnt_lawful k6 (fun i hi h => h.elim hi.2.1 hi.2.2.1))
          have KK6 : Hid (Keep (fun i => Q2 i) w5 w6) := k6.mono (fun i h => h.elim (fun e => e ▸ HO.out.oO) (fun e => HO.out.oG i e))
          have TP6 := Lib.hid tpe6
          have OW6 := Lib.hid own6
          have HM6 := Lib.hid (And.intro hm6 (And.intro hg6 hfr6))
          have HB := Lib.hid (And.intro hLb (And.intro hQb (And.intro hQC (And.intro hbO (And.intro hbC (And.intro hbw hgb))))))
          obtain ⟨aT6, cT6, rowO6, -, -⟩ := tpe6.row
          clear hT hD k6 hb6 hC6 tpe6 own6 hm6 hg6 hfr6 hLb hQb hQC hbO hbC hbw hgb
          have x1 : w6.cell? ⟨bO, 1, none⟩ = some (.slice (some ⟨b, 0, none⟩) L1.length cN) := rowO6.cell 1
          have c1 : w6.cell? ⟨bC, 1, none⟩ = some (.int .u64 x.fSeq) := rowC6.cell 1
          have c2 : w6.cell? ⟨bC, 2, none⟩ = some (.slice aX x.fData.length cX) := rowC6.cell 2
          go_wp2_with fail
          refine hK.out _ _ (⟨x1, c1, c2⟩) (fun hHeld => ?_)
          clear hK K
          (try simp only [Act.put]); (try simp only [List.getElem_toArray]); (try simp only [List.getElem_cons_succ]); (try simp only [List.getElem_cons_zero]); (try simp only [List.setIfInBounds_toArray]); (try simp only [List.set_cons_succ]); (try simp only [List.set_cons_zero])
          refine wpAnyH_take (i := 18) (v := ?_) rfl (by kernel_rfl) (by kernel_rfl) (by kernel_rfl) (fun _ _ _ h => h) (Or.inl ⟨by kernel_rfl, ?_⟩) hHeld ?_
          rotate_left
          · intro w' hSw
            (try dsimp only at hSw)
            (try simp only [List.getElem_toArray]); (try simp only [List.getElem_cons_succ]); (try simp only [List.getElem_cons_zero])
            go_simp
            try with_reducible rfl
          (try simp only [Act.put]); (try simp only [List.getElem_toArray]); (try simp only [List.getElem_cons_succ]); (try simp only [List.getElem_cons_zero]); (try simp only [List.setIfInBounds_toArray]); (try simp only [List.set_cons_succ]); (try simp only [List.set_cons_zero])
          refine wpAnyH_take (i := 19) (v := ?_) rfl (by kernel_rfl) (by kernel_rfl) (by kernel_rfl) (fun _ _ _ h => h) (Or.inl ⟨by kernel_rfl, ?_⟩) hHeld ?_
          rotate_left
          · intro w' hSw
            (try dsimp only at hSw)
            (try simp only [List.getElem_toArray]); (try simp only [List.getElem_cons_succ]); (try simp only [List.getElem_cons_zero])
            go_simp
            try with_reducible rfl
          (try simp only [Act.put]); (try simp only [List.getElem_toArray]); (try simp only [List.getElem_cons_succ]); (try simp only [List.getElem_cons_zero]); (try simp only [List.setIfInBounds_toArray]); (try simp only [List.set_cons_succ]); (try simp only [List.set_cons_zero])
          refine wpAnyH_ready (rs := [20]) (by kernel_rfl) (by simp) ?_
          refine AllReadyH.cons rfl (fun K hK => ?_) AllReadyH.nil
          have l1 : w6.cell? ⟨b, k * 3 + 1, none⟩ = some (.int .u64 0) := cell_flat rowL6 H3.out HCX.out (j := 1) rfl
          have f1 := rowL6.frozen (k * 3 + 1)
          (try simp only [List.getElem_toArray]); (try simp only [List.getElem_cons_succ]); (try simp only [List.getElem_cons_zero])
          go_simp
          clear l1 f1 x1 c1 c2
          have k7 : Keep (· = b) w6 (w6.setCell ⟨b, k * 3 + 1, none⟩ (.int .u64 x.fSeq)) := (Keep.refl (· = b) w6).setCell (p := ⟨b, k * 3 + 1, none⟩) (fun _ => rfl) _
          have rowL7 := rowL6.set (k * 3 + 1) (.int .u64 x.fSeq)
          rw [flat_set _ k 1 _ rest _ H3.out HCX.out (by decide)] at rowL7
          have rowC7 := rowC6.keep k7 HB.out.2.2.2.2.1
          have rowO7 := rowO6.keep k7 HB.out.2.2.2.1.symm
          clear rowL6 rowC6 rowO6
          generalize w6.setCell ⟨b, k * 3 + 1, none⟩ (.int .u64 x.fSeq) = w7 at *
          have x1 : w7.cell? ⟨bO, 1, none⟩ = some (.slice (some ⟨b, 0, none⟩) L1.length cN) := rowO7.cell 1
          have c1 : w7.cell? ⟨bC, 1, none⟩ = some (.int .u64 x.fSeq) := rowC7.cell 1
          have c2 : w7.cell? ⟨bC, 2, none⟩ = some (.slice aX x.fData.length cX) := rowC7.cell 2
          refine hK.out _ _ (⟨x1, c1, c2⟩) (fun hHeld => ?_)
          clear hK K
          (try simp only [Act.put]); (try simp only [List.getElem_toArray]); (try simp only [List.getElem_cons_succ]); (try simp only [List.getElem_cons_zero]); (try simp only [List.setIfInBounds_toArray]); (try simp only [List.set_cons_succ]); (try simp only [List.set_cons_zero])
          refine wpAnyH_take (i := 21) (v := ?_) rfl (by kernel_rfl) (by kernel_rfl) (by kernel_rfl) (fun _ _ _ h => h) (Or.inl ⟨by kernel_rfl, ?_⟩) hHeld ?_
          rotate_left
          · intro w' hSw
            (try dsimp only at hSw)
            (try simp only [List.getElem_toArray]); (try simp only [List.getElem_cons_succ]); (try simp only [List.getElem_cons_zero])
            go_simp
            try with_reducible rfl
          (try simp only [Act.put]); (try simp only [List.getElem_toArray]); (try simp only [List.getElem_cons_succ]); (try simp only [List.getElem_cons_zero]); (try simp only [List.setIfInBounds_toArray]); (try simp only [List.set_cons_succ]); (try simp only [List.set_cons_zero])
          refine wpAnyH_take (i := 22) (v := ?_) rfl (by kernel_rfl) (by kernel_rfl) (by kernel_rfl) (fun _ _ _ h => h) (Or.inl ⟨by kernel_rfl, ?_⟩) hHeld ?_
          rotate_left
          · intro w' hSw
            (try dsimp only at hSw)
            (try simp only [List.getElem_toArray]); (try simp only [List.getElem_cons_succ]); (try simp only [List.getElem_cons_zero])
            go_simp
            try with_reducible rfl
          (try simp only [Act.put]); (try simp only [List.getElem_toArray]); (try simp only [List.getElem_cons_succ]); (try simp only [List.getElem_cons_zero]); (try simp only [List.setIfInBounds_toArray]); (try simp only [List.set_cons_succ]); (try simp only [List.set_cons_zero])
          refine wpAnyH_ready (rs := [23]) (by kernel_rfl) (by simp) ?_
          refine AllReadyH.cons rfl (fun K hK => ?_) AllReadyH.nil
          have l2 : w7.cell? ⟨b, k * 3 + 2, none⟩ = some (.slice none 0 0) := cell_flat rowL7 (set_len3 H3.out k rfl) (List.getElem?_set_self (List.getElem?_eq_some_iff.1 HCX.out).1) (j := 2) rfl
          have f2 := rowL7.frozen (k * 3 + 2)
          (try simp only [List.getElem_toArray]); (try simp only [List.getElem_cons_succ]); (try simp only [List.getElem_cons_zero])
          go_simp
          clear l2 f2 x1 c1 c2
          have k8 : Keep (· = b) w7 (w7.setCell ⟨b, k * 3 + 2, none⟩ (.slice a6 (x.fData.length + 2) c6)) := (Keep.refl (· = b) w7).setCell (p := ⟨b, k * 3 + 2, none⟩) (fun _ => rfl) _
          have rowL8 := rowL7.set (k * 3 + 2) (.slice a6 (x.fData.length + 2) c6)
          rw [flat_set _ k 2 _ rest _ (set_len3 H3.out k rfl) (List.getElem?_set_self (List.getElem?_eq_some_iff.1 HCX.out).1) (by decide), List.set_set] at rowL8
          have rowC8 := rowC7.keep k8 HB.out.2.2.2.2.1
          have rowO8 := rowO7.keep k8 HB.out.2.2.2.1.symm
          have k78 := Lib.hid (k7.trans k8)
          clear rowL7 rowC7 rowO7 k7 k8
          generalize w7.setCell ⟨b, k * 3 + 2, none⟩ (.slice a6 (x.fData.length + 2) c6) = w8 at *
          have x1 : w8.cell? ⟨bO, 1, none⟩ = some (.slice (some ⟨b, 0, none⟩) L1.length cN) := rowO8.cell 1
          have c1 : w8.cell? ⟨bC, 1, none⟩ = some (.int .u64 x.fSeq) := rowC8.cell 1
          have c2 : w8.cell? ⟨bC, 2, none⟩ = some (.slice aX x.fData.length cX) := rowC8.cell 2
          refine hK.out _ _ (⟨x1, c1, c2⟩) (fun hHeld => ?_)
          clear hK K
          (try simp only [Act.put]); (try simp only [List.getElem_toArray]); (try simp only [List.getElem_cons_succ]); (try simp only [List.getElem_cons_zero]); (try simp only [List.setIfInBounds_toArray]); (try simp only [List.set_cons_succ]); (try simp only [List.set_cons_zero])
          refine wpAnyH_done (by kernel_rfl) ?_ _
          have hcx9 : (css1.set k ([.int .u64 x.fClient, .int .u64 x.fSeq, .slice a6 (x.fData.length + 2) c6]))[k]? = some [.int .u64 x.fClient, .int .u64 x.fSeq, .slice a6 (x.fData.length + 2) c6] := List.getElem?_set_self (List.getElem?_eq_some_iff.1 HCX.out).1
          have rowL9 : RowIs w8 b 89 ((css1.set k ([.int .u64 x.fClient, .int .u64 x.fSeq, .slice a6 (x.fData.length + 2) c6])).flatten ++ rest) := by have h := rowL8; simp only [List.set_cons_succ, List.set_cons_zero] at h; (try rw [HYC.out] at h); exact h
          have y2 : w8.cell? ⟨b, k * 3 + 2, none⟩ = some (.slice a6 (x.fData.length + 2) c6) := cell_flat rowL9 (set_len3 H3.out k rfl) hcx9 (j := 2) rfl
          have RL9 := Lib.hid rowL9
          have hal : (answer (tp.length + 1) x.fData).length = x.fData.length + 2 := answer_len _ _
          obtain ⟨ans, hans⟩ : ∃ ans, answer (tp.length + 1) x.fData = ans := ⟨_, rfl⟩
          rw [hans] at OW6 HE hal
          have lies8 := (Lies.of_owned OW6.out).keep k78.out (fun i hi e => by have h1 : m6 ≤ i := hi.1; have := HM6.out.1; have := HB.out.2.2.2.2.2.1; omega)
          have HL8 := Lib.hid lies8
          have hlz : (ans.map bv).length = (x.fData.length + 2) * 1 := by rw [List.length_map, hal]; omega
          clear rowL8 rowL9 rowC8 rowO8 hHeld c1 c2 lies8 hcx9
          go_wp2_with (at_builtin; refine wpl_append (m := x.fData.length + 2) (c := c6) T_bytes ?hgdg (.const (.slice none 0 0)) (.tmp 125) ?hog w8.heap.size ?hsg (World.ownsRow_nil w8 w8.heap.size 5 1) (ans.map bv) ?hxg ?c0g HL8.out ?c1g ?c2g ?c3g ?c4g ?_)
          case hgdg => rfl
          case hog => rfl
          (try case hsg => rfl)
          (try case hxg => rfl)
          (try case c0g => exact hlz)
          case c1g => first | exact bv_one _ | exact fun u hu => bv_one ans _ (List.mem_map.2 ⟨u, hu, rfl⟩)
          case c2g => unfold maxLen; omega
          case c3g => omega
          (try case c4g => exact Nat.le_refl _)
          intro aF cF wF ownF hgF
          have kF := Lib.hid ((Keep.refl Nix w8).grown hgF (fun i hi => by cases hi))
          have OWF := Lib.hid ownF
          clear ownF hgF y2 x1
          go_wp2_with fail
          go_ret
          unfold OncePost
          rw [HE.out]
          clear HE
          have hs6 : w5.heap.size ≤ w6.heap.size := KK6.out.size
          have hs8 : w6.heap.size ≤ w8.heap.size := k78.out.size
          have hsF : w8.heap.size ≤ wF.heap.size := kF.out.size
          have hs5 : w.heap.size ≤ w5.heap.size := HKK.out.size
          have h3n := set_len3 H3.out k (c := [.int .u64 x.fClient, .int .u64 x.fSeq, .slice a6 (x.fData.length + 2) c6]) rfl
          have hfl := flat_len3 h3n
          have hfo := flat_len3 H3.out
          rw [List.length_set] at hfl
          have hec := els6.out.1
          have hlt := HO.out.lt
          have hllt : ∀ i, OwnB (.slice aL' L1.length cN) i → i < w5.heap.size := fun i hi => hlt i (HO.out.oL i hi)
          have hel : Lies wF (fun i => (Q2 i ∨ (w5.heap.size ≤ i ∧ i < w8.heap.size)) ∧ i ≠ bO ∧ g6 ≠ some i ∧ ¬ OwnB (.slice aL' L1.length cN) i) a6 (ans.map bv) := (HL8.out.keep kF.out (fun _ _ h => h)).mono (fun i hi => by
            have h1 : m6 ≤ i := hi.1
            have h2 := (OW6.out.lt i hi.2).2
            have h3 := HM6.out.1
            exact ⟨.inr ⟨by omega, by omega⟩, fun e => by have := hlt bO HO.out.oO; omega, fun e => by have := HM6.out.2.1 i e; omega, fun e => by have := hllt i e; omega⟩)
          have hels := (((els6.out.keep rEnt_lawful k78.out (fun i hi e => hi.2.2.2 (e ▸ HB.out.1))).keep rEnt_lawful kF.out (fun _ _ h => h)).mono rEnt_lawful (q := fun i => (Q2 i ∨ (w5.heap.size ≤ i ∧ i < w8.heap.size)) ∧ i ≠ bO ∧ g6 ≠ some i ∧ ¬ OwnB (.slice aL' L1.length cN) i) (fun i hi => ⟨.inl hi.1, hi.2.1, fun e => (HM6.out.2.2 i e).elim hi.2.2.1 (fun h => by have := hlt i hi.1; omega), hi.2.2.2⟩)).set k (c := [.int .u64 x.fClient, .int .u64 x.fSeq, .slice a6 (x.fData.length + 2) c6]) (x := (x.fClient, x.fSeq, ans)) ⟨a6, c6, by rw [hal], hel, by show ans.length ≤ _; omega, HS.out.1, HS.out.2⟩
          have htp := (TP6.out.keep k78.out (S := (· = b)) (fun e => HB.out.2.2.2.1 e.symm) (fun i hi e => HB.out.2.2.2.2.2.2 (e ▸ hi))).keep kF.out id (fun _ _ => id)
          have hown : wF.ownsRow 0 89 3 (.slice aL' L1.length cN) L1.length (css1.set k ([.int .u64 x.fClient, .int .u64 x.fSeq, .slice a6 (x.fData.length + 2) c6])).flatten := by
            rw [hL']
            have h1 := HLN.out.1
            rw [List.length_append] at h1
            exact row_own (RL9.out.keep kF.out id) (Nat.zero_le _) (by rw [List.length_append]; omega) (by omega) HLN.out.2.2.1 HLN.out.2.2.2
          refine ⟨aF, cF, w8.heap.size, (fun i => Q2 i ∨ (w5.heap.size ≤ i ∧ i < w8.heap.size)), g6, aL', cN, css1.set k ([.int .u64 x.fClient, .int .u64 x.fSeq, .slice a6 (x.fData.length + 2) c6]), ?_, by omega, ?_, ?_, ?_, ?_⟩
          · show _ = Ending.returned (.slice aF ans.length cF)
            rw [hal]; (try rw [Nat.zero_add]); rfl
          · have h := OWF.out
            show wF.ownsRow w8.heap.size 5 1 (.slice aF ans.length cF) ans.length (ans.map bv)
            rw [hal]; simpa using h
          · refine ⟨?_, ?_, ?_, ?_, ?_, ?_, ?_, ?_, ?_⟩
            · show IsTapeG wF bO 51 [.slice aL' (L1.set k (x.fClient, x.fSeq, ans)).length cN] g6 (tp ++ [x.fData])
              rw [List.length_set, hL']; exact htp
            · show wF.ownsRow 0 89 3 (.slice aL' (L1.set k (x.fClient, x.fSeq, ans)).length cN) (L1.set k (x.fClient, x.fSeq, ans)).length _
              rw [List.length_set]; exact hown
            · show Els rEnt wF (fun i => (Q2 i ∨ (w5.heap.size ≤ i ∧ i < w8.heap.size)) ∧ i ≠ bO ∧ g6 ≠ some i ∧ ¬ OwnB (.slice aL' (L1.set k (x.fClient, x.fSeq, ans)).length cN) i) _ (L1.set k (x.fClient, x.fSeq, ans))
              rw [List.length_set]; exact hels
            · show ¬ OwnB (.slice aL' (L1.set k (x.fClient, x.fSeq, ans)).length cN) bO
              rw [List.length_set]; exact HO.out.ne
            · show ∀ i, g6 = some i → ¬ OwnB (.slice aL' (L1.set k (x.fClient, x.fSeq, ans)).length cN) i
              rw [List.length_set]; exact fun i hi ho => (HM6.out.2.2 i hi).elim (fun h => HO.out.ng i h ho) (fun h => by have := hllt i ho; omega)
            · exact fun i hi => hi.elim (fun h => by have := hlt i h; omega) (fun h => by omega)
            · exact .inl HO.out.oO
            · exact fun i hi => (HM6.out.2.2 i hi).elim (fun h => .inl (HO.out.oG i h)) (fun h => .inr ⟨h, by have := TP6.out.glt i hi; omega⟩)
            · show ∀ i, OwnB (.slice aL' (L1.set k (x.fClient, x.fSeq, ans)).length cN) i → _
              rw [List.length_set]; exact fun i hi => .inl (HO.out.oL i hi)
          · exact ((HKK.out.then KK6.out (fun i hi h => (HQ2.out i h).elim id (fun h => by omega))).then k78.out (fun i hi e => (HQ2.out i (e ▸ HB.out.2.1)).elim id (fun h => by omega))).trans kF.out.nix
          · exact fun i hi => hi.elim (fun h => ⟨HQ2.out i h, by have := hlt i h; omega⟩) (fun h => ⟨.inr (by omega), h.2⟩)
end
end Go.Proofs.Ythchpdflnpfjkaa
