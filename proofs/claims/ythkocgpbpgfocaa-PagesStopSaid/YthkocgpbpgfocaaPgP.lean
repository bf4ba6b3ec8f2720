/- PAGES: told: a map against the laws' own list. Printed by mac.py. -/
import Derived.Test.YthkocgpbpgfocaaPgO
namespace Go.Proofs.Ythkocgpbpgfocaa
open Go.RowKit Go.Shelf

theorem rGSpan_lt {w : World} {p : Nat → Prop} {cs : List Value} {x : GSpan} (h : rGSpan w p cs x) : rGSpan w (fun b => b < w.heap.size) cs x := by
  obtain ⟨aK, cK, aV, cV, rfl, hk, hv, -⟩ := rGSpan_open h
  exact rGSpan_mk w _ ⟨hk.1.lt, hk.2⟩ ⟨hv.1.lt, hv.2⟩
theorem spoil_own (base c : Nat) (a : Option Addr) (l : List UInt8) (w : World) (own : w.ownsRow base 5 1 (.slice a l.length c) l.length (l.map bv)) :
    Calls Try.prog 28 #[.slice a l.length c] w fun e w' => e = .returned (.tuple #[]) ∧ Keep (OwnB (.slice a l.length c)) w w' := by
  rcases Nat.eq_zero_or_pos l.length with h | h
  · rw [h]
    clear own
    go_enter Try.func28, Try.ntmps28
    go_wp2
    refine wp_loop_rounds 1 ?_
    rw [rounds_succ]
    go_wp2
    go_end0
    exact ⟨rfl, Keep.refl _ _⟩
  · obtain ⟨g, rest, rfl, hg, row, hl, hx, hnc, hcm⟩ := own_row own h
    refine (spoil_c g l.length c _ l w rfl row (fun j u hu => by
      rw [List.getElem?_append_left (List.getElem?_eq_some_iff.1 hu).1]; exact hu) (by omega)).mono ?_
    rintro e w' ⟨rfl, kk⟩
    exact ⟨rfl, kk.mono (fun b hb => by rw [hb]; rfl)⟩
theorem rList_lt {w : World} {p : Nat → Prop} {b o n c : Nat} {l : List GPair} (h : rList rGPair w p [.slice (some ⟨b, o, none⟩) n c] l) {k : Nat} (hk : k < l.length) : b < w.heap.size := by
  obtain ⟨b', o', _, _, _, _, e, hb, -⟩ := at_pair h k hk
  simp only [Option.some.injEq, Addr.mk.injEq, and_true] at e
  obtain ⟨rfl, rfl⟩ := e
  exact hb
def CntI (c8 : Nat) (w0 : World) (f : Nat → Int) (k : Nat) (W : World) : Prop := RowIs W c8 3 [.int .i64 (f k)] ∧ Keep (· = c8) w0 W
theorem cntI_keep {D c8 : Nat} {w0 : World} {f : Nat → Int} {k : Nat} {A B : World} (h : CntI c8 w0 f k A) (kk : Keep (Book D) A B) (hD : w0.heap.size = D) (hc : c8 < D) : CntI c8 w0 f k B :=
  ⟨h.1.keep kk (fun e => by rcases e with e | e <;> omega), h.2.then kk (fun i hi e => by rcases e with e | e <;> omega)⟩
set_option maxRecDepth 100000 in
set_option maxHeartbeats 4000000 in
theorem told_c {q : Nat → Prop} (O : Nat → Prop) (g : Nat) (l : List GPair) (aL : Option Addr) (cL : Nat) (s : GSpan) (csS : List Value) (w : World) (M : IsMap w O g l) (S : SideL w O aL cL l) (hl : l.length ≤ 100000) (hs : rGSpan w q csS s) :
    Calls Try.prog 21 #[.pointer (some ⟨g, 0, none⟩), .slice aL l.length cL, .agg csS.toArray] w fun e w' => e = .returned (.bool true) ∧ Keep Nix w w' := by
  have hs2 := rGSpan_lt hs
  obtain ⟨sF, dF, sT, dT, rfl, -⟩ := rGSpan_open hs
  refine calls_marks Try.func21 rfl ?_
  simp only [Try.ntmps21, List.size_toArray, List.length_cons, List.length_nil, Nat.reduceAdd, Nat.reduceSub, Array.replicate_succ, Array.replicate_zero, List.push_toArray, List.append_toArray, List.nil_append, List.cons_append]
  have k1 : Keep Nix w ((w.alloc (.cells #[.slice sF s.fFrom.length dF, .slice sT s.fTo.length dT] 37)).alloc (.cells #[.bool false] 4)) := ((Keep.refl Nix w).alloc _).alloc _
  have rowS : RowIs ((w.alloc (.cells #[.slice sF s.fFrom.length dF, .slice sT s.fTo.length dT] 37)).alloc (.cells #[.bool false] 4)) w.heap.size 37 [.slice sF s.fFrom.length dF, .slice sT s.fTo.length dT] := (RowIs.alloc w #[.slice sF s.fFrom.length dF, .slice sT s.fTo.length dT] 37).keep ((Keep.refl Nix _).alloc _) id
  have rowB : RowIs ((w.alloc (.cells #[.slice sF s.fFrom.length dF, .slice sT s.fTo.length dT] 37)).alloc (.cells #[.bool false] 4)) (w.heap.size + 1) 4 [.bool false] := by
    have h := RowIs.alloc (w.alloc (.cells #[.slice sF s.fFrom.length dF, .slice sT s.fTo.length dT] 37)) #[.bool false] 4
    simpa using h
  have hs1 : Hid ((((w.alloc (.cells #[.slice sF s.fFrom.length dF, .slice sT s.fTo.length dT] 37)).alloc (.cells #[.bool false] 4))).heap.size = w.heap.size + 2) := by show _ = _; simp
  have HM := Lib.hid M
  have HS := Lib.hid S
  have HSP := Lib.hid hs2
  clear M S hs hs2
  go_upto_region 1 with fail
  generalize ((w.alloc (.cells #[.slice sF s.fFrom.length dF, .slice sT s.fTo.length dT] 37)).alloc (.cells #[.bool false] 4)) = w1 at *
  have u0 := rowS.cell 0
  (try simp only [List.getElem?_cons_zero] at u0)
  have u1 := rowS.cell 1
  (try simp only [List.getElem?_cons_succ] at u1); (try simp only [List.getElem?_cons_zero] at u1)
  go_wp2_with fail
  go_fit (part_c l s [.slice sF s.fFrom.length dF, .slice sT s.fTo.length dT] aL cL w1 (HS.out.nix k1) (rGSpan_lawful.nix HSP.out k1) (by omega))
  rintro e w2 ⟨aP, cP, csP, rfl, ownP, elsP, k2⟩
  obtain ⟨ys, HYS⟩ : ∃ y, Hid (partF s l = y) := ⟨_, rfl⟩
  have hyl : ys.length ≤ 100000 := by rw [← HYS.out]; exact Nat.le_trans (List.length_filter_le _ _) hl
  rw [HYS.out] at ownP elsP ⊢
  have k3 : Keep Nix w2 ((w2.alloc (.cells #[.slice aP ys.length cP] 22)).alloc (.cells #[.int .i64 0] 3)) := ((Keep.refl Nix w2).alloc _).alloc _
  have row7 : RowIs ((w2.alloc (.cells #[.slice aP ys.length cP] 22)).alloc (.cells #[.int .i64 0] 3)) w2.heap.size 22 [.slice aP ys.length cP] := (RowIs.alloc w2 #[.slice aP ys.length cP] 22).keep ((Keep.refl Nix _).alloc _) id
  have row8 : RowIs ((w2.alloc (.cells #[.slice aP ys.length cP] 22)).alloc (.cells #[.int .i64 0] 3)) (w2.heap.size + 1) 3 [.int .i64 0] := by
    have h := RowIs.alloc (w2.alloc (.cells #[.slice aP ys.length cP] 22)) #[.int .i64 0] 3
    simpa using h
  have hs3 : Hid ((((w2.alloc (.cells #[.slice aP ys.length cP] 22)).alloc (.cells #[.int .i64 0] 3))).heap.size = w2.heap.size + 2) := by show _ = _; simp
  have k23 := k2.trans k3
  have rowS3 := rowS.keep k23 id
  have rowB3 := rowB.keep k23 id
  have kk := k1.trans k23
  have hP3 : Hid (rList rGPair ((w2.alloc (.cells #[.slice aP ys.length cP] 22)).alloc (.cells #[.int .i64 0] 3)) (fun b => b < w2.heap.size) [.slice aP ys.length cP] ys) := ⟨aP, cP, csP, rfl, elsP.1, ((Lies.of_owned ownP).mono (q := fun b => b < w2.heap.size) (fun b hb => (ownP.lt b hb.2).2)).keep k3 (fun _ _ h => h), (owned_bounds ownP).2.1, by unfold far; omega, fun i d y hd hy => rGPair_lawful.nix (rGPair_lawful.mono (elsP.2 i d y hd hy) (fun b hb => by have := hb.2; have := k2.size; omega)) k3⟩
  have hsz12 := k2.size
  clear rowS rowB u0 u1 ownP elsP k1 k2 k3 k23
  go_upto_region 3 with fail
  generalize ((w2.alloc (.cells #[.slice aP ys.length cP] 22)).alloc (.cells #[.int .i64 0] 3)) = w3 at *
  generalize hc7 : w2.heap.size = c7 at *
  have u0 := rowS3.cell 0
  (try simp only [List.getElem?_cons_zero] at u0)
  have u1 := rowS3.cell 1
  (try simp only [List.getElem?_cons_succ] at u1); (try simp only [List.getElem?_cons_zero] at u1)
  go_wp2_with fail
  go_fit (scan_m O g l s [.slice sF s.fFrom.length dF, .slice sT s.fTo.length dT] false w3 (HM.out.nix kk) hl (rGSpan_lawful.nix HSP.out kk))
  rintro e w4 ⟨gs, rfl, HT, k4⟩
  have hF : scanF s false l = ys := HYS.out
  rw [hF] at HT
  replace rowS3 := rowS3.keep k4 id
  replace rowB3 := rowB3.keep k4 id
  replace row7 := row7.keep k4 id
  replace row8 := row8.keep k4 id
  replace hP3 := Lib.hid ((rList_lawful rGPair_lawful).nix hP3.out k4)
  replace kk := kk.trans k4
  have hs34 := k4.size
  clear k4 hF u0 u1
  go_wp2_with fail
  have hc8 : c7 + 1 < w4.heap.size := by have := hs3.out; omega
  have hc83 : c7 + 1 < w3.heap.size := by have := hs3.out; omega
  refine range_tells (xs := ys) rfl (enters_of Try.func37 (by kernel_rfl) rfl) HT (Nat.le_refl _) (fun k W => CntI (c7 + 1) w4 (fun k => (k : Int)) k W) (fun _ _ => False) (fun k A B h kk => cntI_keep h kk rfl hc8) (fun _ _ _ h _ => h) ⟨row8, Keep.refl _ _⟩ ?round ?done (fun _ _ h => h.elim)
  case round =>
    rintro k hk cn Wp W ⟨row8p, k8p⟩ kN hszp hcnp
    obtain ⟨x, hx⟩ : ∃ x, ys[k] = x := ⟨_, rfl⟩
    have hcnx : OwnP W Wp.heap.size cn x := by rw [← hx]; exact hcnp
    have HX := Lib.hid hx
    have hcn := hcnx
    obtain ⟨aK, cK, aV, cV, rfl, o1, o2, hd12, -, -, -⟩ := hcn
    refine region_in (by kernel_rfl) (fun _ _ h => h) ?_
    have kP : Keep Nix W (W.alloc (.cells #[.slice aK x.fKey.length cK, .slice aV x.fValue.length cV, .int .i64 x.fVersion] 29)) := (Keep.refl Nix W).alloc _
    have rowP := RowIs.alloc W #[.slice aK x.fKey.length cK, .slice aV x.fValue.length cV, .int .i64 x.fVersion] 29
    clear hcnp
    go_wp2_with fail
    refine ⟨kP.nix, fun W2 k2 hs22 => ?_⟩
    clear hs22
    have hNs := kN.size
    have hPs := kP.size
    have hk2s := k2.size
    have kBk : Keep (Book w4.heap.size) Wp W2 := (kN.trans kP).nix.trans (k2.mono (fun b hb => .inr hb))
    have hbk : ∀ b, Book w4.heap.size b → b < w4.heap.size + 2 ∧ w4.heap.size ≤ b := fun b hb => by rcases hb with h | h <;> omega
    replace row8p := row8p.keep kBk (fun h => by have := hbk _ h; omega)
    have k8 := k8p.then kBk (fun i hi h => by have := hbk i h; omega)
    have k2' : Keep (Book w4.heap.size) W W2 := kP.nix.trans (k2.mono (fun b hb => .inr hb))
    have o1' := owned_keep o1 k2' (fun b hb h => by have := hbk b h; have := (o1.lt b hb).1; omega)
    have o2' := owned_keep o2 k2' (fun b hb h => by have := hbk b h; have := (o2.lt b hb).1; omega)
    have hG := rGPair_lawful.keep hcnx.gp k2' (fun b hb h => by have := hbk b h; have := hb.1; omega)
    have hl7 := row7.lt
    have hPL := (rList_lawful rGPair_lawful).keep hP3.out k8 (fun b hb h => by omega)
    obtain ⟨b, o, pK, cPK, pV, cPV, rfl, hbw, hbc, ry, y0, y1, y2⟩ := at_pair hPL k hk
    rw [HX.out] at ry y0 y1 y2
    have s0 := (row7.keep k8 (by omega)).cell 0
    (try simp only [List.getElem?_cons_zero] at s0)
    replace rowP := rowP.keep k2 (by omega)
    have p0 := rowP.cell 0
    (try simp only [List.getElem?_cons_zero] at p0)
    have p1 := rowP.cell 1
    (try simp only [List.getElem?_cons_succ] at p1); (try simp only [List.getElem?_cons_zero] at p1)
    have p2 := rowP.cell 2
    (try simp only [List.getElem?_cons_succ] at p2); (try simp only [List.getElem?_cons_zero] at p2)
    have hWW2 : W.heap.size < W2.heap.size := rowP.lt
    have hlt1 := fun b (hb : OwnB (.slice aK x.fKey.length cK) b) => (o1.lt b hb).2
    have hlt2 := fun b (hb : OwnB (.slice aV x.fValue.length cV) b) => (o2.lt b hb).2
    clear kBk k2' k2 kP kN o1 o2 hx hcnx hPL
    replace row8p : RowIs W2 (c7 + 1) 3 [.int .i64 (k : Int)] := row8p
    have n0 := row8p.cell 0
    (try simp only [List.getElem?_cons_zero] at n0)
    have hck : (k : Int) < (ys.length : Int) := by omega
    have hck2 : ¬ (ys.length : Int) ≤ (k : Int) := by omega
    have hki0 : (0 : Int) ≤ (k : Int) := by omega
    refine wpIn_block (wpIn_seq (wpIn_seq ?_))
    have kd : Keep Nix W2 W2.drew := (Keep.refl Nix W2).drew
    refine region_in_held (S := (fun w' => w'.cell? ⟨c7 + 1, 0, none⟩ = some (.int .i64 (k : Int)) ∧ w'.cell? ⟨c7, 0, none⟩ = some (.slice (some ⟨b, o, none⟩) ys.length cP) ∧ w'.cell? ⟨W.heap.size, 0, none⟩ = some (.slice aK x.fKey.length cK) ∧ w'.cell? ⟨W.heap.size, 1, none⟩ = some (.slice aV x.fValue.length cV) ∧ w'.cell? ⟨W.heap.size, 2, none⟩ = some (.int .i64 x.fVersion) ∧ w'.cell? ⟨b, o + k * 3, none⟩ = some (.slice pK x.fKey.length cPK) ∧ w'.cell? ⟨b, o + k * 3 + 1, none⟩ = some (.slice pV x.fValue.length cPV) ∧ w'.cell? ⟨b, o + k * 3 + 2, none⟩ = some (.int .i64 x.fVersion))) (by kernel_rfl) (by exact fun _ _ h => h) (by kernel_rfl) (⟨n0, s0, p0, p1, p2, y0, y1, y2⟩) (fun hHeld => ?_)
    clear n0 s0 p0 p1 p2 y0 y1 y2
    have o1d := owned_keep o1' kd (fun _ _ h => h)
    have o2d := owned_keep o2' kd (fun _ _ h => h)
    have hGd := rGPair_lawful.nix hG kd
    have ryd := rGPair_lawful.nix ry kd
    have rowPd := rowP.keep kd id
    have row8d := row8p.keep kd id
    have hWW := Nat.lt_of_lt_of_le hWW2 kd.size
    have hbd : b < W2.drew.heap.size := Nat.lt_of_lt_of_le (rList_lt hP3.out hk) (Nat.le_trans k8.size kd.size)
    replace k8 := k8.trans kd.nix
    clear o1' o2' hG ry rowP row8p hWW2
    have kF0 : Keep Nix W2 W2.drew := kd
    generalize hWd : W2.drew = wd at *
    refine wpAnyH_take (i := 0) (v := ?_) rfl (by kernel_rfl) (by kernel_rfl) (by kernel_rfl) (fun _ _ _ h => h) (Or.inl ⟨by kernel_rfl, ?_⟩) hHeld ?_
    rotate_left
    · intro w' hSw
      (try dsimp only at hSw)
      (try simp only [List.getElem_toArray]); (try simp only [List.getElem_cons_succ]); (try simp only [List.getElem_cons_zero])
      go_simp
      try with_reducible rfl
    (try simp only [Act.put]); (try simp only [List.getElem_toArray]); (try simp only [List.getElem_cons_succ]); (try simp only [List.getElem_cons_zero]); (try simp only [List.setIfInBounds_toArray]); (try simp only [List.set_cons_succ]); (try simp only [List.set_cons_zero])
    refine wpAnyH_take (i := 1) (v := ?_) rfl (by kernel_rfl) (by kernel_rfl) (by kernel_rfl) (fun _ _ _ h => h) (Or.inl ⟨by kernel_rfl, ?_⟩) hHeld ?_
    rotate_left
    · intro w' hSw
      (try dsimp only at hSw)
      (try simp only [List.getElem_toArray]); (try simp only [List.getElem_cons_succ]); (try simp only [List.getElem_cons_zero])
      go_simp
      try with_reducible rfl
    (try simp only [Act.put]); (try simp only [List.getElem_toArray]); (try simp only [List.getElem_cons_succ]); (try simp only [List.getElem_cons_zero]); (try simp only [List.setIfInBounds_toArray]); (try simp only [List.set_cons_succ]); (try simp only [List.set_cons_zero])
    refine wpAnyH_take (i := 2) (v := ?_) rfl (by kernel_rfl) (by kernel_rfl) (by kernel_rfl) (fun _ _ _ h => h) (Or.inl ⟨by kernel_rfl, ?_⟩) hHeld ?_
    rotate_left
    · intro w' hSw
      (try dsimp only at hSw)
      (try simp only [List.getElem_toArray]); (try simp only [List.getElem_cons_succ]); (try simp only [List.getElem_cons_zero])
      go_simp
      try with_reducible rfl
    (try simp only [Act.put]); (try simp only [List.getElem_toArray]); (try simp only [List.getElem_cons_succ]); (try simp only [List.getElem_cons_zero]); (try simp only [List.setIfInBounds_toArray]); (try simp only [List.set_cons_succ]); (try simp only [List.set_cons_zero])
    refine wpAnyH_take (i := 3) (v := ?_) rfl (by kernel_rfl) (by kernel_rfl) (by kernel_rfl) (fun _ _ _ h => h) (Or.inl ⟨by kernel_rfl, ?_⟩) hHeld ?_
    rotate_left
    · intro w' hSw
      (try dsimp only at hSw)
      (try simp only [List.getElem_toArray]); (try simp only [List.getElem_cons_succ]); (try simp only [List.getElem_cons_zero])
      go_simp
      try with_reducible rfl
    (try simp only [Act.put]); (try simp only [List.getElem_toArray]); (try simp only [List.getElem_cons_succ]); (try simp only [List.getElem_cons_zero]); (try simp only [List.setIfInBounds_toArray]); (try simp only [List.set_cons_succ]); (try simp only [List.set_cons_zero])
    refine wpAnyH_take (i := 4) (v := ?_) rfl (by kernel_rfl) (by kernel_rfl) (by kernel_rfl) (fun _ _ _ h => h) (Or.inl ⟨by kernel_rfl, ?_⟩) hHeld ?_
    rotate_left
    · intro w' hSw
      (try dsimp only at hSw)
      (try simp only [List.getElem_toArray]); (try simp only [List.getElem_cons_succ]); (try simp only [List.getElem_cons_zero])
      go_simp
      try with_reducible rfl
    (try simp only [Act.put]); (try simp only [List.getElem_toArray]); (try simp only [List.getElem_cons_succ]); (try simp only [List.getElem_cons_zero]); (try simp only [List.setIfInBounds_toArray]); (try simp only [List.set_cons_succ]); (try simp only [List.set_cons_zero])
    refine wpAnyH_take (i := 5) (v := ?_) rfl (by kernel_rfl) (by kernel_rfl) (by kernel_rfl) (fun _ _ _ h => h) (Or.inl ⟨by kernel_rfl, ?_⟩) hHeld ?_
    rotate_left
    · intro w' hSw
      (try dsimp only at hSw)
      (try simp only [List.getElem_toArray]); (try simp only [List.getElem_cons_succ]); (try simp only [List.getElem_cons_zero])
      go_simp
      try with_reducible rfl
    (try simp only [Act.put]); (try simp only [List.getElem_toArray]); (try simp only [List.getElem_cons_succ]); (try simp only [List.getElem_cons_zero]); (try simp only [List.setIfInBounds_toArray]); (try simp only [List.set_cons_succ]); (try simp only [List.set_cons_zero])
    refine wpAnyH_take (i := 6) (v := ?_) rfl (by kernel_rfl) (by kernel_rfl) (by kernel_rfl) (fun _ _ _ h => h) (Or.inl ⟨by kernel_rfl, ?_⟩) hHeld ?_
    rotate_left
    · intro w' hSw
      (try dsimp only at hSw)
      (try simp only [List.getElem_toArray]); (try simp only [List.getElem_cons_succ]); (try simp only [List.getElem_cons_zero])
      go_simp
      try with_reducible rfl
    (try simp only [Act.put]); (try simp only [List.getElem_toArray]); (try simp only [List.getElem_cons_succ]); (try simp only [List.getElem_cons_zero]); (try simp only [List.setIfInBounds_toArray]); (try simp only [List.set_cons_succ]); (try simp only [List.set_cons_zero])
    refine wpAnyH_take (i := 7) (v := ?_) rfl (by kernel_rfl) (by kernel_rfl) (by kernel_rfl) (fun _ _ _ h => h) (Or.inl ⟨by kernel_rfl, ?_⟩) hHeld ?_
    rotate_left
    · intro w' hSw
      (try dsimp only at hSw)
      (try simp only [List.getElem_toArray]); (try simp only [List.getElem_cons_succ]); (try simp only [List.getElem_cons_zero])
      go_simp
      try with_reducible rfl
    (try simp only [Act.put]); (try simp only [List.getElem_toArray]); (try simp only [List.getElem_cons_succ]); (try simp only [List.getElem_cons_zero]); (try simp only [List.setIfInBounds_toArray]); (try simp only [List.set_cons_succ]); (try simp only [List.set_cons_zero])
    refine wpAnyH_take (i := 8) (v := ?_) rfl (by kernel_rfl) (by kernel_rfl) (by kernel_rfl) (fun _ _ _ h => h) (Or.inl ⟨by kernel_rfl, ?_⟩) hHeld ?_
    rotate_left
    · intro w' hSw
      (try dsimp only at hSw)
      (try simp only [List.getElem_toArray]); (try simp only [List.getElem_cons_succ]); (try simp only [List.getElem_cons_zero])
      go_simp
      try with_reducible rfl
    (try simp only [Act.put]); (try simp only [List.getElem_toArray]); (try simp only [List.getElem_cons_succ]); (try simp only [List.getElem_cons_zero]); (try simp only [List.setIfInBounds_toArray]); (try simp only [List.set_cons_succ]); (try simp only [List.set_cons_zero])
    refine wpAnyH_take (i := 9) (v := ?_) rfl (by kernel_rfl) (by kernel_rfl) (by kernel_rfl) (fun _ _ _ h => h) (Or.inl ⟨by kernel_rfl, ?_⟩) hHeld ?_
    rotate_left
    · intro w' hSw
      (try dsimp only at hSw)
      (try simp only [List.getElem_toArray]); (try simp only [List.getElem_cons_succ]); (try simp only [List.getElem_cons_zero])
      go_simp
      try with_reducible rfl
    (try simp only [Act.put]); (try simp only [List.getElem_toArray]); (try simp only [List.getElem_cons_succ]); (try simp only [List.getElem_cons_zero]); (try simp only [List.setIfInBounds_toArray]); (try simp only [List.set_cons_succ]); (try simp only [List.set_cons_zero])
    refine wpAnyH_ready (rs := [10]) (by kernel_rfl) (by simp) ?_
    refine AllReadyH.cons rfl (fun K hK => ?_) AllReadyH.nil
    rw [if_pos (by kernel_rfl)]
    go_simp
    go_fit (sPair_c wd x _ _ hGd ryd)
    rintro e w5 ⟨rfl, k5⟩
    go_wp2_with fail
    have h81 := row8d.lt
    have h71 : c7 < wd.heap.size := by omega
    refine hK.out _ _ (⟨(k5.cell (p := ⟨c7 + 1, 0, none⟩) h81 id).trans hHeld.1, (k5.cell (p := ⟨c7, 0, none⟩) h71 id).trans hHeld.2.1, (k5.cell (p := ⟨W.heap.size, 0, none⟩) hWW id).trans hHeld.2.2.1, (k5.cell (p := ⟨W.heap.size, 1, none⟩) hWW id).trans hHeld.2.2.2.1, (k5.cell (p := ⟨W.heap.size, 2, none⟩) hWW id).trans hHeld.2.2.2.2.1, (k5.cell (p := ⟨b, o + k * 3, none⟩) hbd id).trans hHeld.2.2.2.2.2.1, (k5.cell (p := ⟨b, o + k * 3 + 1, none⟩) hbd id).trans hHeld.2.2.2.2.2.2.1, (k5.cell (p := ⟨b, o + k * 3 + 2, none⟩) hbd id).trans hHeld.2.2.2.2.2.2.2⟩) (fun hHeld => ?_)
    clear hK K
    (try simp only [Act.put]); (try simp only [List.getElem_toArray]); (try simp only [List.getElem_cons_succ]); (try simp only [List.getElem_cons_zero]); (try simp only [List.setIfInBounds_toArray]); (try simp only [List.set_cons_succ]); (try simp only [List.set_cons_zero])
    refine wpAnyH_take (i := 11) (v := ?_) rfl (by kernel_rfl) (by kernel_rfl) (by kernel_rfl) (fun _ _ _ h => h) (Or.inl ⟨by kernel_rfl, ?_⟩) hHeld ?_
    rotate_left
    · intro w' hSw
      (try dsimp only at hSw)
      (try simp only [List.getElem_toArray]); (try simp only [List.getElem_cons_succ]); (try simp only [List.getElem_cons_zero])
      go_simp
      try with_reducible rfl
    (try simp only [Act.put]); (try simp only [List.getElem_toArray]); (try simp only [List.getElem_cons_succ]); (try simp only [List.getElem_cons_zero]); (try simp only [List.setIfInBounds_toArray]); (try simp only [List.set_cons_succ]); (try simp only [List.set_cons_zero])
    refine wpAnyH_take (i := 12) (v := ?_) rfl (by kernel_rfl) (by kernel_rfl) (by kernel_rfl) (fun _ _ _ h => h) (Or.inl ⟨by kernel_rfl, ?_⟩) hHeld ?_
    rotate_left
    · intro w' hSw
      (try dsimp only at hSw)
      (try simp only [List.getElem_toArray]); (try simp only [List.getElem_cons_succ]); (try simp only [List.getElem_cons_zero])
      go_simp
      try with_reducible rfl
    (try simp only [Act.put]); (try simp only [List.getElem_toArray]); (try simp only [List.getElem_cons_succ]); (try simp only [List.getElem_cons_zero]); (try simp only [List.setIfInBounds_toArray]); (try simp only [List.set_cons_succ]); (try simp only [List.set_cons_zero])
    refine wpAnyH_done (by kernel_rfl) ?_ _
    clear hHeld hGd ryd
    have o1e := owned_keep o1d k5 (fun _ _ h => h)
    have o2e := owned_keep o2d k5 (fun _ _ h => h)
    have rowPe := rowPd.keep k5 id
    have row8e := row8d.keep k5 id
    have k8e := k8.trans k5.nix
    have kFe := kF0.trans k5
    clear o1d o2d rowPd row8d k8 kF0 k5 kd
    refine wpIn_cond_false rfl (wpIn_skip ?_)
    change Code.wpIn _ _ _ _ _ _ _
    have n0 := row8e.cell 0
    have nf := row8e.frozen 0
    (try simp only [List.getElem?_cons_zero] at n0)
    refine wpIn_seq (region_in (by kernel_rfl) (fun _ _ h => h) ?_)
    go_wp2_with fail
    clear n0 nf
    have kS : Keep (· = c7 + 1) w5 (w5.setCell ⟨c7 + 1, 0, none⟩ (.int .i64 ((k : Int) + 1))) := (Keep.refl (· = c7 + 1) w5).setCell (p := ⟨c7 + 1, 0, none⟩) (fun _ => rfl) _
    have row8f := row8e.set 0 (.int .i64 ((k : Int) + 1))
    have hWc : W.heap.size ≠ c7 + 1 := by omega
    have rowPf := rowPe.keep kS hWc
    have o1f := owned_keep o1e kS (fun b hb e => by have := (o1e.lt b hb).1; omega)
    have o2f := owned_keep o2e kS (fun b hb e => by have := (o2e.lt b hb).1; omega)
    have k8f := k8e.trans kS
    have hO1 : ∀ b, OwnB (.slice aK x.fKey.length cK) b → Wp.heap.size ≤ b ∧ b < W.heap.size := fun b hb => ⟨(o1e.lt b hb).1, hlt1 b hb⟩
    have hO2 : ∀ b, OwnB (.slice aV x.fValue.length cV) b → Wp.heap.size ≤ b ∧ b < W.heap.size := fun b hb => ⟨(o2e.lt b hb).1, hlt2 b hb⟩
    have kFf : Keep (Free w4.heap.size w3.heap.size w4.heap.size) W2 (w5.setCell ⟨c7 + 1, 0, none⟩ (.int .i64 ((k : Int) + 1))) := kFe.nix.trans (kS.mono (fun b (h : b = c7 + 1) => ⟨by omega, by omega, by omega⟩))
    have p0 := rowPf.cell 0
    (try simp only [List.getElem?_cons_zero] at p0)
    clear row8e rowPe o1e o2e k8e kFe kS
    generalize w5.setCell ⟨c7 + 1, 0, none⟩ (.int .i64 ((k : Int) + 1)) = w6 at *
    refine wpIn_seq (region_in (by kernel_rfl) (fun _ _ h => h) ?_)
    go_wp2_with fail
    go_fit (spoil_own _ cK aK x.fKey w6 o1f)
    rintro e w7 ⟨rfl, k7⟩
    have rowPg := rowPf.keep k7 (fun h => by have := hO1 _ h; omega)
    have row8g := row8f.keep k7 (fun h => by have := hO1 _ h; omega)
    have o2g := owned_keep o2f k7 (fun b hb h => hd12 b h hb)
    have k8g := k8f.then k7 (fun i hi h => by have := hO1 _ h; omega)
    have kFg := kFf.trans (k7.mono (T := Free w4.heap.size w3.heap.size w4.heap.size) (fun b hb => by have := hO1 b hb; exact ⟨by omega, by omega, by omega⟩))
    have q1 := rowPg.cell 1
    (try simp only [List.getElem?_cons_succ] at q1); (try simp only [List.getElem?_cons_zero] at q1)
    clear p0 rowPf row8f o1f o2f k8f kFf k7
    go_wp2_with fail
    refine region_in (by kernel_rfl) (fun _ _ h => h) ?_
    go_wp2_with fail
    go_fit (spoil_own _ cV aV x.fValue w7 o2g)
    rintro e w8 ⟨rfl, k8h⟩
    clear q1
    go_wp2_with fail
    refine ⟨kFg.trans (k8h.mono (fun b hb => by have := hO2 b hb; exact ⟨by omega, by omega, by omega⟩)), row8g.keep k8h (fun h => by have := hO2 _ h; omega), k8g.then k8h (fun i hi h => by have := hO2 _ h; omega)⟩
  case done =>
    intro Wb HI hK
    obtain ⟨row8b, k8b⟩ := HI
    have hDb : w4.heap.size < Wb.heap.size := (Array.getElem?_eq_some_iff.1 hK).1
    replace row8b : RowIs Wb (c7 + 1) 3 [.int .i64 (ys.length : Int)] := row8b
    have hne7 : c7 ≠ c7 + 1 := by omega
    have hneS : w.heap.size ≠ c7 + 1 := by have := hs1.out; omega
    have hneB : w.heap.size + 1 ≠ c7 + 1 := by have := hs1.out; omega
    have row7b := row7.keep k8b hne7
    have rowSb := rowS3.keep k8b hneS
    have rowBb := rowB3.keep k8b hneB
    have hPb := Lib.hid ((rList_lawful rGPair_lawful).keep hP3.out k8b (fun b hb h => by omega))
    have kkb := kk.then k8b (fun i hi h => by have := hs1.out; omega)
    clear row7 row8 rowS3 rowB3 hP3 kk k8b HT
    have n0 := row8b.cell 0
    (try simp only [List.getElem?_cons_zero] at n0)
    have s0 := row7b.cell 0
    (try simp only [List.getElem?_cons_zero] at s0)
    have u0 := rowSb.cell 0
    (try simp only [List.getElem?_cons_zero] at u0)
    have u1 := rowSb.cell 1
    (try simp only [List.getElem?_cons_succ] at u1); (try simp only [List.getElem?_cons_zero] at u1)
    go_wp2_with fail
    go_fit (scan_m O g l s [.slice sF s.fFrom.length dF, .slice sT s.fTo.length dT] true Wb (HM.out.nix kkb) hl (rGSpan_lawful.nix HSP.out kkb))
    rintro e wc ⟨gs2, rfl, HT, kc⟩
    have hF : scanF s true l = ys.reverse := by show (if true = true then _ else _) = _; rw [if_pos rfl, HYS.out]
    rw [hF] at HT
    have row7c := row7b.keep kc id
    have row8c := row8b.keep kc id
    have rowBc := rowBb.keep kc id
    have hPc := Lib.hid ((rList_lawful rGPair_lawful).nix hPb.out kc)
    have kkc := kkb.trans kc
    have hKc := (kc.block w4.heap.size (Array.getElem?_eq_some_iff.1 hK).1 id).trans hK
    have hsc := kc.size
    clear row7b row8b rowBb rowSb hPb kkb kc hF u0 u1 n0 s0 hK
    go_wp2_with fail
    have hrl : ys.reverse.length = ys.length := List.length_reverse
    have hc8c : c7 + 1 < wc.heap.size := by omega
    have hc83 : c7 + 1 < Wb.heap.size := by omega
    refine range_tells (xs := ys.reverse) rfl (enters_of Try.func37 (by kernel_rfl) rfl) HT (Nat.le_refl _) (fun k W => CntI (c7 + 1) wc (fun k => (ys.length : Int) - (k : Int)) k W) (fun _ _ => False) (fun k A B h kk => cntI_keep h kk rfl hc8c) (fun _ _ _ h _ => h) ⟨by show RowIs wc (c7 + 1) 3 [.int .i64 ((ys.length : Int) - ((0 : Nat) : Int))]; rw [show ((ys.length : Int) - ((0 : Nat) : Int)) = (ys.length : Int) by omega]; exact row8c, Keep.refl _ _⟩ ?round ?done (fun _ _ h => h.elim)
    case round =>
      rintro k hk cn Wp W ⟨row8p, k8p⟩ kN hszp hcnp
      rw [hrl] at hk
      obtain ⟨j, hj⟩ : ∃ j, ys.length - 1 - k = j := ⟨_, rfl⟩
      have hjk : j < ys.length := by omega
      have hjI : (ys.length : Int) - (k : Int) = (j : Int) + 1 := by omega
      have hrv : ys.reverse[k]'(by rw [hrl]; exact hk) = ys[j] := by rw [List.getElem_reverse]; congr 1
      rw [hrv] at hcnp
      have hjI2 : (ys.length : Int) - ((k + 1 : Nat) : Int) = (j : Int) := by omega
      have HJ2 := Lib.hid hjI2
      replace row8p : RowIs Wp (c7 + 1) 3 [.int .i64 ((j : Int) + 1)] := by rw [← hjI]; exact row8p
      have row7 := row7c
      have hP3 := hPc
      clear hjI hjI2 hrv row7c hPc rowBc row8c hKc
      obtain ⟨x, hx⟩ : ∃ x, ys[j] = x := ⟨_, rfl⟩
      have hcnx : OwnP W Wp.heap.size cn x := by rw [← hx]; exact hcnp
      have HX := Lib.hid hx
      have hcn := hcnx
      obtain ⟨aK, cK, aV, cV, rfl, o1, o2, hd12, -, -, -⟩ := hcn
      refine region_in (by kernel_rfl) (fun _ _ h => h) ?_
      have kP : Keep Nix W (W.alloc (.cells #[.slice aK x.fKey.length cK, .slice aV x.fValue.length cV, .int .i64 x.fVersion] 29)) := (Keep.refl Nix W).alloc _
      have rowP := RowIs.alloc W #[.slice aK x.fKey.length cK, .slice aV x.fValue.length cV, .int .i64 x.fVersion] 29
      clear hcnp
      go_wp2_with fail
      refine ⟨kP.nix, fun W2 k2 hs22 => ?_⟩
      clear hs22
      have hNs := kN.size
      have hPs := kP.size
      have hk2s := k2.size
      have kBk : Keep (Book wc.heap.size) Wp W2 := (kN.trans kP).nix.trans (k2.mono (fun b hb => .inr hb))
      have hbk : ∀ b, Book wc.heap.size b → b < wc.heap.size + 2 ∧ wc.heap.size ≤ b := fun b hb => by rcases hb with h | h <;> omega
      replace row8p := row8p.keep kBk (fun h => by have := hbk _ h; omega)
      have k8 := k8p.then kBk (fun i hi h => by have := hbk i h; omega)
      have k2' : Keep (Book wc.heap.size) W W2 := kP.nix.trans (k2.mono (fun b hb => .inr hb))
      have o1' := owned_keep o1 k2' (fun b hb h => by have := hbk b h; have := (o1.lt b hb).1; omega)
      have o2' := owned_keep o2 k2' (fun b hb h => by have := hbk b h; have := (o2.lt b hb).1; omega)
      have hG := rGPair_lawful.keep hcnx.gp k2' (fun b hb h => by have := hbk b h; have := hb.1; omega)
      have hl7 := row7.lt
      have hPL := (rList_lawful rGPair_lawful).keep hP3.out k8 (fun b hb h => by omega)
      obtain ⟨b, o, pK, cPK, pV, cPV, rfl, hbw, hbc, ry, y0, y1, y2⟩ := at_pair hPL j hjk
      rw [HX.out] at ry y0 y1 y2
      have s0 := (row7.keep k8 (by omega)).cell 0
      (try simp only [List.getElem?_cons_zero] at s0)
      replace rowP := rowP.keep k2 (by omega)
      have p0 := rowP.cell 0
      (try simp only [List.getElem?_cons_zero] at p0)
      have p1 := rowP.cell 1
      (try simp only [List.getElem?_cons_succ] at p1); (try simp only [List.getElem?_cons_zero] at p1)
      have p2 := rowP.cell 2
      (try simp only [List.getElem?_cons_succ] at p2); (try simp only [List.getElem?_cons_zero] at p2)
      have hWW2 : W.heap.size < W2.heap.size := rowP.lt
      have hlt1 := fun b (hb : OwnB (.slice aK x.fKey.length cK) b) => (o1.lt b hb).2
      have hlt2 := fun b (hb : OwnB (.slice aV x.fValue.length cV) b) => (o2.lt b hb).2
      clear kBk k2' k2 kP kN o1 o2 hx hcnx hPL
      have n0 := row8p.cell 0
      have nf := row8p.frozen 0
      (try simp only [List.getElem?_cons_zero] at n0)
      have hji : (0 : Int) ≤ (j : Int) := by omega
      have hjb : (j : Int) < (ys.length : Int) := by omega
      have hw1 : IntKind.i64.wrap ((j : Int) + 1 - 1) = (j : Int) := by rw [IntKind.wrap_i64]; omega
      have HP01 := Lib.hid (And.intro p0 (And.intro p1 p2))
      have HY01 := Lib.hid (And.intro y0 (And.intro y1 y2))
      have HS0 := Lib.hid s0
      clear p0 p1 p2 y0 y1 y2 s0
      refine wpIn_block (wpIn_seq (region_in (by kernel_rfl) (fun _ _ h => h) ?_))
      go_wp2_with fail
      have kS : Keep (· = c7 + 1) W2 (W2.setCell ⟨c7 + 1, 0, none⟩ (.int .i64 (j : Int))) := (Keep.refl (· = c7 + 1) W2).setCell (p := ⟨c7 + 1, 0, none⟩) (fun _ => rfl) _
      have row8f := row8p.set 0 (.int .i64 (j : Int))
      have hWc : W.heap.size ≠ c7 + 1 := by omega
      have hbc1 : b ≠ c7 + 1 := by omega
      have hl72 : c7 < W2.heap.size := Nat.lt_of_lt_of_le hl7 k8.size
      have p0 := (kS.cell (p := ⟨W.heap.size, 0, none⟩) hWW2 hWc).trans HP01.out.1
      have p1 := (kS.cell (p := ⟨W.heap.size, 1, none⟩) hWW2 hWc).trans HP01.out.2.1
      have p2 := (kS.cell (p := ⟨W.heap.size, 2, none⟩) hWW2 hWc).trans HP01.out.2.2
      have y0 := (kS.cell (p := ⟨b, o + j * 3, none⟩) hbw hbc1).trans HY01.out.1
      have y1 := (kS.cell (p := ⟨b, o + j * 3 + 1, none⟩) hbw hbc1).trans HY01.out.2.1
      have y2 := (kS.cell (p := ⟨b, o + j * 3 + 2, none⟩) hbw hbc1).trans HY01.out.2.2
      have s0 := (kS.cell (p := ⟨c7, 0, none⟩) hl72 hne7).trans HS0.out
      have m0 := row8f.cell 0
      (try simp only [List.set_cons_zero, List.getElem?_cons_zero] at m0)
      have hG2 := rGPair_lawful.keep hG kS (fun b hb e => by have := hb.1; omega)
      have ry2 := rGPair_lawful.keep ry kS (fun b hb e => by omega)
      have hWW3 := Nat.lt_of_lt_of_le hWW2 kS.size
      have hbw3 := Nat.lt_of_lt_of_le hbw kS.size
      have hl73 := Nat.lt_of_lt_of_le hl72 kS.size
      have k8f := k8.trans kS
      have kFf : Keep (Free wc.heap.size Wb.heap.size wc.heap.size) W2 (W2.setCell ⟨c7 + 1, 0, none⟩ (.int .i64 (j : Int))) := kS.mono (fun b (h : b = c7 + 1) => ⟨by omega, by omega, by omega⟩)
      clear n0 nf hG ry row8p k8 o1' o2' kS
      generalize W2.setCell ⟨c7 + 1, 0, none⟩ (.int .i64 (j : Int)) = W3 at *
      refine wpIn_seq ?_
      have kd : Keep Nix W3 W3.drew := (Keep.refl Nix W3).drew
      refine region_in_held (S := (fun w' => w'.cell? ⟨c7 + 1, 0, none⟩ = some (.int .i64 (j : Int)) ∧ w'.cell? ⟨c7, 0, none⟩ = some (.slice (some ⟨b, o, none⟩) ys.length cP) ∧ w'.cell? ⟨W.heap.size, 0, none⟩ = some (.slice aK x.fKey.length cK) ∧ w'.cell? ⟨W.heap.size, 1, none⟩ = some (.slice aV x.fValue.length cV) ∧ w'.cell? ⟨W.heap.size, 2, none⟩ = some (.int .i64 x.fVersion) ∧ w'.cell? ⟨b, o + j * 3, none⟩ = some (.slice pK x.fKey.length cPK) ∧ w'.cell? ⟨b, o + j * 3 + 1, none⟩ = some (.slice pV x.fValue.length cPV) ∧ w'.cell? ⟨b, o + j * 3 + 2, none⟩ = some (.int .i64 x.fVersion))) (by kernel_rfl) (by exact fun _ _ h => h) (by kernel_rfl) (⟨m0, s0, p0, p1, p2, y0, y1, y2⟩) (fun hHeld => ?_)
      clear m0 s0 p0 p1 p2 y0 y1 y2
      have hGd := rGPair_lawful.nix hG2 kd
      have ryd := rGPair_lawful.nix ry2 kd
      have hWd2 := Nat.lt_of_lt_of_le hWW3 kd.size
      have hbd2 := Nat.lt_of_lt_of_le hbw3 kd.size
      have hl7d := Nat.lt_of_lt_of_le hl73 kd.size
      have hl8d := Nat.lt_of_lt_of_le row8f.lt kd.size
      have row8d := row8f.keep kd id
      have k8d := k8f.trans kd.nix
      have kFd := kFf.trans kd.nix
      clear hG2 ry2 kd row8f k8f kFf
      generalize W3.drew = wd at *
      refine wpAnyH_take (i := 0) (v := ?_) rfl (by kernel_rfl) (by kernel_rfl) (by kernel_rfl) (fun _ _ _ h => h) (Or.inl ⟨by kernel_rfl, ?_⟩) hHeld ?_
      rotate_left
      · intro w' hSw
        (try dsimp only at hSw)
        (try simp only [List.getElem_toArray]); (try simp only [List.getElem_cons_succ]); (try simp only [List.getElem_cons_zero])
        go_simp
        try with_reducible rfl
      (try simp only [Act.put]); (try simp only [List.getElem_toArray]); (try simp only [List.getElem_cons_succ]); (try simp only [List.getElem_cons_zero]); (try simp only [List.setIfInBounds_toArray]); (try simp only [List.set_cons_succ]); (try simp only [List.set_cons_zero])
      refine wpAnyH_take (i := 1) (v := ?_) rfl (by kernel_rfl) (by kernel_rfl) (by kernel_rfl) (fun _ _ _ h => h) (Or.inl ⟨by kernel_rfl, ?_⟩) hHeld ?_
      rotate_left
      · intro w' hSw
        (try dsimp only at hSw)
        (try simp only [List.getElem_toArray]); (try simp only [List.getElem_cons_succ]); (try simp only [List.getElem_cons_zero])
        go_simp
        try with_reducible rfl
      (try simp only [Act.put]); (try simp only [List.getElem_toArray]); (try simp only [List.getElem_cons_succ]); (try simp only [List.getElem_cons_zero]); (try simp only [List.setIfInBounds_toArray]); (try simp only [List.set_cons_succ]); (try simp only [List.set_cons_zero])
      refine wpAnyH_take (i := 2) (v := ?_) rfl (by kernel_rfl) (by kernel_rfl) (by kernel_rfl) (fun _ _ _ h => h) (Or.inl ⟨by kernel_rfl, ?_⟩) hHeld ?_
      rotate_left
      · intro w' hSw
        (try dsimp only at hSw)
        (try simp only [List.getElem_toArray]); (try simp only [List.getElem_cons_succ]); (try simp only [List.getElem_cons_zero])
        go_simp
        try with_reducible rfl
      (try simp only [Act.put]); (try simp only [List.getElem_toArray]); (try simp only [List.getElem_cons_succ]); (try simp only [List.getElem_cons_zero]); (try simp only [List.setIfInBounds_toArray]); (try simp only [List.set_cons_succ]); (try simp only [List.set_cons_zero])
      refine wpAnyH_take (i := 3) (v := ?_) rfl (by kernel_rfl) (by kernel_rfl) (by kernel_rfl) (fun _ _ _ h => h) (Or.inl ⟨by kernel_rfl, ?_⟩) hHeld ?_
      rotate_left
      · intro w' hSw
        (try dsimp only at hSw)
        (try simp only [List.getElem_toArray]); (try simp only [List.getElem_cons_succ]); (try simp only [List.getElem_cons_zero])
        go_simp
        try with_reducible rfl
      (try simp only [Act.put]); (try simp only [List.getElem_toArray]); (try simp only [List.getElem_cons_succ]); (try simp only [List.getElem_cons_zero]); (try simp only [List.setIfInBounds_toArray]); (try simp only [List.set_cons_succ]); (try simp only [List.set_cons_zero])
      refine wpAnyH_take (i := 4) (v := ?_) rfl (by kernel_rfl) (by kernel_rfl) (by kernel_rfl) (fun _ _ _ h => h) (Or.inl ⟨by kernel_rfl, ?_⟩) hHeld ?_
      rotate_left
      · intro w' hSw
        (try dsimp only at hSw)
        (try simp only [List.getElem_toArray]); (try simp only [List.getElem_cons_succ]); (try simp only [List.getElem_cons_zero])
        go_simp
        try with_reducible rfl
      (try simp only [Act.put]); (try simp only [List.getElem_toArray]); (try simp only [List.getElem_cons_succ]); (try simp only [List.getElem_cons_zero]); (try simp only [List.setIfInBounds_toArray]); (try simp only [List.set_cons_succ]); (try simp only [List.set_cons_zero])
      refine wpAnyH_take (i := 5) (v := ?_) rfl (by kernel_rfl) (by kernel_rfl) (by kernel_rfl) (fun _ _ _ h => h) (Or.inl ⟨by kernel_rfl, ?_⟩) hHeld ?_
      rotate_left
      · intro w' hSw
        (try dsimp only at hSw)
        (try simp only [List.getElem_toArray]); (try simp only [List.getElem_cons_succ]); (try simp only [List.getElem_cons_zero])
        go_simp
        try with_reducible rfl
      (try simp only [Act.put]); (try simp only [List.getElem_toArray]); (try simp only [List.getElem_cons_succ]); (try simp only [List.getElem_cons_zero]); (try simp only [List.setIfInBounds_toArray]); (try simp only [List.set_cons_succ]); (try simp only [List.set_cons_zero])
      refine wpAnyH_take (i := 6) (v := ?_) rfl (by kernel_rfl) (by kernel_rfl) (by kernel_rfl) (fun _ _ _ h => h) (Or.inl ⟨by kernel_rfl, ?_⟩) hHeld ?_
      rotate_left
      · intro w' hSw
        (try dsimp only at hSw)
        (try simp only [List.getElem_toArray]); (try simp only [List.getElem_cons_succ]); (try simp only [List.getElem_cons_zero])
        go_simp
        try with_reducible rfl
      (try simp only [Act.put]); (try simp only [List.getElem_toArray]); (try simp only [List.getElem_cons_succ]); (try simp only [List.getElem_cons_zero]); (try simp only [List.setIfInBounds_toArray]); (try simp only [List.set_cons_succ]); (try simp only [List.set_cons_zero])
      refine wpAnyH_take (i := 7) (v := ?_) rfl (by kernel_rfl) (by kernel_rfl) (by kernel_rfl) (fun _ _ _ h => h) (Or.inl ⟨by kernel_rfl, ?_⟩) hHeld ?_
      rotate_left
      · intro w' hSw
        (try dsimp only at hSw)
        (try simp only [List.getElem_toArray]); (try simp only [List.getElem_cons_succ]); (try simp only [List.getElem_cons_zero])
        go_simp
        try with_reducible rfl
      (try simp only [Act.put]); (try simp only [List.getElem_toArray]); (try simp only [List.getElem_cons_succ]); (try simp only [List.getElem_cons_zero]); (try simp only [List.setIfInBounds_toArray]); (try simp only [List.set_cons_succ]); (try simp only [List.set_cons_zero])
      refine wpAnyH_ready (rs := [8]) (by kernel_rfl) (by simp) ?_
      refine AllReadyH.cons rfl (fun K hK => ?_) AllReadyH.nil
      rw [if_pos (by kernel_rfl)]
      go_simp
      go_fit (sPair_c wd x _ _ hGd ryd)
      rintro e w5 ⟨rfl, k5⟩
      go_wp2_with fail
      refine hK.out _ _ (⟨(k5.cell (p := ⟨c7 + 1, 0, none⟩) hl8d id).trans hHeld.1, (k5.cell (p := ⟨c7, 0, none⟩) hl7d id).trans hHeld.2.1, (k5.cell (p := ⟨W.heap.size, 0, none⟩) hWd2 id).trans hHeld.2.2.1, (k5.cell (p := ⟨W.heap.size, 1, none⟩) hWd2 id).trans hHeld.2.2.2.1, (k5.cell (p := ⟨W.heap.size, 2, none⟩) hWd2 id).trans hHeld.2.2.2.2.1, (k5.cell (p := ⟨b, o + j * 3, none⟩) hbd2 id).trans hHeld.2.2.2.2.2.1, (k5.cell (p := ⟨b, o + j * 3 + 1, none⟩) hbd2 id).trans hHeld.2.2.2.2.2.2.1, (k5.cell (p := ⟨b, o + j * 3 + 2, none⟩) hbd2 id).trans hHeld.2.2.2.2.2.2.2⟩) (fun hHeld => ?_)
      clear hK K
      (try simp only [Act.put]); (try simp only [List.getElem_toArray]); (try simp only [List.getElem_cons_succ]); (try simp only [List.getElem_cons_zero]); (try simp only [List.setIfInBounds_toArray]); (try simp only [List.set_cons_succ]); (try simp only [List.set_cons_zero])
      refine wpAnyH_take (i := 9) (v := ?_) rfl (by kernel_rfl) (by kernel_rfl) (by kernel_rfl) (fun _ _ _ h => h) (Or.inl ⟨by kernel_rfl, ?_⟩) hHeld ?_
      rotate_left
      · intro w' hSw
        (try dsimp only at hSw)
        (try simp only [List.getElem_toArray]); (try simp only [List.getElem_cons_succ]); (try simp only [List.getElem_cons_zero])
        go_simp
        try with_reducible rfl
      (try simp only [Act.put]); (try simp only [List.getElem_toArray]); (try simp only [List.getElem_cons_succ]); (try simp only [List.getElem_cons_zero]); (try simp only [List.setIfInBounds_toArray]); (try simp only [List.set_cons_succ]); (try simp only [List.set_cons_zero])
      refine wpAnyH_take (i := 10) (v := ?_) rfl (by kernel_rfl) (by kernel_rfl) (by kernel_rfl) (fun _ _ _ h => h) (Or.inl ⟨by kernel_rfl, ?_⟩) hHeld ?_
      rotate_left
      · intro w' hSw
        (try dsimp only at hSw)
        (try simp only [List.getElem_toArray]); (try simp only [List.getElem_cons_succ]); (try simp only [List.getElem_cons_zero])
        go_simp
        try with_reducible rfl
      (try simp only [Act.put]); (try simp only [List.getElem_toArray]); (try simp only [List.getElem_cons_succ]); (try simp only [List.getElem_cons_zero]); (try simp only [List.setIfInBounds_toArray]); (try simp only [List.set_cons_succ]); (try simp only [List.set_cons_zero])
      refine wpAnyH_done (by kernel_rfl) ?_ _
      clear hHeld hGd ryd
      refine wpIn_cond_false rfl (wpIn_skip ?_)
      refine ⟨kFd.trans k5.nix, ?_, k8d.trans k5.nix⟩
      show RowIs w5 (c7 + 1) 3 [.int .i64 ((ys.length : Int) - ((k + 1 : Nat) : Int))]
      rw [HJ2.out]
      exact row8d.keep k5 id
    case done =>
      intro Wd HI hK2
      obtain ⟨row8e, k8e⟩ := HI
      replace row8e : RowIs Wd (c7 + 1) 3 [.int .i64 0] := by
        have h : RowIs Wd (c7 + 1) 3 [.int .i64 ((ys.length : Int) - ((ys.reverse.length : Nat) : Int))] := row8e
        rw [hrl, Int.sub_self] at h
        exact h
      have rowBe := rowBc.keep k8e hneB
      have hKe := (k8e.block w4.heap.size (Array.getElem?_eq_some_iff.1 hKc).1 (by omega)).trans hKc
      have kke := kkc.then k8e (fun i hi h => by have := hs1.out; omega)
      clear row7c row8c rowBc hPc kkc k8e HT hKc
      obtain ⟨L, B, aPg, cPg, Sg, MI, ok, hr, hflat⟩ := HM.out.nix kke
      have hLn := pages_len (fun l hl => (ok.one l hl).1)
      have hll : (L.map List.length).length = L.length := List.length_map _
      have hsum : (L.map List.length).sum = l.length := by rw [← hflat, List.length_flatten]
      have hsc := sizes_c g (L.map List.length) Wd MI.at (by rw [hll]; rw [hflat] at hLn; omega)
      rw [hflat] at hLn
      have HOK := Lib.hid ok
      clear MI ok hr
      go_wp2_with fail
      go_fit hsc
      rintro e wf ⟨aK, cK, rfl, ownK, kf⟩
      have row8g := row8e.keep kf id
      have rowBg := rowBe.keep kf id
      have hKg := (kf.block w4.heap.size (Array.getElem?_eq_some_iff.1 hKe).1 id).trans hKe
      have hKg2 := (kf.block wc.heap.size (Array.getElem?_eq_some_iff.1 hK2).1 id).trans hK2
      have kkg := kke.trans kf
      have hz : Hid (∀ (i : Nat) (h : i < (L.map List.length).length), 1 ≤ (L.map List.length)[i] ∧ (L.map List.length)[i] ≤ 8 ∧ (1 < (L.map List.length).length → 4 ≤ (L.map List.length)[i])) := fun i h => by
        rw [List.getElem_map]
        have hi2 : i < L.length := by rw [hll] at h; exact h
        have o1 := HOK.out.one _ (List.getElem_mem hi2)
        refine ⟨by omega, o1.2, fun h4 => HOK.out.many (by rw [hll] at h4; exact h4) _ (List.getElem_mem hi2)⟩
      have hLI : Lies wf (fun _ => True) aK (iL (L.map List.length)) := (Lies.of_owned ownK).mono (fun _ _ => trivial)
      have hzl : (L.map List.length).length ≤ 100000 := by rw [hll]; omega
      have HLI := Lib.hid hLI
      clear row8e rowBe hKe hK2 kke kf ownK hll hsc hflat hLn HOK hLI
      generalize L.map List.length = zl at *
      have hsumI : (zl.sum : Int) = (l.length : Int) := by omega
      have hlI : (l.length : Int) ≤ 100000 := by omega
      go_wp2_with fail
      go_loopw [12, 13] (fun u v wr => ∃ i : Nat, i ≤ zl.length ∧ u = .int .i64 ((zl.take i).sum : Int) ∧ v = .int .i64 (i : Int) ∧ Keep Nix wf wr) (fun _ v _ => zl.length - (intOf v).toNat)
      case atStart => exact ⟨0, by omega, by simp, rfl, Keep.refl _ _⟩
      case round =>
        obtain ⟨i, hi, rfl, rfl, kr⟩ := hrel
        by_cases hlt : i < zl.length
        · have hi0 : (0 : Int) ≤ (i : Int) := by omega
          have hi1 : (i : Int) < (zl.length : Int) := by omega
          obtain ⟨z1, z8, z4⟩ := hz.out i hlt
          have hss := sum_take_succ hlt
          have hsl := sum_take_le zl (i + 1)
          obtain ⟨bz, oz, rfl, -, hbz, hcz⟩ := HLI.out (by intro e; have := congrArg List.length e; unfold iL at this; rw [List.length_map, List.length_nil] at this; omega)
          have c0 : wr.cell? ⟨bz, oz + i, none⟩ = some (.int .i64 (zl[i] : Int)) := (kr.cell (p := ⟨bz, oz + i, none⟩) hbz id).trans (hcz i _ (by unfold iL; rw [List.getElem?_map, List.getElem?_eq_getElem hlt]; rfl))
          have HSS := Lib.hid hss
          generalize zl[i] = z at *
          have hz1 : (1 : Int) ≤ (z : Int) := by omega
          have hz8 : (z : Int) ≤ 8 := by omega
          have hwr : IntKind.i64.wrap (((zl.take i).sum : Int) + (z : Int)) = ((zl.take (i + 1)).sum : Int) := by rw [IntKind.wrap_i64 , hss]; omega
          clear hcz hss hsl
          rcases Nat.lt_or_ge 1 zl.length with h1 | h1
          · have hz4 : (4 : Int) ≤ (z : Int) := by have := z4 h1; omega
            have h1I : (1 : Int) < (zl.length : Int) := by omega
            clear z1 z8 z4 h1
            go_wp2_with fail
            go_roundw
            case rel => exact ⟨i + 1, by omega, by rw [← hwr], by go_num, kr⟩
            case measure => simp [intOf]; omega
          · have h1I : (zl.length : Int) ≤ 1 := by omega
            clear z1 z8 z4 h1
            go_wp2_with fail
            go_roundw
            case rel => exact ⟨i + 1, by omega, by rw [← hwr], by go_num, kr⟩
            case measure => simp [intOf]; omega
        · obtain rfl : i = zl.length := by omega
          rw [List.take_length, hsumI]
          have n0 := (row8g.keep kr id).cell 0
          (try simp only [List.getElem?_cons_zero] at n0)
          go_wp2_with fail
          go_fit (len_m O g l wr (HM.out.nix (kkg.trans kr)) hl)
          rintro e wl ⟨rfl, kl⟩
          have kz := kr.trans kl
          have rowBl := rowBg.keep kz id
          have hK1l := (kz.block w4.heap.size (Array.getElem?_eq_some_iff.1 hKg).1 id).trans hKg
          have hK2l := (kz.block wc.heap.size (Array.getElem?_eq_some_iff.1 hKg2).1 id).trans hKg2
          have b0 := rowBl.cell 0
          (try simp only [List.getElem?_cons_zero] at b0)
          have bf := rowBl.frozen 0
          have kkl := kkg.trans kz
          clear n0 rowBg hKg hKg2 kkg kr kl kz row8g
          go_wp2_with fail
          have rowE := rowBl.set 0 (.bool true)
          have kS : Keep (· = w.heap.size + 1) wl (wl.setCell ⟨w.heap.size + 1, 0, none⟩ (.bool true)) := (Keep.refl (· = w.heap.size + 1) wl).setCell (p := ⟨w.heap.size + 1, 0, none⟩) (fun _ => rfl) _
          have h01 := hs1.out
          have hK1s := (kS.block w4.heap.size (Array.getElem?_eq_some_iff.1 hK1l).1 (by omega)).trans hK1l
          have hK2s := (kS.block wc.heap.size (Array.getElem?_eq_some_iff.1 hK2l).1 (by omega)).trans hK2l
          generalize wl.setCell ⟨w.heap.size + 1, 0, none⟩ (.bool true) = wz at *
          have kp1 := Keep.put wz wc.heap.size (.deferred none)
          have hK1t := (kp1.block w4.heap.size (Array.getElem?_eq_some_iff.1 hK1s).1 (by omega)).trans hK1s
          have kp2 := Keep.put (wz.putObj wc.heap.size (.deferred none)) w4.heap.size (.deferred none)
          have rowZ := (rowE.keep kp1 (by omega)).keep kp2 (by omega)
          refine ⟨by simp, .inl ⟨_, _, rfl, run_takeDeferred hK2s, by simp, .inl ⟨_, _, rfl, run_takeDeferred hK1t, ?_⟩⟩⟩
          exact ⟨_, results_cell_bool rfl _ _ (w.heap.size + 1) _ rfl Try.underlying4 (rowZ.cell 0), rfl, ((kkl.then kS (fun i hi e => by omega)).then kp1 (fun i hi e => by omega)).then kp2 (fun i hi e => by omega)⟩
end Go.Proofs.Ythkocgpbpgfocaa
