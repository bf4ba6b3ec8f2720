/- PAGES: Fork. Printed by mac.py. -/
import Derived.Test.YthkocgpbpgfocaaPgM
namespace Go.Proofs.Ythkocgpbpgfocaa
open Go.RowKit

theorem MapIs.addPage {w w' : World} {O B B' : Nat → Prop} {g : Nat} {aP aQ : Option Addr} {cP cQ : Nat} {S : List Value} {L : List (List GPair)} (M : MapIs w O B g aP cP S L) {v : Value} {l : List GPair} {T : Nat → Prop} (k : Keep T w w')
    (hT : ∀ b, T b → OwnB (.slice aP L.length cP) b ∨ b = g) (row' : RowIs w' g 65 [.slice aQ (L.length + 1) cQ]) (own' : w'.ownsRow 0 22 1 (.slice aQ (L.length + 1) cQ) (L.length + 1) (S ++ [v])) (hQ : ∀ b, OwnB (.slice aQ (L.length + 1) cQ) b → OwnB (.slice aP L.length cP) b ∨ w.heap.size ≤ b)
    (hp : PageIs w' B' v l) (hv : ∀ b, OwnB v b → w.heap.size ≤ b ∧ ¬ OwnB (.slice aQ (L.length + 1) cQ) b) (hB : ∀ b, B b → B' b) (hB' : ∀ b, B' b → B b ∨ (w.heap.size ≤ b ∧ b < w'.heap.size ∧ ¬ OwnB (.slice aQ (L.length + 1) cQ) b ∧ ¬ OwnB v b)) :
    MapIs w' (fun b => O b ∨ (w.heap.size ≤ b ∧ b < w'.heap.size)) B' g aQ cQ (S ++ [v]) (L ++ [l]) := by
  have hSl := M.len
  have hLl : (L ++ [l]).length = L.length + 1 := by simp
  have hg := M.lt _ M.og
  have hmem : ∀ u ∈ S ++ [v], u = v ∨ u ∈ S := fun u hu => by
    rcases List.mem_append.1 hu with h | h
    · exact .inr h
    · exact .inl (by simpa using h)
  have hQO : ∀ b, OwnB (.slice aQ (L.length + 1) cQ) b → (O b ∨ (w.heap.size ≤ b ∧ b < w'.heap.size)) ∧ b ≠ g := fun b hb => by
    rcases hQ b hb with h | h
    · exact ⟨.inl (M.oP b h).1, (M.oP b h).2⟩
    · exact ⟨.inr ⟨h, (own'.lt b hb).2⟩, by omega⟩
  have hSO : ∀ u ∈ S, ∀ b, OwnB u b → ¬ T b := fun u hu b hb h => by
    rcases hT b h with h | h
    · exact (M.oS u hu b hb).2.2 h
    · exact (M.oS u hu b hb).2.1 h
  have hBT : ∀ b, B b → ¬ T b := fun b hb h => by
    rcases hT b h with h | h
    · exact (M.oB b hb).2.2.1 h
    · exact (M.oB b hb).2.1 h
  have hnQ : ∀ b, O b → ¬ OwnB (.slice aP L.length cP) b → ¬ OwnB (.slice aQ (L.length + 1) cQ) b := fun b h1 h2 h3 => by
    rcases hQ b h3 with h | h
    · exact h2 h
    · have := M.lt b h1; omega
  have hvS : ∀ u ∈ S, ∀ b, OwnB u b → ¬ OwnB v b := fun u hu b hb h => by have := hv b h; have := M.lt b (M.oS u hu b hb).1; omega
  refine { row := by rw [hLl]; exact row', own := by rw [hLl]; exact own', pg := fun q h => ?_, og := .inl M.og, oP := fun b hb => by rw [hLl] at hb; exact hQO b hb, oS := fun u hu b hb => ?_, oB := fun b hb => ?_, ap := ?_, lt := fun b hb => ?_ }
  · rw [hLl] at h
    by_cases e : q < L.length
    · obtain ⟨h', p⟩ := M.pg q e
      refine ⟨by rw [List.length_append]; omega, ?_⟩
      rw [List.getElem_append_left h', List.getElem_append_left e]
      exact (p.keep k (hSO _ (List.getElem_mem h')) hBT).mono hB
    · have e2 : q = L.length := by omega
      subst e2
      refine ⟨by rw [List.length_append, List.length_singleton]; omega, ?_⟩
      rw [List.getElem_append_right (by omega), List.getElem_append_right (Nat.le_refl _)]
      simp only [List.getElem_singleton]
      exact hp
  · rw [hLl]
    rcases hmem u hu with rfl | hu
    · have := hv b hb
      exact ⟨.inr ⟨this.1, hp.lt hb⟩, by omega, this.2⟩
    · have := M.oS u hu b hb
      exact ⟨.inl this.1, this.2.1, hnQ b this.1 this.2.2⟩
  · rw [hLl]
    rcases hB' b hb with h | ⟨h1, h2, h3, h4⟩
    · obtain ⟨o1, o2, o3, o4⟩ := M.oB b h
      refine ⟨.inl o1, o2, hnQ b o1 o3, fun u hu => ?_⟩
      rcases hmem u hu with rfl | hu
      · intro h; have := hv b h; have := M.lt b o1; omega
      · exact o4 u hu
    · refine ⟨.inr ⟨h1, h2⟩, by omega, h3, fun u hu => ?_⟩
      rcases hmem u hu with rfl | hu
      · exact h4
      · intro h; have := M.lt _ (M.oS u hu b h).1; omega
  · rw [List.pairwise_append]
    exact ⟨M.ap, List.pairwise_singleton _ _, fun a ha c hc => by
      rw [List.mem_singleton] at hc
      subst hc
      exact hvS a ha⟩
  · rcases hb with h | h
    · exact Nat.lt_of_lt_of_le (M.lt b h) k.size
    · exact h.2
theorem MapIs.monoO {w : World} {O O' B : Nat → Prop} {g : Nat} {aP : Option Addr} {cP : Nat} {S : List Value} {L : List (List GPair)} (M : MapIs w O B g aP cP S L) (h : ∀ b, O b → O' b) (hl : ∀ b, O' b → b < w.heap.size) : MapIs w O' B g aP cP S L :=
  { row := M.row, own := M.own, pg := M.pg, og := h _ M.og, oP := fun b hb => ⟨h _ (M.oP b hb).1, (M.oP b hb).2⟩, oS := fun v hv b hb => ⟨h _ (M.oS v hv b hb).1, (M.oS v hv b hb).2⟩, oB := fun b hb => ⟨h _ (M.oB b hb).1, (M.oB b hb).2⟩, ap := M.ap, lt := hl }
def ForkM (w : World) (l : List GPair) (e : Ending) (w' : World) : Prop := ∃ g' O', e = .returned (.pointer (some ⟨g', 0, none⟩)) ∧ IsMap w' O' g' l ∧ (∀ b, O' b → w.heap.size ≤ b ∧ b < w'.heap.size) ∧ Keep Nix w w'
set_option maxRecDepth 100000 in
set_option maxHeartbeats 4000000 in
theorem fork_m (O : Nat → Prop) (g : Nat) (l : List GPair) (w : World) (M : IsMap w O g l) (hl : l.length ≤ 100000) :
    Calls Try.prog 25 #[.pointer (some ⟨g, 0, none⟩)] w (ForkM w l) := by
  obtain ⟨L, B, aP, cP, S, MI, ok, hr, rfl⟩ := M
  have hLn := pages_len (fun l hl => (ok.one l hl).1)
  have hfar : ∀ l ∈ L, l.length ≤ far := fun l hl => by have := (ok.one l hl).2; unfold far; omega
  have HPG := Lib.hid (MI.pages (by unfold far; omega) hfar)
  have HM := Lib.hid MI
  have HOK := Lib.hid ok
  have HR := Lib.hid hr
  clear MI ok hr hfar
  go_enter Try.func25, Try.ntmps25
  go_wp2_with fail
  go_fit (new_c w)
  rintro e w1 ⟨rfl, rowF, k1⟩
  have g0 := (HM.out.row.keep k1 id).cell 0
  (try simp only [List.getElem?_cons_zero] at g0)
  have hs1 := rowF.lt
  have k1s := k1.size
  have hst : MapIs w1 (NewIn w w1) (fun _ => False) w.heap.size none 0 [] [] := mapIs_nil rowF ⟨Nat.le_refl _, hs1⟩ (fun b hb => hb.2)
  clear rowF
  go_wp2_with fail
  clear g0
  go_loopw [17] (fun i wr => ∃ (k : Nat) (Bf : Nat → Prop) (aF : Option Addr) (cF : Nat) (SF : List Value), k ≤ L.length ∧ i = .int .i64 k ∧ MapIs wr (NewIn w wr) Bf w.heap.size aF cF SF (L.take k) ∧ Keep Nix w wr) (fun i _ => L.length - (intOf i).toNat)
  case atStart => exact ⟨0, _, _, _, _, by omega, rfl, hst, k1⟩
  case round =>
    clear hst k1 hs1 k1s
    obtain ⟨k, Bf, aF, cF, SF, hk, rfl, MF, kk⟩ := hrel
    obtain ⟨ws, rfl⟩ : ∃ ws, ws = wr := ⟨_, rfl⟩
    by_cases hlt : k < L.length
    · have hi0 : (0 : Int) ≤ (k : Int) := by omega
      have hi1 : (k : Int) < (L.length : Int) := by omega
      obtain ⟨b, o, _, cs, e1, -, hb, rP, hcl⟩ := rList_at (rList_lawful rGPair_lawful) (by decide) HPG.out k hlt
      simp only [List.cons.injEq, Value.slice.injEq, and_true] at e1
      obtain ⟨rfl, -, -⟩ := e1
      have HTK : Hid (L.take (k + 1) = L.take k ++ [L[k]]) := List.take_succ_eq_append_getElem hlt
      have hp8 := (HOK.out.one _ (List.getElem_mem hlt)).2
      generalize L[k] = pg at *
      obtain ⟨aG, cG, _, rfl, -⟩ := id rP
      have y0 := hcl 0 _ rfl
      (try simp only [Nat.add_zero, Nat.mul_one] at y0)
      replace y0 := (kk.cell (p := ⟨b, o + k, none⟩) hb id).trans y0
      have HRP := Lib.hid rP
      have HMF := Lib.hid MF
      clear hcl rP MF
      go_wp2_with fail
      clear y0
      go_loopw [6, 23] (fun u i wx => ∃ (j : Nat) (a : Option Addr) (c : Nat) (css : List (List Value)), j ≤ pg.length ∧ i = .int .i64 j ∧ u = .slice a j c ∧ wx.ownsRow ws.heap.size 29 3 (.slice a j c) j css.flatten ∧ Els rGPair wx (fun b => NewIn ws wx b ∧ ¬ OwnB (.slice a j c) b) css (pg.take j) ∧ Keep Nix ws wx) (fun _ i _ => pg.length - (intOf i).toNat)
      case atStart => exact ⟨0, none, 0, [], by omega, rfl, rfl, World.ownsRow_nil _ _ _ _, Els.nil _ _ _, Keep.refl _ _⟩
      case round =>
        obtain ⟨j, a1, c1, css, hj, rfl, rfl, own, els, kx⟩ := hrel
        have hsx := kx.size
        by_cases hjt : j < pg.length
        · have hj0 : (0 : Int) ≤ (j : Int) := by omega
          have hj1 : (j : Int) < (pg.length : Int) := by omega
          obtain ⟨bq, oq, aK, cK, aV, cV, rfl, hbq, -, rx, x0, x1, x2⟩ := at_pair HRP.out j hjt
          have kwx := kk.trans kx
          replace x0 := (kwx.cell (p := ⟨bq, oq + j * 3, none⟩) hbq id).trans x0
          replace x1 := (kwx.cell (p := ⟨bq, oq + j * 3 + 1, none⟩) hbq id).trans x1
          replace x2 := (kwx.cell (p := ⟨bq, oq + j * 3 + 2, none⟩) hbq id).trans x2
          have HT2 : Hid (pg.take (j + 1) = pg.take j ++ [pg[j]]) := List.take_succ_eq_append_getElem hjt
          obtain ⟨x, hx⟩ : ∃ x, pg[j] = x := ⟨_, rfl⟩
          rw [hx] at rx x0 x1 x2 HT2
          have kA : Keep Nix wr (wr.alloc (.cells #[.slice aK x.fKey.length cK, .slice aV x.fValue.length cV, .int .i64 x.fVersion] 29)) := (Keep.refl Nix wr).alloc _
          have rowX := RowIs.alloc wr #[.slice aK x.fKey.length cK, .slice aV x.fValue.length cV, .int .i64 x.fVersion] 29
          have z0 := rowX.cell 0
          (try simp only [List.getElem?_cons_zero] at z0)
          have z1 := rowX.cell 1
          (try simp only [List.getElem?_cons_succ] at z1); (try simp only [List.getElem?_cons_zero] at z1)
          have z2 := rowX.cell 2
          (try simp only [List.getElem?_cons_succ] at z2); (try simp only [List.getElem?_cons_zero] at z2)
          have HO := Lib.hid (own_p x [.slice aK x.fKey.length cK, .slice aV x.fValue.length cV, .int .i64 x.fVersion] (wr.alloc (.cells #[.slice aK x.fKey.length cK, .slice aV x.fValue.length cV, .int .i64 x.fVersion] 29)) (rGPair_lawful.nix rx (kwx.trans kA)))
          have own2 := owned_keep own kA (fun _ _ h => h)
          have hsA := kA.size
          clear hx rx rowX
          go_wp2_with fail
          go_fit HO.out
          rintro e w2 ⟨cn, rfl, hcn, k2⟩
          have hG := hcn.gp
          obtain ⟨a3, c3, a4, c4, rfl, o3, o4, -⟩ := hcn
          have hk2 := k2.size
          replace own2 := owned_keep own2 k2 (fun _ _ h => h)
          clear x0 x1 x2 z0 z1 z2 o3 o4 HO
          go_wp2_with (at_builtin; refine wpl_append1_at (c := 1) T_lPair ?hgd (.tmp 27) (.tmp 30) ?ho ws.heap.size ?hs own2 ?hx ?c0 ?c1 ?c2 ?c3 ?c4 ?_)
          case hgd => rfl
          case ho => rfl
          case hs => rfl
          case hx => rfl
          case c0 => rfl
          case c1 => simp [Value.oneCell']
          case c2 => unfold maxLen; omega
          case c3 => omega
          case c4 => omega
          intro a' cap' w6 own6 k6 hfresh
          have els2 := els.push0 rGPair_lawful (rGPair_lawful.mono hG (q := NewIn wr w2) (fun b hb => ⟨by have := hb.1; omega, hb.2⟩)) (kA.trans k2) k6 (by omega) (fun b hb => (own.lt b hb).2) hfresh
          have hn6 : ∀ b, OwnB (.slice a1 j c1) b → ws.heap.size ≤ b := fun b hb => (own.lt b hb).1
          have kk2 := ((kx.trans kA).trans k2).then k6 (fun i hi hb => by have := hn6 _ hb; omega)
          clear own own2 els hfresh k6 k2 kA kx hG kwx
          go_wp2_with fail
          go_roundw
          case rel => exact ⟨j + 1, a', cap', css ++ [[.slice a3 x.fKey.length c3, .slice a4 x.fValue.length c4, .int .i64 x.fVersion]], by omega, by go_num, rfl, by simpa using own6, by rw [HT2.out]; exact els2, kk2⟩
          case measure => simp [intOf]; omega
        · obtain rfl : j = pg.length := by omega
          rw [List.take_length] at els
          have M2 := HMF.out.keep kx.nix (T := fun _ => False) (fun _ _ h => h)
          have hlen : (L.take k).length = k := by rw [List.length_take]; omega
          have f0 := M2.row.cell 0
          have ff := M2.row.frozen 0
          (try simp only [List.getElem?_cons_zero] at f0)
          have hown := M2.own
          rw [hlen] at f0 hown
          go_wp2_with (at_builtin; refine wpl_append1_at (c := 1) T_lPages ?hgd (.tmp 37) (.tmp 39) ?ho 0 ?hs hown ?hx ?c0 ?c1 ?c2 ?c3 ?c4 ?_)
          case hgd => rfl
          case ho => rfl
          case hs => rfl
          case hx => rfl
          case c0 => rfl
          case c1 => simp [Value.oneCell']
          case c2 => unfold maxLen; omega
          case c3 => omega
          case c4 => omega
          intro aQ cQ w6 own6 k6 hfresh
          have hP2 : ∀ b, OwnB (.slice aF k cF) b → NewIn w ws b ∧ b ≠ w.heap.size := fun b hb => HMF.out.oP b (by rw [hlen]; exact hb)
          have row6 := M2.row.keep k6 (fun h => (hP2 _ h).2 rfl)
          have hv1 : ∀ b, OwnB (.slice a1 pg.length c1) b → ws.heap.size ≤ b ∧ b < wr.heap.size := fun b hb => own.lt b hb
          have hQ1 : ∀ b, ws.heap.size ≤ b → b < wr.heap.size → ¬ OwnB (.slice aQ (k + 1) cQ) b := fun b h1 h2 h => by
            rcases hfresh b h with h | h
            · have := (hP2 b h).1.2; omega
            · omega
          have hs6 := k6.size
          have own6' := owned_keep own k6 (fun b hb h => by have := hv1 b hb; have := (hP2 b h).1.2; omega)
          have els6 := els.keep rGPair_lawful k6 (fun b hb h => by have := hb.1.1; have := (hP2 b h).1.2; omega)
          have g0 := row6.cell 0
          have gf := row6.frozen 0
          rw [hlen] at g0
          (try simp only [List.getElem?_cons_zero] at g0)
          have HR6 := Lib.hid row6
          have HOW := Lib.hid own6
          have HOV := Lib.hid own6'
          have HEL := Lib.hid els6
          have HK6 := Lib.hid k6
          clear f0 ff hown own els own6 own6' els6 row6 M2 k6
          go_wp2_with fail
          have kS : Keep (· = w.heap.size) w6 (w6.setCell ⟨w.heap.size, 0, none⟩ (.slice aQ (k + 1) cQ)) := (Keep.refl (· = w.heap.size) w6).setCell (p := ⟨w.heap.size, 0, none⟩) (fun _ => rfl) _
          have hsS := kS.size
          have row7 := HR6.out.set 0 (.slice aQ (k + 1) cQ)
          have hgw : w.heap.size < ws.heap.size := (HMF.out.og).2
          have own7 := owned_keep HOW.out kS (fun b hb e => by
            rcases hfresh b hb with h | h
            · exact (hP2 b h).2 e
            · omega)
          have kT : Keep (fun b => OwnB (.slice aF k cF) b ∨ b = w.heap.size) ws (w6.setCell ⟨w.heap.size, 0, none⟩ (.slice aQ (k + 1) cQ)) := (kx.nix.trans (HK6.out.mono (fun b hb => .inl hb))).trans (kS.mono (fun b hb => .inr hb))
          have P7 : PageIs (w6.setCell ⟨w.heap.size, 0, none⟩ (.slice aQ (k + 1) cQ)) (fun b => Bf b ∨ (NewIn ws wr b ∧ ¬ OwnB (.slice a1 pg.length c1) b)) (.slice a1 pg.length c1) pg :=
            ⟨a1, c1, css, rfl, own_weak (owned_keep HOV.out kS (fun b hb e => by have := hv1 b hb; omega)), (HEL.out.keep rGPair_lawful kS (fun b hb e => by have := hb.1.1; omega)).mono rGPair_lawful (fun b hb => .inr hb)⟩
          have M7 := HMF.out.addPage kT (fun b hb => by rw [hlen]; exact hb) (by rw [hlen]; exact row7) (by rw [hlen]; exact own7) (fun b hb => by
            rw [hlen] at hb ⊢
            exact (hfresh b hb).imp id (fun h => Nat.le_trans hsx h)) P7 (fun b hb => by
            rw [hlen]
            have := hv1 b hb
            exact ⟨this.1, hQ1 b this.1 this.2⟩) (fun b hb => .inl hb) (fun b hb => hb.imp id (fun h => by
            rw [hlen]
            have h1 : ws.heap.size ≤ b := h.1.1
            have h2 : b < wr.heap.size := h.1.2
            exact ⟨h1, by omega, hQ1 b h1 h2, h.2⟩))
          rw [← HTK.out] at M7
          have hsw := kk.size
          have M8 := M7.monoO (O' := NewIn w (w6.setCell ⟨w.heap.size, 0, none⟩ (.slice aQ (k + 1) cQ))) (fun b hb => by
            rcases hb with h | h
            · exact ⟨h.1, by have := h.2; omega⟩
            · exact ⟨by have := h.1; omega, h.2⟩) (fun b hb => hb.2)
          have kk9 := kk.then kT (fun i hi h => by
            rcases h with h | h
            · have := (hP2 i h).1.1; omega
            · omega)
          have HM8 := Lib.hid M8
          clear M7 M8 P7 own7 row7 kT
          go_roundw
          case rel => exact ⟨k + 1, _, _, _, _, by omega, by go_num, HM8.out, kk9⟩
          case measure => simp [intOf]; omega
    · obtain rfl : k = L.length := by omega
      rw [List.take_length] at MF
      go_wp2_with fail
      go_ret
      exact ⟨w.heap.size, NewIn w ws, rfl, ⟨L, _, _, _, _, MF, HOK.out, HR.out, rfl⟩, fun b hb => hb, kk⟩
end Go.Proofs.Ythkocgpbpgfocaa
