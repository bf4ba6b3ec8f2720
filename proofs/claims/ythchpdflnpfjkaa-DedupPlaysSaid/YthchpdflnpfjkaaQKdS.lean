/- DEDUP: Save. Printed by mac.py. -/
import Derived.Test.YthchpdflnpfjkaaQKdU
import Derived.Test.YthchpdflnpfjkaaQDed4
import Derived.Sort.KeysCollected
namespace Go.Proofs.Ythchpdflnpfjkaa
open Go.RowKit

theorem boxed {P : Program} {T n : Nat} {zs cs : List Value} (S : StructT P T n) (w : World) (hz : zs.length = n) (hc : cs.length = n) (ho : ones cs = true) :
    (storeSem T (.pointer (some ⟨w.heap.size, 0, none⟩)) (.agg cs.toArray)).run P (w.alloc (.cells zs.toArray T)) = .ok .skip ((w.alloc (.cells zs.toArray T)).setRow w.heap.size cs.toArray) ∧
      RowIs ((w.alloc (.cells zs.toArray T)).setRow w.heap.size cs.toArray) w.heap.size T cs ∧ Keep Nix w ((w.alloc (.cells zs.toArray T)).setRow w.heap.size cs.toArray) := by
  have r0 : RowIs (w.alloc (.cells zs.toArray T)) w.heap.size T zs := by have := RowIs.alloc w zs.toArray T; simpa using this
  exact ⟨store_run S r0 hz hc ho, r0.setRow cs, ((Keep.refl Nix w).alloc _).setRow (fun h => absurd h (Nat.lt_irrefl _)) _⟩
/-- The clients, rising. -/
structure Rise (ys : List Int) (last : Last) : Prop where
  rise : ys.Pairwise (· < ·)
  mem : ∀ k, k ∈ ys ↔ isU64 k ∧ (last k).isSome = true
theorem Rise.uniq {ys zs : List Int} {last : Last} (h : Rise ys last) (k : Rise zs last) : ys = zs := rising_eq h.rise k.rise (fun i => (h.mem i).trans (k.mem i).symm)
theorem Rise.of {D : DataW Value} {last : Last} (hD : ∀ k, isU64 k → Maps.has D (keyU k) = (last k).isSome) {ss ys : List Int} (hk : KeysOf D (fun _ => false) ss) (hp : ys.Perm ss) (hu : UpTo ys.length ys) : Rise ys last := by
  refine ⟨upTo_rising hu (hp.nodup_iff.2 hk.1), fun k => ?_⟩
  rw [hp.mem_iff, hk.2 k]
  constructor
  · rintro ⟨h1, h2, -⟩
    rw [hD k h1] at h2
    exact ⟨h1, h2⟩
  · rintro ⟨h1, h2⟩
    exact ⟨h1, by rw [hD k h1]; exact h2, rfl⟩
theorem keyU_same (a b : Int) : (keyU a).sameKey (keyU b) = decide (a = b) := by
  by_cases h : a = b
  · subst h; simp [keyU, Lit.sameKey]
  · simp [keyU, Lit.sameKey, h]
theorem size_keys {w : World} {bM n : Nat} {D : DataW Value} {ss : List Int} (own : w.ownsMap Try.prog 33 heldV bM n D) (h : KeysOf D (fun _ => false) ss) : Maps.size D = ss.length := by
  obtain ⟨es, hD, hp⟩ := own.tidy uK
  obtain ⟨es2, hD2, hk⟩ := own.keysOf
  obtain rfl : es = es2 := by rw [hD] at hD2; cases hD2; rfl
  have hk2 : ∀ p ∈ es, ∃ x, isU64 x ∧ p.1 = keyU x := fun p hpm => by
    obtain ⟨v, hv⟩ := hk p hpm
    obtain ⟨x, -, e, hw⟩ := Maps.keyOf_int_inv Try.underlying33 hv
    exact ⟨x, isU64_wf hw, e⟩
  rw [hD, Maps.size_eq]
  have hh : ∀ k, Maps.has D (keyU k) = es.any (fun p => p.1.sameKey (keyU k)) := fun k => by rw [hD, Maps.has_eq]
  obtain ⟨f, hf⟩ : ∃ f : Lit → Int, ∀ x, f (keyU x) = x := ⟨fun l => match l with | .int _ x => x | _ => 0, fun x => rfl⟩
  have hperm : (es.map (fun p => f p.1)).Perm ss := by
    refine (List.perm_ext_iff_of_nodup ?_ h.1).2 (fun k => ?_)
    · refine List.pairwise_map.2 (hp.imp_of_mem ?_)
      intro p q hpm hqm hne e
      obtain ⟨x, -, ex⟩ := hk2 p hpm
      obtain ⟨y, -, ey⟩ := hk2 q hqm
      rw [ex, ey, hf, hf] at e
      exact hne (by rw [ex, ey, e])
    · rw [h.2 k, hh k, List.mem_map, List.any_eq_true]
      constructor
      · rintro ⟨p, hpm, e⟩
        obtain ⟨x, hx, ex⟩ := hk2 p hpm
        rw [ex, hf] at e
        subst e
        exact ⟨hx, ⟨p, hpm, by rw [ex, keyU_same]; simp⟩, rfl⟩
      · rintro ⟨h1, ⟨p, hpm, e⟩, -⟩
        obtain ⟨x, hx, ex⟩ := hk2 p hpm
        rw [ex, keyU_same] at e
        exact ⟨p, hpm, by rw [ex, hf]; exact of_decide_eq_true e⟩
  have := hperm.length_eq
  rw [List.length_map] at this
  exact this
def entB (last : Last) (k : Int) : List UInt8 := numB k.toNat ++ (numB (seqO (last k)).toNat ++ textB (ansO (last k)))
def bodyB (last : Last) (ys : List Int) : List UInt8 := (ys.map (entB last)).flatten
def saveB (ys : List Int) (last : Last) (tp : List (List UInt8)) : List UInt8 := numB ys.length ++ bodyB last ys ++ textB (tapeB tp)
theorem textB_le (l : List UInt8) : (textB l).length ≤ 10 + l.length := by
  have := (numB_len l.length).1
  simp [textB]; omega
theorem bodyB_take (last : Last) (ys : List Int) (k : Nat) (h : k < ys.length) : bodyB last (ys.take (k + 1)) = bodyB last (ys.take k) ++ entB last ys[k] := by
  unfold bodyB
  rw [List.take_succ_eq_append_getElem h, List.map_append, List.flatten_append]; simp
theorem bodyB_len (last : Last) (hA : ∀ k, (ansO (last k)).length ≤ 100000) : ∀ (ys : List Int), (bodyB last ys).length ≤ ys.length * 100030
  | [] => Nat.le_refl _
  | y :: ys => by
    have h1 := bodyB_len last hA ys
    have h2 := (numB_len y.toNat).1
    have h3 := (numB_len (seqO (last y)).toNat).1
    have h4 := textB_le (ansO (last y))
    have h5 := hA y
    simp only [bodyB, List.map_cons, List.flatten_cons, List.length_append, entB] at h1 ⊢
    rw [List.length_cons, Nat.succ_mul]
    omega
theorem lies_lt {w : World} {p : Nat → Prop} {a : Option Addr} {xs : List Value} (h : Lies w p a xs) : Lies w (fun b => b < w.heap.size) a xs := fun hx => by
  obtain ⟨b, off, h1, -, h3, h4⟩ := h hx
  exact ⟨b, off, h1, h3, h3, h4⟩
def SavePost (w : World) (n : Nat) (last : Last) (tp : List (List UInt8)) (e : Ending) (w' : World) : Prop :=
  ∃ (ys : List Int) (a : Option Addr) (c : Nat), Rise ys last ∧ ys.length ≤ n ∧ e = .returned (.slice a (saveB ys last tp).length c) ∧ w'.ownsRow w.heap.size 5 1 (.slice a (saveB ys last tp).length c) (saveB ys last tp).length ((saveB ys last tp).map bv) ∧ Keep Nix w w'
section
attribute [local go_sem ↓] stz_told ldz_told
set_option maxRecDepth 100000 in
set_option maxHeartbeats 4000000 in
theorem save_c (O : Nat → Prop) (bD bT n : Nat) (tp : List (List UInt8)) (last : Last) (w : World) (hm : Mach w O bD bT n tp last) (hn : n ≤ 5000) (hA : ∀ k, (ansO (last k)).length ≤ 100000) (hT : (tapeB tp).length ≤ 100000000) (hL : tp.length ≤ 100000) :
    Calls Try.prog 14 #[.pointer (some ⟨bD, 0, none⟩)] w (SavePost w n last tp) := by
  have HM := Lib.hid hm
  have HLA := Lib.hid (bodyB_len last hA)
  have HA := Lib.hid hA
  obtain ⟨lt, bM, g, D, rowD, tape, pa, mp⟩ := hm
  have hlen := fun ty => mp.1.len Try.underlying62 ty
  have hD : ∀ k, isU64 k → Maps.has D (keyU k) = (last k).isSome := fun k hk => by
    obtain ⟨_, _, _, h⟩ := mp.2 k hk
    exact h
  have HD := Lib.hid hD
  have hsn : Maps.size D ≤ n := mp.1.size_le
  obtain ⟨sz, hsz⟩ : ∃ sz, Hid (Maps.size D = sz) := ⟨_, rfl⟩
  rw [hsz.out] at hlen hsn
  have hcv : IntKind.u64.wrap (sz : Int) = (sz : Int) := by simp [IntKind.wrap, IntKind.signed, IntKind.bits]; omega
  have x0 := rowD.cell 0
  (try simp only [List.getElem?_cons_zero] at x0)
  have x1 := rowD.cell 1
  (try simp only [List.getElem?_cons_succ] at x1); (try simp only [List.getElem?_cons_zero] at x1)
  have hq : ∀ w', (binOp .eql 61 (.iface 24 (.pointer (some ⟨bT, 0, none⟩))) .nilIface).run Try.prog w' = .ok (.bool false) w' := fun _ => by rfl
  have ROWD := Lib.hid rowD
  have MP := Lib.hid mp
  have TP := Lib.hid tape
  have HMLT := Lib.hid (lt bM pa.oM)
  have HC := Lib.hid (num_c sz w (by unfold Fits; omega))
  clear rowD tape mp hD hA lt
  go_enter Try.func14, Try.ntmps14
  go_wp2_with fail
  go_fit HC.out
  rintro e w1 ⟨a1, c1, rfl, own1, k1⟩
  clear HC hlen x0 x1
  have rowD := ROWD.out.keep k1 id
  have x1 := rowD.cell 1
  (try simp only [List.getElem?_cons_succ] at x1); (try simp only [List.getElem?_cons_zero] at x1)
  have OW1 := Lib.hid own1
  have K1 := Lib.hid k1
  have hs1 := k1.size
  clear own1 k1 rowD
  go_wp2_with fail
  go_fit (keys_c bM w1)
  rintro e w2 ⟨rfl, rfl⟩
  have kA : Keep Nix w1 (w1.alloc (.cells #[.map (some bM)] 62)) := (Keep.refl Nix w1).alloc _
  have HS := sorted_c w1.heap.size bM n _ (w1.alloc (.cells #[.map (some bM)] 62)) (keys_tells w1.heap.size bM n D _ (RowIs.alloc w1 _ _) (ownsMap_keep (ownsMap_keep MP.out.1 K1.out id) kA id)) (by have := HMLT.out; simp; omega) (by omega)
  have OWA := Lib.hid (owned_keep OW1.out kA (fun _ _ h => h))
  have KA := Lib.hid (K1.out.trans kA)
  replace HS := Lib.hid HS
  clear kA x1 OW1 K1
  go_wp2_with fail
  go_fit HS.out
  rintro e w3 ⟨ys, ss, aY, cY, rfl, hS, hsl, hp, hu, ownY, k3⟩
  have hR := Lib.hid (Rise.of HD.out hS hp hu)
  have hyl : ys.length = sz := by rw [hp.length_eq, ← size_keys MP.out.1 hS, hsz.out]
  have KW := Lib.hid (KA.out.trans k3)
  have OW3 := Lib.hid (owned_keep OWA.out k3 (fun _ _ h => h))
  have HSA := Lib.hid KA.out.size
  have OWY := Lib.hid ownY
  clear HS hS hp hu ownY k3 OWA KA hsl
  subst hyl
  go_wp2_with fail
  go_loopw [3, 30] (fun s i wr => ∃ (k : Nat) (B : List UInt8) (a : Option Addr) (c : Nat), k ≤ ys.length ∧ i = .int .i64 (k : Int) ∧ s = .slice a B.length c ∧ Hid (B = numB ys.length ++ bodyB last (ys.take k)) ∧ wr.ownsRow w.heap.size 5 1 (.slice a B.length c) B.length (B.map bv) ∧ Keep Nix w3 wr) (fun _ i _ => ys.length - (intOf i).toNat)
  case atStart => exact ⟨0, numB ys.length, a1, c1, Nat.zero_le _, rfl, rfl, by show _ = _; simp [bodyB], OW3.out, Keep.refl _ _⟩
  case round =>
    obtain ⟨k, B, aB, cB, hk, rfl, rfl, hB, ownB, kk⟩ := hrel
    have hBl : B.length ≤ 10 + k * 100030 := by
      have h1 := (numB_len ys.length).1
      have h2 := HLA.out (ys.take k)
      rw [hB.out, List.length_append]
      rw [List.length_take, Nat.min_eq_left hk] at h2
      omega
    have hsw := kk.size
    have OWB := Lib.hid ownB
    have HKK := Lib.hid kk
    clear ownB kk
    by_cases hlt : k < ys.length
    · have hi0 : (0 : Int) ≤ (k : Int) := by omega
      have hi1 : (k : Int) < (ys.length : Int) := by omega
      have hwk : IntKind.i64.wrap ((k : Int) + 1) = (k : Int) + 1 := by rw [IntKind.wrap_i64]; omega
      obtain ⟨bY, oY, e1, -, hbY, hcY⟩ := Lies.of_owned (owned_keep OWY.out HKK.out (fun _ _ h => h)) (by intro h; rw [List.map_eq_nil_iff] at h; rw [h] at hlt; simp at hlt)
      subst e1
      have y0 := hcY k (iv ys[k]) (by simp [hlt])
      have hstep : Hid (bodyB last (ys.take (k + 1)) = bodyB last (ys.take k) ++ entB last ys[k]) := bodyB_take last ys k hlt
      have hyu : isU64 ys[k] := ((hR.out.mem ys[k]).1 (List.getElem_mem hlt)).1
      generalize ys[k] = y at *
      replace y0 : wr.cell? ⟨bY, oY + k, none⟩ = some (.int .u64 y) := y0
      have mpr := MP.out.keep (KW.out.trans HKK.out) id (fun _ _ h => h)
      obtain ⟨v, hv, ⟨aT, cT, rfl, hla, hll, hls⟩, -⟩ := mpr.2 y hyu
      obtain ⟨LC, hLC⟩ : ∃ LC, Hid (last y = LC) := ⟨_, rfl⟩
      have hAl := HA.out y
      rw [hLC.out] at hv hla hll hls hAl
      have hlk := look_run mpr.1 hyu hv
      have rowD := ROWD.out.keep (KW.out.trans HKK.out) id
      have x1 := rowD.cell 1
      (try simp only [List.getElem?_cons_succ] at x1); (try simp only [List.getElem?_cons_zero] at x1)
      obtain ⟨hst, rowX, kX⟩ := boxed (P := Try.prog) (zs := [.int .u64 0, .slice none 0 0]) (cs := [.int .u64 (seqO LC), .slice aT (ansO LC).length cT]) S_told wr rfl rfl rfl
      have HL := Lib.hid (hla.keep kX (fun _ _ h => h))
      have HK2 := Lib.hid (HKK.out.trans kX)
      have ROWX := Lib.hid rowX
      have OWB2 := Lib.hid (owned_keep OWB.out kX (fun _ _ h => h))
      clear mpr hv hla hcY kX rowX OWB HKK rowD
      go_wp2_with fail
      clear hst hlk x1 y0
      generalize hbx : wr.heap.size = bX at *
      generalize (wr.alloc (.cells [.int .u64 0, .slice none 0 0].toArray 73)).setRow bX ([.int .u64 (seqO LC), .slice aT (ansO LC).length cT] : List Value).toArray = wx at *
      have kd : Keep Nix wx wx.drew := (Keep.refl Nix wx).drew
      have HS : Hid (∀ w', Keep Nix wx w' → w'.cell? ⟨bX, 0, none⟩ = some (.int .u64 (seqO LC)) ∧ w'.cell? ⟨bX, 1, none⟩ = some (.slice aT (ansO LC).length cT)) := fun w' kq => by
        have r := ROWX.out.keep kq id
        exact ⟨by simpa using r.cell 0, by simpa using r.cell 1⟩
      refine wp_region_held_drew (S := (fun w' => w'.cell? ⟨bX, 0, none⟩ = some (.int .u64 (seqO LC)) ∧ w'.cell? ⟨bX, 1, none⟩ = some (.slice aT (ansO LC).length cT))) (by kernel_rfl) (HS.out _ kd) (fun hHeld => ?_)
      have HS2 : Hid (∀ w', Keep Nix wx.drew w' → w'.cell? ⟨bX, 0, none⟩ = some (.int .u64 (seqO LC)) ∧ w'.cell? ⟨bX, 1, none⟩ = some (.slice aT (ansO LC).length cT)) := fun w' kq => HS.out w' (kd.trans kq)
      have HL2 := Lib.hid (HL.out.keep kd (fun _ _ h => h))
      have KD := Lib.hid (HK2.out.trans kd)
      have OWD := Lib.hid (owned_keep OWB2.out kd (fun _ _ h => h))
      clear HS kd HL HK2 OWB2 ROWX
      generalize wx.drew = wd at *
      have hszd : w.heap.size ≤ wd.heap.size := by have := KD.out.size; have := KW.out.size; omega
      refine wpAnyH_take (i := 0) (v := ?_) rfl (by kernel_rfl) (by kernel_rfl) (by kernel_rfl) (fun _ _ _ h => h) (Or.inl ⟨by kernel_rfl, ?_⟩) hHeld ?_
      rotate_left
      · intro w' hSw
        (try dsimp only at hSw)
        (try simp only [List.getElem_toArray]); (try simp only [List.getElem_cons_succ]); (try simp only [List.getElem_cons_zero])
        go_simp
        try with_reducible rfl
      (try simp only [Act.put]); (try simp only [List.getElem_toArray]); (try simp only [List.getElem_cons_succ]); (try simp only [List.getElem_cons_zero]); (try simp only [List.setIfInBounds_toArray]); (try simp only [List.set_cons_succ]); (try simp only [List.set_cons_zero])
      refine wpAnyH_take (i := 1) (v := ?_) rfl (by kernel_rfl) (by kernel_rfl) (by kernel_rfl) (fun _ _ _ h => h) (Or.inl ⟨by kernel_rfl, ?_⟩) hHeld ?_
      rotate_left
      · intro w' hSw
        (try dsimp only at hSw)
        (try simp only [List.getElem_toArray]); (try simp only [List.getElem_cons_succ]); (try simp only [List.getElem_cons_zero])
        go_simp
        try with_reducible rfl
      (try simp only [Act.put]); (try simp only [List.getElem_toArray]); (try simp only [List.getElem_cons_succ]); (try simp only [List.getElem_cons_zero]); (try simp only [List.setIfInBounds_toArray]); (try simp only [List.set_cons_succ]); (try simp only [List.set_cons_zero])
      refine wpAnyH_take (i := 3) (v := ?_) rfl (by kernel_rfl) (by kernel_rfl) (by kernel_rfl) (fun _ _ _ h => h) (Or.inl ⟨by kernel_rfl, ?_⟩) hHeld ?_
      rotate_left
      · intro w' hSw
        (try dsimp only at hSw)
        (try simp only [List.getElem_toArray]); (try simp only [List.getElem_cons_succ]); (try simp only [List.getElem_cons_zero])
        go_simp
        try with_reducible rfl
      (try simp only [Act.put]); (try simp only [List.getElem_toArray]); (try simp only [List.getElem_cons_succ]); (try simp only [List.getElem_cons_zero]); (try simp only [List.setIfInBounds_toArray]); (try simp only [List.set_cons_succ]); (try simp only [List.set_cons_zero])
      refine wpAnyH_take (i := 4) (v := ?_) rfl (by kernel_rfl) (by kernel_rfl) (by kernel_rfl) (fun _ _ _ h => h) (Or.inl ⟨by kernel_rfl, ?_⟩) hHeld ?_
      rotate_left
      · intro w' hSw
        (try dsimp only at hSw)
        (try simp only [List.getElem_toArray]); (try simp only [List.getElem_cons_succ]); (try simp only [List.getElem_cons_zero])
        go_simp
        try with_reducible rfl
      (try simp only [Act.put]); (try simp only [List.getElem_toArray]); (try simp only [List.getElem_cons_succ]); (try simp only [List.getElem_cons_zero]); (try simp only [List.setIfInBounds_toArray]); (try simp only [List.set_cons_succ]); (try simp only [List.set_cons_zero])
      refine wpAnyH_take (i := 6) (v := ?_) rfl (by kernel_rfl) (by kernel_rfl) (by kernel_rfl) (fun _ _ _ h => h) (Or.inl ⟨by kernel_rfl, ?_⟩) hHeld ?_
      rotate_left
      · intro w' hSw
        (try dsimp only at hSw)
        (try simp only [List.getElem_toArray]); (try simp only [List.getElem_cons_succ]); (try simp only [List.getElem_cons_zero])
        go_simp
        try with_reducible rfl
      (try simp only [Act.put]); (try simp only [List.getElem_toArray]); (try simp only [List.getElem_cons_succ]); (try simp only [List.getElem_cons_zero]); (try simp only [List.setIfInBounds_toArray]); (try simp only [List.set_cons_succ]); (try simp only [List.set_cons_zero])
      refine wpAnyH_take (i := 7) (v := ?_) rfl (by kernel_rfl) (by kernel_rfl) (by kernel_rfl) (fun _ _ _ h => h) (Or.inl ⟨by kernel_rfl, ?_⟩) hHeld ?_
      rotate_left
      · intro w' hSw
        (try dsimp only at hSw)
        (try simp only [List.getElem_toArray]); (try simp only [List.getElem_cons_succ]); (try simp only [List.getElem_cons_zero])
        go_simp
        try with_reducible rfl
      (try simp only [Act.put]); (try simp only [List.getElem_toArray]); (try simp only [List.getElem_cons_succ]); (try simp only [List.getElem_cons_zero]); (try simp only [List.setIfInBounds_toArray]); (try simp only [List.set_cons_succ]); (try simp only [List.set_cons_zero])
      refine wpAnyH_ready (rs := [2]) (by kernel_rfl) (by simp) ?_
      refine AllReadyH.cons rfl (fun K hK => ?_) AllReadyH.nil
      (try simp only [List.getElem_toArray]); (try simp only [List.getElem_cons_succ]); (try simp only [List.getElem_cons_zero])
      go_simp
      go_fit (num_i y wd hyu)
      rintro e w4 ⟨n1, m1, rfl, own4, k4⟩
      go_wp2_with fail
      refine hK.out _ _ ((HS2.out _ k4)) (fun hHeld => ?_)
      clear hK K
      (try simp only [Act.put]); (try simp only [List.getElem_toArray]); (try simp only [List.getElem_cons_succ]); (try simp only [List.getElem_cons_zero]); (try simp only [List.setIfInBounds_toArray]); (try simp only [List.set_cons_succ]); (try simp only [List.set_cons_zero])
      refine wpAnyH_ready (rs := [5]) (by kernel_rfl) (by simp) ?_
      refine AllReadyH.cons rfl (fun K hK => ?_) AllReadyH.nil
      (try simp only [List.getElem_toArray]); (try simp only [List.getElem_cons_succ]); (try simp only [List.getElem_cons_zero])
      go_simp
      go_fit (num_i (seqO LC) w4 hls)
      rintro e w5 ⟨n2, m2, rfl, own5, k5⟩
      go_wp2_with fail
      refine hK.out _ _ ((HS2.out _ (k4.trans k5))) (fun hHeld => ?_)
      clear hK K
      (try simp only [Act.put]); (try simp only [List.getElem_toArray]); (try simp only [List.getElem_cons_succ]); (try simp only [List.getElem_cons_zero]); (try simp only [List.setIfInBounds_toArray]); (try simp only [List.set_cons_succ]); (try simp only [List.set_cons_zero])
      refine wpAnyH_ready (rs := [8]) (by kernel_rfl) (by simp) ?_
      refine AllReadyH.cons rfl (fun K hK => ?_) AllReadyH.nil
      (try simp only [List.getElem_toArray]); (try simp only [List.getElem_cons_succ]); (try simp only [List.getElem_cons_zero])
      go_simp
      go_fit (text_c aT (ansO LC).length cT (ansO LC) w5 rfl ((HL2.out.keep k4 (fun _ _ h => h)).keep k5 (fun _ _ h => h)) (by omega))
      rintro e w6 ⟨n3, m3, rfl, own6, k6⟩
      go_wp2_with fail
      refine hK.out _ _ ((HS2.out _ ((k4.trans k5).trans k6))) (fun hHeld => ?_)
      clear hK K
      (try simp only [Act.put]); (try simp only [List.getElem_toArray]); (try simp only [List.getElem_cons_succ]); (try simp only [List.getElem_cons_zero]); (try simp only [List.setIfInBounds_toArray]); (try simp only [List.set_cons_succ]); (try simp only [List.set_cons_zero])
      refine wpAnyH_ready (rs := [9]) (by kernel_rfl) (by simp) ?_
      refine AllReadyH.cons rfl (fun K hK => ?_) AllReadyH.nil
      (try simp only [List.getElem_toArray]); (try simp only [List.getElem_cons_succ]); (try simp only [List.getElem_cons_zero])
      go_simp
      have kC : Keep Nix w6 (w6.alloc (.cells #[.slice aB B.length cB, .slice n1 (numB y.toNat).length m1, .slice n2 (numB (seqO LC).toNat).length m2, .slice n3 (textB (ansO LC)).length m3] 31)) := (Keep.refl Nix w6).alloc _
      refine hK.out _ _ ((HS2.out _ (((k4.trans k5).trans k6).trans kC))) (fun hHeld => ?_)
      clear hK K
      (try simp only [Act.put]); (try simp only [List.getElem_toArray]); (try simp only [List.getElem_cons_succ]); (try simp only [List.getElem_cons_zero]); (try simp only [List.setIfInBounds_toArray]); (try simp only [List.set_cons_succ]); (try simp only [List.set_cons_zero])
      have rowC : RowIs (w6.alloc (.cells #[.slice aB B.length cB, .slice n1 (numB y.toNat).length m1, .slice n2 (numB (seqO LC).toNat).length m2, .slice n3 (textB (ansO LC)).length m3] 31)) w6.heap.size 31 [.slice aB B.length cB, .slice n1 (numB y.toNat).length m1, .slice n2 (numB (seqO LC).toNat).length m2, .slice n3 (textB (ansO LC)).length m3] := RowIs.alloc w6 _ _
      have hpl : B.length + ((numB y.toNat).length + ((numB (seqO LC).toNat).length + (textB (ansO LC)).length)) ≤ 1000000000 := by
        have h1 := (numB_len y.toNat).1
        have h2 := (numB_len (seqO LC).toNat).1
        have h3 := textB_le (ansO LC)
        have h4 : k * 100030 ≤ 5000 * 100030 := Nat.mul_le_mul_right _ (by omega)
        omega
      have hpl0 : 0 < (numB y.toNat).length := (numB_len y.toNat).2
      have kq6 := (k4.trans k5).trans k6
      have hparts : PartsAt (w6.alloc (.cells #[.slice aB B.length cB, .slice n1 (numB y.toNat).length m1, .slice n2 (numB (seqO LC).toNat).length m2, .slice n3 (textB (ansO LC)).length m3] 31)) (fun b => b < (w6.alloc (.cells #[.slice aB B.length cB, .slice n1 (numB y.toNat).length m1, .slice n2 (numB (seqO LC).toNat).length m2, .slice n3 (textB (ansO LC)).length m3] 31)).heap.size) [.slice aB B.length cB, .slice n1 (numB y.toNat).length m1, .slice n2 (numB (seqO LC).toNat).length m2, .slice n3 (textB (ansO LC)).length m3] [B, numB y.toNat, numB (seqO LC).toNat, textB (ansO LC)] :=
        ((((PartsAt.nil _ _).cons rfl (lies_lt ((Lies.of_owned own6).keep kC (fun _ _ h => h)))).cons rfl (lies_lt (((Lies.of_owned own5).keep k6 (fun _ _ h => h)).keep kC (fun _ _ h => h)))).cons rfl (lies_lt ((((Lies.of_owned own4).keep k5 (fun _ _ h => h)).keep k6 (fun _ _ h => h)).keep kC (fun _ _ h => h)))).cons rfl (lies_lt (((Lies.of_owned OWD.out).keep kq6 (fun _ _ h => h)).keep kC (fun _ _ h => h)))
      have HC := concat_c w6.heap.size 4 [B, numB y.toNat, numB (seqO LC).toNat, textB (ansO LC)] [.slice aB B.length cB, .slice n1 (numB y.toNat).length m1, .slice n2 (numB (seqO LC).toNat).length m2, .slice n3 (textB (ansO LC)).length m3] (w6.alloc (.cells #[.slice aB B.length cB, .slice n1 (numB y.toNat).length m1, .slice n2 (numB (seqO LC).toNat).length m2, .slice n3 (textB (ansO LC)).length m3] 31)) rowC hparts (fun _ h => h) (by simp; omega) (by simpa using hpl) (by simp)
      have kq := (kq6.trans kC)
      refine wpAnyH_ready (rs := [10]) (by kernel_rfl) (by simp) ?_
      refine AllReadyH.cons rfl (fun K hK => ?_) AllReadyH.nil
      (try simp only [List.getElem_toArray]); (try simp only [List.getElem_cons_succ]); (try simp only [List.getElem_cons_zero])
      go_simp
      go_fit HC
      rintro e w7 ⟨a7, c7, rfl, own7, k7⟩
      go_wp2_with fail
      refine hK.out _ _ ((HS2.out _ (kq.trans k7))) (fun hHeld => ?_)
      clear hK K
      (try simp only [Act.put]); (try simp only [List.getElem_toArray]); (try simp only [List.getElem_cons_succ]); (try simp only [List.getElem_cons_zero]); (try simp only [List.setIfInBounds_toArray]); (try simp only [List.set_cons_succ]); (try simp only [List.set_cons_zero])
      refine wpAnyH_take (i := 11) (v := ?_) rfl (by kernel_rfl) (by kernel_rfl) (by kernel_rfl) (fun _ _ _ h => h) (Or.inl ⟨by kernel_rfl, ?_⟩) hHeld ?_
      rotate_left
      · intro w' hSw
        (try dsimp only at hSw)
        (try simp only [List.getElem_toArray]); (try simp only [List.getElem_cons_succ]); (try simp only [List.getElem_cons_zero])
        go_simp
        try with_reducible rfl
      (try simp only [Act.put]); (try simp only [List.getElem_toArray]); (try simp only [List.getElem_cons_succ]); (try simp only [List.getElem_cons_zero]); (try simp only [List.setIfInBounds_toArray]); (try simp only [List.set_cons_succ]); (try simp only [List.set_cons_zero])
      refine wpAnyH_done (by kernel_rfl) ?_ _
      have hB7 : Hid ((([B, numB y.toNat, numB (seqO LC).toNat, textB (ansO LC)] : List (List UInt8)).flatten) = numB ys.length ++ bodyB last (ys.take (k + 1))) := by
        show _ = _
        rw [hstep.out, hB.out]
        simp [entB, hLC.out]
      have hB7l : Hid ((([B, numB y.toNat, numB (seqO LC).toNat, textB (ansO LC)] : List (List UInt8)).flatten).length = B.length + ((numB y.toNat).length + ((numB (seqO LC).toNat).length + (textB (ansO LC)).length))) := by show _ = _; simp
      have OW7 := Lib.hid (owned_base own7 (base' := w.heap.size) (by have := kq.size; omega))
      have K7 := Lib.hid ((KD.out.trans kq).trans k7)
      clear own4 own5 own6 own7 k4 k5 k6 k7 kq kq6 kC rowC hparts HC hHeld HS2 OWD KD hpl hpl0 HL2
      generalize ([B, numB y.toNat, numB (seqO LC).toNat, textB (ansO LC)] : List (List UInt8)).flatten = B7 at *
      go_wp2_with fail
      go_roundw
      case rel => exact ⟨k + 1, B7, a7, c7, by omega, by go_num, by rw [hB7l.out], hB7, OW7.out, K7.out⟩
      case measure => simp [intOf]; omega
    · obtain rfl : k = ys.length := by omega
      have kw := KW.out.trans HKK.out
      have rowD := ROWD.out.keep kw id
      have z0 := rowD.cell 0
      (try simp only [List.getElem?_cons_zero] at z0)
      have hmeth : ∀ w', (method 257 24 (.pointer (some ⟨bT, 0, none⟩)) "Save").run Try.prog w' = .ok (106, .pointer (some ⟨bT, 0, none⟩)) w' := fun _ => by kernel_rfl
      have HC := Lib.hid (tSave_c bT g tp wr (TP.out.keep kw id (fun _ _ h => h)) (by omega) hL)
      have KWR := Lib.hid kw
      have hszr : w.heap.size ≤ wr.heap.size := kw.size
      clear rowD kw
      go_wp2_with fail
      go_fit HC.out
      rintro e w4 ⟨a4, c4, rfl, own4, k4⟩
      have HC := Lib.hid (text_c a4 (tapeB tp).length c4 (tapeB tp) w4 rfl (Lies.of_owned own4) (by omega))
      have OWB4 := Lib.hid (owned_keep OWB.out k4 (fun _ _ h => h))
      have KW4 := Lib.hid (KWR.out.trans k4)
      clear own4 k4 z0 OWB KWR
      go_wp2_with fail
      go_fit HC.out
      rintro e w5 ⟨a5, c5, rfl, own5, k5⟩
      have OWB5 := owned_keep OWB4.out k5 (fun _ _ h => h)
      have L5 := Lib.hid (Lies.of_owned own5)
      have KW5 := Lib.hid (KW4.out.trans k5)
      have hsz5 : w.heap.size ≤ w5.heap.size := KW5.out.size
      have htl := textB_le (tapeB tp)
      clear own5 k5 HC OWB4 KW4
      go_wp2_with (at_builtin; refine wpl_append (m := (textB (tapeB tp)).length) (c := c5) T_bytes ?hgd (.tmp 52) (.tmp 58) ?ho w.heap.size ?hs OWB5 ((textB (tapeB tp)).map bv) ?hx ?c0 L5.out ?c1 ?c2 ?c3 ?c4 ?_)
      case hgd => rfl
      case ho => rfl
      case hs => rfl
      case hx => rfl
      case c0 => simp
      case c1 => exact bv_one _
      case c2 => unfold maxLen; omega
      case c3 => omega
      case c4 => exact hsz5
      intro a' cap' w6 own6 hg6
      have k6 : Keep Nix w w6 := KW5.out.grown hg6 (fun i hi hlt6 => by have := (OWB5.lt i hi).1; omega)
      have HFIN : Hid (B ++ textB (tapeB tp) = saveB ys last tp) := by show _ = _; rw [hB.out, List.take_length]; simp [saveB]
      have OW6 := Lib.hid own6
      have K6 := Lib.hid k6
      clear own6 hg6 k6 OWB5
      go_wp2_with fail
      go_ret
      refine ⟨ys, a', cap', hR.out, by omega, ?_, ?_, K6.out⟩
      · rw [← HFIN.out, List.length_append]; rfl
      · rw [← HFIN.out, List.length_append, List.map_append]; exact OW6.out
end
end Go.Proofs.Ythchpdflnpfjkaa
