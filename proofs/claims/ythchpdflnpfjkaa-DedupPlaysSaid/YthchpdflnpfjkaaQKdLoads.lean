/- DEDUP: the law DedupLoads. Printed by mac.py. -/
import Derived.Test.YthchpdflnpfjkaaQKdL
namespace Go.Proofs.Ythchpdflnpfjkaa
open Go.RowKit

theorem enc_small' (x : GCall) (h : x.fData.length ≤ 400) : (encGCall x).length ≤ 5000 := by
  have h1 := encU_len x.fClient; have h2 := encU_len x.fSeq; have h3 := textB_le x.fData
  simp only [encGCall, List.length_append]; omega
/-- What k calls leave. -/
structure Bnd (k : Nat) (tp : List (List UInt8)) (last : Last) : Prop where
  tl : tp.length ≤ k
  tb : (tapeB tp).length ≤ k * 310
  td : ∀ l ∈ tp, l.length ≤ 300
  an : ∀ i, (ansO (last i)).length ≤ 302
  sq : ∀ i, (last i).isSome = true → isU64 (seqO (last i)) ∧ seqO (last i) ≠ 0
theorem Bnd.start : Bnd 0 [] (fun _ => none) := ⟨Nat.le_refl _, Nat.le_refl _, (fun l h => by cases h), (fun i => Nat.zero_le _), (fun i h => by cases h)⟩
theorem Bnd.more {k m : Nat} {tp : List (List UInt8)} {last : Last} (h : Bnd k tp last) (hm : k ≤ m) : Bnd m tp last := ⟨Nat.le_trans h.tl hm, Nat.le_trans h.tb (Nat.mul_le_mul_right _ hm), h.td, h.an, h.sq⟩
theorem Bnd.seq0 {k : Nat} {tp : List (List UInt8)} {last : Last} (h : Bnd k tp last) (i : Int) : 0 ≤ seqO (last i) := by
  cases hq : last i with
  | none => exact Int.le_refl _
  | some y => have := (h.sq i (by rw [hq]; rfl)).1.1; rw [hq] at this; exact this
theorem Bnd.step {k : Nat} {tp : List (List UInt8)} {last : Last} (h : Bnd k tp last) (x : GCall) (hs : isU64 x.fSeq) (hd : x.fData.length ≤ 300) : Bnd (k + 1) (doS tp last x).1 (doS tp last x).2.1 := by
  unfold doS
  split
  · rename_i hlt
    have h0 := h.seq0 x.fClient
    refine ⟨?_, ?_, fun l hl => ?_, fun i => ?_, fun i hi => ?_⟩
    · have := h.tl; simp; omega
    · have := h.tb
      show (tapeB (tp ++ [x.fData])).length ≤ _
      rw [tapeB_snoc]; simp only [List.length_append, lenB_len]; omega
    · rcases List.mem_append.1 hl with hl | hl
      · exact h.td l hl
      · have : l = x.fData := by simpa using hl
        subst this; exact hd
    · show (ansO (upd last x.fClient _ i)).length ≤ _
      unfold upd
      split
      · show (answer _ _).length ≤ _; rw [answer_len]; omega
      · exact h.an i
    · show isU64 (seqO (upd last x.fClient (x.fSeq, answer (tp.length + 1) x.fData) i)) ∧ seqO (upd last x.fClient (x.fSeq, answer (tp.length + 1) x.fData) i) ≠ 0
      replace hi : (upd last x.fClient (x.fSeq, answer (tp.length + 1) x.fData) i).isSome = true := hi
      unfold upd at hi ⊢
      split at hi
      · rename_i he
        rw [if_pos he]
        exact ⟨hs, by show x.fSeq ≠ 0; omega⟩
      · rename_i he
        rw [if_neg he]
        exact h.sq i hi
  · split
    · exact h.more (Nat.le_succ _)
    · exact h.more (Nat.le_succ _)
theorem ans_chain {E : List Ent} {B : Nat} (h : ChainE none E) (hb : ∀ x ∈ E, x.2.2.length ≤ B) (k : Int) : (ansO (lastOf E k)).length ≤ B := by
  rcases Classical.em (∃ x ∈ E, x.1 = k) with ⟨x, hx, e⟩ | hn
  · rw [← e, lastOf_mem h hx]; exact hb x hx
  · rw [lastOf_none h (fun x hx e => hn ⟨x, hx, e⟩)]; exact Nat.zero_le _
/-- What Save told is taken. -/
theorem mLoad_save {k : Nat} {ys : List Int} {last : Last} {tp : List (List UInt8)} (hB : Bnd k tp last) (hk : k ≤ 1000) (hy : Rise ys last) (hn : ys.length ≤ 100000) : loadP (saveB ys last tp) = some (entsOf ys last, tapeB tp) ∧ mLoadF (saveB ys last tp) = some (entsOf ys last, tp) := by
  have h1 : loadP (saveB ys last tp) = some (entsOf ys last, tapeB tp) := save_load hy (by unfold M20; omega) (fun k => by have := hB.an k; unfold M30; omega) (by have := hB.tb; unfold M30; omega) hB.sq
  refine ⟨h1, ?_⟩
  unfold mLoadF
  rw [h1]
  simp only
  rw [tapeP_tapeB tp (fun l hl => by have := hB.td l hl; omega)]
  rfl
theorem load_chain {l d : List UInt8} {E : List Ent} (h : loadP l = some (E, d)) : ChainE none E := by
  unfold loadP at h
  split at h
  · cases h
  · rename_i y hy
    obtain ⟨E2, s2⟩ := y
    split at h
    · simp only [Option.some.injEq, Prod.mk.injEq] at h
      obtain ⟨rfl, -⟩ := h
      refine (ents_form _ _ _ _ _ ?_ hy).2.1
      have hB := (numS_fields M20 ⟨l, 0, 0, []⟩).1
      rw [hB]
      rcases numS_cases M20 ⟨l, 0, 0, []⟩ (Nat.zero_le _) with ⟨-, h⟩ | ⟨-, ⟨-, h⟩ | ⟨-, -, hp, ⟨-, h⟩ | ⟨-, h⟩⟩⟩ <;> rw [h]
      · exact Nat.zero_le _
      · exact Nat.zero_le _
      · exact Nat.zero_le _
      · exact hp
    · cases h
theorem ents_len (ys : List Int) (last : Last) : (entsOf ys last).length = ys.length := by simp [entsOf]
theorem ents_ans {ys : List Int} {last : Last} {B : Nat} (h : ∀ k, (ansO (last k)).length ≤ B) : ∀ x ∈ entsOf ys last, x.2.2.length ≤ B := fun x hx => by
  obtain ⟨k, -, rfl⟩ := List.mem_map.1 hx
  exact h k
theorem bodyB_lenB {B : Nat} (last : Last) (hA : ∀ k, (ansO (last k)).length ≤ B) : ∀ (ys : List Int), (bodyB last ys).length ≤ ys.length * (30 + B)
  | [] => Nat.zero_le _
  | y :: ys => by
    have h1 := bodyB_lenB last hA ys
    have h2 := (numB_len y.toNat).1
    have h3 := (numB_len (seqO (last y)).toNat).1
    have h4 := textB_le (ansO (last y))
    have h5 := hA y
    simp only [bodyB, List.map_cons, List.flatten_cons, List.length_append, entB] at h1 ⊢
    rw [List.length_cons, Nat.succ_mul]
    omega
theorem save_len {k n : Nat} {ys : List Int} {last : Last} {tp : List (List UInt8)} (h : Bnd k tp last) (hk : k ≤ 100) (hn : ys.length ≤ n) (hn2 : n ≤ 100) : (saveB ys last tp).length ≤ 100000 := by
  have h1 := bodyB_lenB last h.an ys
  have h2 := (numB_len ys.length).1
  have h3 := textB_le (tapeB tp)
  have h4 := h.tb
  unfold saveB
  simp only [List.length_append]
  omega
namespace dedupLoads
section
attribute [local go_sem ↓] lda_Call
set_option maxRecDepth 100000 in
set_option maxHeartbeats 8000000 in
theorem loads_walk (W : World) (a0 a1 : Option Addr) (cap0 cap1 : Nat) (b : List UInt8) (cs : List GCall) (hb : Lies W (· < W.heap.size) a0 (b.map bv)) (hbl : b.length ≤ 140737488351232) (hl : rList rGCall W (· < W.heap.size) [.slice a1 cs.length cap1] cs) :
    Calls Try.prog 5 #[.slice a0 b.length cap0, .slice a1 cs.length cap1] W fun e w' => e = .returned (.bool true) ∧ Keep Nix W w' := by
  have hcl : cs.length ≤ 140737488351232 := (rList_len hl).2.2
  have HB := Lib.hid hb
  have HL := Lib.hid hl
  clear hb hl
  go_enter Try.func5, Try.ntmps5
  go_wp2_with fail
  have row0 := RowIs.alloc W #[.slice none 0 0] 27
  go_fit (new_c W.heap.size _ (IsTape.made row0))
  rintro e w1 ⟨bD, O, rfl, hm, hO, k1⟩
  have kk : Keep Nix W w1 := ((Keep.refl Nix W).alloc _).trans k1
  have hO1 : Hid (∀ x, O x → W.heap.size ≤ x) := fun x hx => by rcases hO x hx with h | h; omega; simp at h; omega
  clear k1 row0 hO
  go_wp2_with fail
  go_fit (dawake_c w1)
  rintro e w2 ⟨rfl, k2⟩
  have hm2 := hm.keep k2 (fun _ _ h => h)
  have kk2 := kk.trans k2
  have hs2 := kk2.size
  clear hm kk k2
  by_cases hbig : (3000 : Int) < (b.length : Int)
  · clear hm2
    go_wp2_with fail
    go_fit (dawake_c w2)
    rintro e wz ⟨rfl, kz⟩
    have KZ := Lib.hid (kk2.trans kz)
    clear kz
    go_wp2_with fail
    go_ret
    exact ⟨rfl, KZ.out⟩
  · have hb3 : b.length ≤ 3000 := by omega
    go_wp2_with fail
    go_loopw [6] (fun i wr => ∃ (k n : Nat) (O : Nat → Prop) (tp : List (List UInt8)) (last : Last), i = .int .i64 (k : Int) ∧ k ≤ cs.length ∧ k ≤ 20 ∧ n ≤ k ∧ Mach wr O bD W.heap.size n tp last ∧ Bnd k tp last ∧ Hid (∀ x, O x → W.heap.size ≤ x) ∧ Keep Nix W wr) (fun i _ => cs.length - (intOf i).toNat)
    case atStart => exact ⟨0, 0, O, [], _, rfl, Nat.zero_le _, Nat.zero_le _, Nat.le_refl _, hm2, Bnd.start, hO1, kk2⟩
    case round =>
      clear hm2 hO1 kk2
      obtain ⟨k, n, O, tp, last, rfl, hk, hk20, hnk, hm, hB, hO, kk⟩ := hrel
      have HM := Lib.hid hm
      have HBB := Lib.hid hB
      have hsw := kk.size
      have KK := Lib.hid kk
      have htl := hB.tl
      clear hm hB kk
      by_cases hlt : k < cs.length
      · have hi0 : (0 : Int) ≤ (k : Int) := by omega
        have hi1 : (k : Int) < (cs.length : Int) := by omega
        by_cases h20 : k < 20
        · have hi2 : (k : Int) < 20 := by omega
          have hwk : IntKind.i64.wrap ((k : Int) + 1) = (k : Int) + 1 := by rw [IntKind.wrap_i64]; omega
          obtain ⟨bb, o, cc, cx, e1, hpb, hbb, rC, hcx⟩ := rList_at rGCall_lawful (by decide) HL.out k hlt
          simp only [List.cons.injEq, Value.slice.injEq, and_true] at e1
          obtain ⟨rfl, -, -⟩ := e1
          obtain ⟨x, hxk⟩ : ∃ x, Hid (cs[k] = x) := ⟨cs[k], rfl⟩
          rw [hxk.out] at rC
          have rC2 := rC
          obtain ⟨aX, cX, rfl, hc, hs, hd, -⟩ := rGCall_open rC
          have hcw : ∀ (j : Nat) (u : Value), [Value.int .u64 x.fClient, .int .u64 x.fSeq, .slice aX x.fData.length cX][j]? = some u → wr.cell? ⟨bb, o + k * 3 + j, none⟩ = some u := fun j u hu => (KK.out.cell (p := ⟨bb, _, none⟩) hbb id).trans (hcx j u hu)
          have y2 := hcw 2 _ rfl
          have hld : (wholeSem 35 (.pointer (some ⟨bb, o + k * 3, none⟩))).run Try.prog wr = .ok (.value (.agg ([Value.int .u64 x.fClient, .int .u64 x.fSeq, .slice aX x.fData.length cX] : List Value).toArray)) wr := Whole.at S_Call rfl hcw
          clear hcx hcw rC
          by_cases h3 : x.fData.length < 300
          · have h3i : (x.fData.length : Int) < 300 := by omega
            have hxr : rGCall wr (· < wr.heap.size) [.int .u64 x.fClient, .int .u64 x.fSeq, .slice aX x.fData.length cX] x := rGCall_lawful.mono (rGCall_lawful.nix rC2 KK.out) (fun b hb => Nat.lt_of_lt_of_le hb hsw)
            have hel := enc_small' x (by omega)
            have HC := Lib.hid (oTCall_c wr (· < wr.heap.size) (fun _ h => h) x _ hxr (by unfold far; omega))
            clear hxr rC2
            go_wp2_with fail
            clear hld y2
            go_fit HC.out
            rintro e w3 ⟨a3, c3, rfl, own3, k3⟩
            have hd := do_ok O bD W.heap.size n tp last a3 _ c3 (encGCall x) x w3 rfl (Lies.of_owned own3) (by omega) (HM.out.keep k3 (fun _ _ h => h)) (by omega) (by omega) (takeCall x (ok_call hc hs (by show _ ≤ 65536; omega)))
            have HB2 := Lib.hid (HBB.out.step x hs (by omega))
            obtain ⟨y, hy⟩ : ∃ y, Hid (doS tp last x = y) := ⟨_, rfl⟩
            rw [hy.out] at hd HB2
            replace hd := Lib.hid hd
            have K3 := Lib.hid (KK.out.trans k3)
            clear HC own3 k3
            go_wp2_with fail
            go_fit hd.out
            rintro e w4 ⟨a4, c4, m4, O', rfl, hm4, -, -, mach4, k4, hO4, -⟩
            have K4 := Lib.hid (K3.out.then k4 (fun i hi h => by have := hO.out i h; omega))
            have hs3 := K3.out.size
            have HO' : Hid (∀ x, O' x → W.heap.size ≤ x) := fun z hz => (hO4 z hz).1.elim (hO.out z) (fun h => by omega)
            have HM4 := Lib.hid mach4
            clear hd k4 hO4 mach4 K3
            go_wp2_with fail
            go_roundw
            case rel => exact ⟨k + 1, n + 1, O', y.1, y.2.1, by go_num, by omega, by omega, by omega, HM4.out, HB2.out, HO', K4.out⟩
            case measure => simp [intOf]; omega
          · have h3i : ¬ (x.fData.length : Int) < 300 := by omega
            go_wp2_with fail
            go_roundw
            case rel => exact ⟨k + 1, n, O, tp, last, by go_num, by omega, by omega, by omega, HM.out, HBB.out.more (Nat.le_succ _), hO, KK.out⟩
            case measure => simp [intOf]; omega
        · have hi2 : ¬ (k : Int) < 20 := by omega
          have hbnd := HBB.out
          have HC := Lib.hid (save_c O bD W.heap.size n tp last wr HM.out (by omega) (fun i => by have := hbnd.an i; omega) (by have := hbnd.tb; omega) (by have := hbnd.tl; omega))
          clear hbnd
          go_wp2_with fail
          go_fit HC.out
          rintro e w3 ⟨ys, aS, cS, hR, hyn, rfl, ownS, k3⟩
          obtain ⟨hL1, hL2⟩ := mLoad_save HBB.out (by omega) hR (by omega)
          have hsl := save_len HBB.out (by omega) hyn (by omega)
          have hta := HBB.out.tb
          have htn := HBB.out.tl
          have hEl : (entsOf ys last).length ≤ 5000 := by rw [ents_len]; omega
          have hEa : ∀ z ∈ entsOf ys last, z.2.2.length ≤ 302 := ents_ans HBB.out.an
          have HEA := Lib.hid hEa
          have HL1 := Lib.hid hL1
          have HL2 := Lib.hid hL2
          have K3 := Lib.hid (KK.out.trans k3)
          have hs03 := K3.out.size
          have OWS := Lib.hid ownS
          have hSz : Hid (∀ z, OwnB (.slice aS (saveB ys last tp).length cS) z → z < w3.heap.size) := fun z hz => (ownS.lt z hz).2
          have hCH : Hid (ChainE none (entsOf ys last)) := (load_chain hL1)
          obtain ⟨S, hS⟩ : ∃ S, Hid (saveB ys last tp = S) := ⟨_, rfl⟩
          rw [hS.out] at HL1 HL2 OWS hSz hsl ⊢
          clear HC HBB HM KK hR ownS k3 hL1 hL2 hEa hO
          generalize entsOf ys last = E at *
          have row3 := RowIs.alloc w3 #[.slice none 0 0] 27
          have HC := Lib.hid (new_c w3.heap.size _ (IsTape.made row3))
          have kA : Keep Nix w3 (w3.alloc (.cells #[.slice none 0 0] 27)) := (Keep.refl Nix w3).alloc _
          go_wp2_with fail
          go_fit HC.out
          rintro e w4 ⟨bF, OF, rfl, mF, hOF, k4⟩
          have MF := Lib.hid mF
          have hOF3 : ∀ x, OF x → w3.heap.size ≤ x ∧ x < w4.heap.size := fun x hx => ⟨by rcases hOF x hx with h | h; omega; simp at h; omega, mF.lt x hx⟩
          have HOF := Lib.hid hOF3
          have K4 := Lib.hid ((K3.out.trans kA).trans k4)
          have OWS4 := Lib.hid (owned_keep OWS.out (kA.trans k4) (fun _ _ h => h))
          have row4 := RowIs.alloc w4 #[.slice none 0 0] 27
          have HC := Lib.hid (new_c w4.heap.size _ (IsTape.made row4))
          have kB : Keep Nix w4 (w4.alloc (.cells #[.slice none 0 0] 27)) := (Keep.refl Nix w4).alloc _
          have hs34 := (kA.trans k4).size
          clear mF hOF hOF3 k4 kA row3 OWS K3
          go_wp2_with fail
          go_fit HC.out
          rintro e w5 ⟨bG, OG, rfl, mG, hOG, k5⟩
          have hOG4 : ∀ x, OG x → w4.heap.size ≤ x := fun x hx => by rcases hOG x hx with h | h; omega; simp at h; omega
          have HOG := Lib.hid hOG4
          have hOGl := Lib.hid mG.lt
          have k45 := kB.trans k5
          have hs45 := k45.size
          have K5 := Lib.hid (K4.out.trans k45)
          have OWS5 := Lib.hid (owned_keep OWS4.out k45 (fun _ _ h => h))
          have hd := load_c OF bF w3.heap.size 0 [] (fun _ => none) aS S.length cS S w5 (MF.out.keep k45 (fun _ _ h => h)) rfl (Lies.of_owned OWS5.out) hsl (by decide) (by decide)
          unfold MLoadPost at hd
          rw [HL2.out] at hd
          have HD := Lib.hid hd
          have MG := Lib.hid mG
          clear MF mG hOG hOG4 k5 kB row4 k45 HC OWS4 K4 hd
          go_wp2_with fail
          go_fit HD.out
          rintro e w6 ⟨rfl, OF2, mF2, k6, hOF2⟩
          have K6 := Lib.hid (K5.out.then k6 (fun i hi h => by have := HOF.out i h; have := K5.out.size; omega))
          have hs56 := k6.size
          have OWS6 := Lib.hid (owned_keep OWS5.out k6 (fun z hz h => by have := HOF.out z h; have := (OWS5.out.lt z hz); have := hSz.out z hz; omega))
          have MG6 := Lib.hid (MG.out.keep k6 (fun z hz h => by have := HOF.out z h; have := HOG.out z hz; omega))
          have HCH : Hid (ChainE none E) := hCH.out
          have HC := Lib.hid (save_c OF2 bF w3.heap.size E.length tp (lastOf E) w6 mF2 hEl (fun i => by have := ans_chain HCH.out HEA.out i; omega) (by omega) (by omega))
          clear mF2 k6 hOF2 HD OWS5 K5 MG
          go_wp2_with fail
          go_fit HC.out
          rintro e w7 ⟨ys2, aF, cF, hR2, -, rfl, ownF, k7⟩
          have hsv := (load_save HL1.out rfl hR2).1
          rw [hsv] at ownF
          have K7 := Lib.hid (K6.out.trans k7)
          have MG7 := Lib.hid (MG6.out.keep k7 (fun _ _ h => h))
          have HE := bytes_c aF aS S.length cF S.length cS S S w7 rfl rfl (Lies.of_owned ownF) (Lies.of_owned (owned_keep OWS6.out k7 (fun _ _ h => h)))
          rw [show decide (S = S) = true from decide_eq_true rfl] at HE
          replace HE := Lib.hid HE
          rw [hsv]
          clear HC ownF OWS6 hR2 K6 MG6
          have HLB := Lib.hid (HB.out.keep K7.out (fun _ _ h => h))
          have hdg := load_c OG bG w4.heap.size 0 [] (fun _ => none) a0 b.length cap0 b w7 MG7.out rfl HLB.out (by omega) (by decide) (by decide)
          unfold MLoadPost at hdg
          have hs7 := k7.size
          clear k7 hsv
          go_wp2_with fail
          go_fit HE.out
          rintro e w8 ⟨rfl, rfl⟩
          clear HE
          cases hg : mLoadF b with
          | none =>
            rw [hg] at hdg
            replace hdg := Lib.hid hdg
            go_wp2_with fail
            go_fit hdg.out
            rintro e w8 ⟨rfl, k8⟩
            have K8 := Lib.hid (K7.out.then k8 (fun i hi h => by have := HOG.out i h; have := K7.out.size; omega))
            clear k8 hdg
            go_wp2_with fail
            go_ret
            exact ⟨rfl, K8.out⟩
          | some y =>
            obtain ⟨E2, L2⟩ := y
            rw [hg] at hdg
            replace hdg := Lib.hid hdg
            obtain ⟨d2, hl2, ht2⟩ : ∃ d2, loadP b = some (E2, d2) ∧ tapeP d2 = some L2 := by
              unfold mLoadF at hg
              cases hq : loadP b with
              | none => rw [hq] at hg; cases hg
              | some z =>
                rw [hq] at hg
                obtain ⟨L, h1, h2⟩ := Option.map_eq_some_iff.1 hg
                simp only [Prod.mk.injEq] at h2
                obtain ⟨rfl, rfl⟩ := h2
                exact ⟨z.2, rfl, h1⟩
            obtain ⟨hf1, hf2, hf3⟩ := tapeP_form d2.length d2 L2 (Nat.le_refl _) ht2
            have hch2 := load_chain hl2
            obtain ⟨-, hE2, -, hd2, ha2⟩ := load_save hl2 hf1 (lastOf_rise hch2)
            go_wp2_with fail
            go_fit hdg.out
            rintro e w8 ⟨rfl, OG2, mG2, k8, hOG2⟩
            have K8 := Lib.hid (K7.out.then k8 (fun i hi h => by have := HOG.out i h; have := K7.out.size; omega))
            have HC := Lib.hid (save_c OG2 bG w4.heap.size E2.length L2 (lastOf E2) w8 mG2 (by omega) (fun i => by have := ans_chain hch2 ha2 i; omega) (by rw [hf1]; omega) (by omega))
            have HF1 := Lib.hid hf1
            have HL3 := Lib.hid hl2
            clear mG2 k8 hOG2 hdg hf1 hl2 ht2 hch2 ha2 hf2
            go_wp2_with fail
            go_fit HC.out
            rintro e w9 ⟨ys3, aG, cG, hR3, -, rfl, ownG, k9⟩
            have hsv := (load_save HL3.out HF1.out hR3).1
            rw [hsv] at ownG
            have K9 := Lib.hid (K8.out.trans k9)
            have HE := bytes_c aG a0 b.length cG b.length cap0 b b w9 rfl rfl (Lies.of_owned ownG) (HB.out.keep K9.out (fun _ _ h => h))
            rw [show decide (b = b) = true from decide_eq_true rfl] at HE
            replace HE := Lib.hid HE
            rw [hsv]
            clear HC ownG hR3 k9 hsv K8
            go_wp2_with fail
            go_fit HE.out
            rintro e w10 ⟨rfl, rfl⟩
            go_wp2_with fail
            go_ret
            exact ⟨rfl, K9.out⟩
      · have hi1 : ¬ (k : Int) < (cs.length : Int) := by omega
        have hbnd := HBB.out
        have HC := Lib.hid (save_c O bD W.heap.size n tp last wr HM.out (by omega) (fun i => by have := hbnd.an i; omega) (by have := hbnd.tb; omega) (by have := hbnd.tl; omega))
        clear hbnd
        go_wp2_with fail
        go_fit HC.out
        rintro e w3 ⟨ys, aS, cS, hR, hyn, rfl, ownS, k3⟩
        obtain ⟨hL1, hL2⟩ := mLoad_save HBB.out (by omega) hR (by omega)
        have hsl := save_len HBB.out (by omega) hyn (by omega)
        have hta := HBB.out.tb
        have htn := HBB.out.tl
        have hEl : (entsOf ys last).length ≤ 5000 := by rw [ents_len]; omega
        have hEa : ∀ z ∈ entsOf ys last, z.2.2.length ≤ 302 := ents_ans HBB.out.an
        have HEA := Lib.hid hEa
        have HL1 := Lib.hid hL1
        have HL2 := Lib.hid hL2
        have K3 := Lib.hid (KK.out.trans k3)
        have hs03 := K3.out.size
        have OWS := Lib.hid ownS
        have hSz : Hid (∀ z, OwnB (.slice aS (saveB ys last tp).length cS) z → z < w3.heap.size) := fun z hz => (ownS.lt z hz).2
        have hCH : Hid (ChainE none (entsOf ys last)) := (load_chain hL1)
        obtain ⟨S, hS⟩ : ∃ S, Hid (saveB ys last tp = S) := ⟨_, rfl⟩
        rw [hS.out] at HL1 HL2 OWS hSz hsl ⊢
        clear HC HBB HM KK hR ownS k3 hL1 hL2 hEa hO
        generalize entsOf ys last = E at *
        have row3 := RowIs.alloc w3 #[.slice none 0 0] 27
        have HC := Lib.hid (new_c w3.heap.size _ (IsTape.made row3))
        have kA : Keep Nix w3 (w3.alloc (.cells #[.slice none 0 0] 27)) := (Keep.refl Nix w3).alloc _
        go_wp2_with fail
        go_fit HC.out
        rintro e w4 ⟨bF, OF, rfl, mF, hOF, k4⟩
        have MF := Lib.hid mF
        have hOF3 : ∀ x, OF x → w3.heap.size ≤ x ∧ x < w4.heap.size := fun x hx => ⟨by rcases hOF x hx with h | h; omega; simp at h; omega, mF.lt x hx⟩
        have HOF := Lib.hid hOF3
        have K4 := Lib.hid ((K3.out.trans kA).trans k4)
        have OWS4 := Lib.hid (owned_keep OWS.out (kA.trans k4) (fun _ _ h => h))
        have row4 := RowIs.alloc w4 #[.slice none 0 0] 27
        have HC := Lib.hid (new_c w4.heap.size _ (IsTape.made row4))
        have kB : Keep Nix w4 (w4.alloc (.cells #[.slice none 0 0] 27)) := (Keep.refl Nix w4).alloc _
        have hs34 := (kA.trans k4).size
        clear mF hOF hOF3 k4 kA row3 OWS K3
        go_wp2_with fail
        go_fit HC.out
        rintro e w5 ⟨bG, OG, rfl, mG, hOG, k5⟩
        have hOG4 : ∀ x, OG x → w4.heap.size ≤ x := fun x hx => by rcases hOG x hx with h | h; omega; simp at h; omega
        have HOG := Lib.hid hOG4
        have hOGl := Lib.hid mG.lt
        have k45 := kB.trans k5
        have hs45 := k45.size
        have K5 := Lib.hid (K4.out.trans k45)
        have OWS5 := Lib.hid (owned_keep OWS4.out k45 (fun _ _ h => h))
        have hd := load_c OF bF w3.heap.size 0 [] (fun _ => none) aS S.length cS S w5 (MF.out.keep k45 (fun _ _ h => h)) rfl (Lies.of_owned OWS5.out) hsl (by decide) (by decide)
        unfold MLoadPost at hd
        rw [HL2.out] at hd
        have HD := Lib.hid hd
        have MG := Lib.hid mG
        clear MF mG hOG hOG4 k5 kB row4 k45 HC OWS4 K4 hd
        go_wp2_with fail
        go_fit HD.out
        rintro e w6 ⟨rfl, OF2, mF2, k6, hOF2⟩
        have K6 := Lib.hid (K5.out.then k6 (fun i hi h => by have := HOF.out i h; have := K5.out.size; omega))
        have hs56 := k6.size
        have OWS6 := Lib.hid (owned_keep OWS5.out k6 (fun z hz h => by have := HOF.out z h; have := (OWS5.out.lt z hz); have := hSz.out z hz; omega))
        have MG6 := Lib.hid (MG.out.keep k6 (fun z hz h => by have := HOF.out z h; have := HOG.out z hz; omega))
        have HCH : Hid (ChainE none E) := hCH.out
        have HC := Lib.hid (save_c OF2 bF w3.heap.size E.length tp (lastOf E) w6 mF2 hEl (fun i => by have := ans_chain HCH.out HEA.out i; omega) (by omega) (by omega))
        clear mF2 k6 hOF2 HD OWS5 K5 MG
        go_wp2_with fail
        go_fit HC.out
        rintro e w7 ⟨ys2, aF, cF, hR2, -, rfl, ownF, k7⟩
        have hsv := (load_save HL1.out rfl hR2).1
        rw [hsv] at ownF
        have K7 := Lib.hid (K6.out.trans k7)
        have MG7 := Lib.hid (MG6.out.keep k7 (fun _ _ h => h))
        have HE := bytes_c aF aS S.length cF S.length cS S S w7 rfl rfl (Lies.of_owned ownF) (Lies.of_owned (owned_keep OWS6.out k7 (fun _ _ h => h)))
        rw [show decide (S = S) = true from decide_eq_true rfl] at HE
        replace HE := Lib.hid HE
        rw [hsv]
        clear HC ownF OWS6 hR2 K6 MG6
        have HLB := Lib.hid (HB.out.keep K7.out (fun _ _ h => h))
        have hdg := load_c OG bG w4.heap.size 0 [] (fun _ => none) a0 b.length cap0 b w7 MG7.out rfl HLB.out (by omega) (by decide) (by decide)
        unfold MLoadPost at hdg
        have hs7 := k7.size
        clear k7 hsv
        go_wp2_with fail
        go_fit HE.out
        rintro e w8 ⟨rfl, rfl⟩
        clear HE
        cases hg : mLoadF b with
        | none =>
          rw [hg] at hdg
          replace hdg := Lib.hid hdg
          go_wp2_with fail
          go_fit hdg.out
          rintro e w8 ⟨rfl, k8⟩
          have K8 := Lib.hid (K7.out.then k8 (fun i hi h => by have := HOG.out i h; have := K7.out.size; omega))
          clear k8 hdg
          go_wp2_with fail
          go_ret
          exact ⟨rfl, K8.out⟩
        | some y =>
          obtain ⟨E2, L2⟩ := y
          rw [hg] at hdg
          replace hdg := Lib.hid hdg
          obtain ⟨d2, hl2, ht2⟩ : ∃ d2, loadP b = some (E2, d2) ∧ tapeP d2 = some L2 := by
            unfold mLoadF at hg
            cases hq : loadP b with
            | none => rw [hq] at hg; cases hg
            | some z =>
              rw [hq] at hg
              obtain ⟨L, h1, h2⟩ := Option.map_eq_some_iff.1 hg
              simp only [Prod.mk.injEq] at h2
              obtain ⟨rfl, rfl⟩ := h2
              exact ⟨z.2, rfl, h1⟩
          obtain ⟨hf1, hf2, hf3⟩ := tapeP_form d2.length d2 L2 (Nat.le_refl _) ht2
          have hch2 := load_chain hl2
          obtain ⟨-, hE2, -, hd2, ha2⟩ := load_save hl2 hf1 (lastOf_rise hch2)
          go_wp2_with fail
          go_fit hdg.out
          rintro e w8 ⟨rfl, OG2, mG2, k8, hOG2⟩
          have K8 := Lib.hid (K7.out.then k8 (fun i hi h => by have := HOG.out i h; have := K7.out.size; omega))
          have HC := Lib.hid (save_c OG2 bG w4.heap.size E2.length L2 (lastOf E2) w8 mG2 (by omega) (fun i => by have := ans_chain hch2 ha2 i; omega) (by rw [hf1]; omega) (by omega))
          have HF1 := Lib.hid hf1
          have HL3 := Lib.hid hl2
          clear mG2 k8 hOG2 hdg hf1 hl2 ht2 hch2 ha2 hf2
          go_wp2_with fail
          go_fit HC.out
          rintro e w9 ⟨ys3, aG, cG, hR3, -, rfl, ownG, k9⟩
          have hsv := (load_save HL3.out HF1.out hR3).1
          rw [hsv] at ownG
          have K9 := Lib.hid (K8.out.trans k9)
          have HE := bytes_c aG a0 b.length cG b.length cap0 b b w9 rfl rfl (Lies.of_owned ownG) (HB.out.keep K9.out (fun _ _ h => h))
          rw [show decide (b = b) = true from decide_eq_true rfl] at HE
          replace HE := Lib.hid HE
          rw [hsv]
          clear HC ownG hR3 k9 hsv K8
          go_wp2_with fail
          go_fit HE.out
          rintro e w10 ⟨rfl, rfl⟩
          go_wp2_with fail
          go_ret
          exact ⟨rfl, K9.out⟩
end
theorem walk {m0 m1 : Nat} (W : World) (v0 v1 : Value) (h0 : Arg Try.prog W m0 31 v0) (h1 : Arg Try.prog W m1 40 v1) :
    Calls Try.prog 5 #[v0, v1] W fun e w' => e = .returned (.bool true) ∧ Keep Nix W w' := by
  obtain ⟨a, n, cap, rfl, h3⟩ := h0.slice Try.underlying31
  obtain ⟨l, hn, hl, h4, h5, -⟩ := bytes_in Try.underlying31 Try.underlying5 (by kernel_rfl) (by kernel_rfl) h3
  obtain ⟨b, m, cb, rfl, h6⟩ := h1.slice Try.underlying40
  obtain ⟨xs, hx, -⟩ := h6.toList (R := rGCall) (sz := 3) (by' := 40) GCall.size Try.underlying40 (by kernel_rfl) (by kernel_rfl) (by decide) (by decide) redGCall
  obtain ⟨rfl, -, -⟩ := rList_len hx
  subst hn
  exact loads_walk W a b cap cb l xs hl (by omega) hx
end dedupLoads
end Go.Proofs.Ythchpdflnpfjkaa
