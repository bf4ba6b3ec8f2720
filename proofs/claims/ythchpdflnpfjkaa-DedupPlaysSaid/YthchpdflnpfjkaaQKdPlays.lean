/- DEDUP: the law DedupPlays. Printed by mac.py. -/
import Derived.Test.YthchpdflnpfjkaaQKdX
namespace Go.Proofs.Ythchpdflnpfjkaa
open Go.RowKit

/-- One round's state. -/
structure Sta (W w : World) (bO bD bT n k : Nat) (O Q : Nat → Prop) (tp : List (List UInt8)) (last : Last) (L : List Ent) (g : Option Nat) (aL : Option Addr) (cL : Nat) (css : List (List Value)) : Prop where
  m : Mach w O bD bT n tp last
  o : OnceAt w Q bO g tp L aL cL css
  b : Both k tp last L
  dj : ∀ i, O i → ¬ Q i
  ge : ∀ i, O i ∨ Q i → W.heap.size ≤ i
  kk : Keep Nix W w
  nk : n ≤ k
theorem Sta.nix {W w w' : World} {bO bD bT n k : Nat} {O Q : Nat → Prop} {tp : List (List UInt8)} {last : Last} {L : List Ent} {g : Option Nat} {aL : Option Addr} {cL : Nat} {css : List (List Value)} (h : Sta W w bO bD bT n k O Q tp last L g aL cL css) (kq : Keep Nix w w') : Sta W w' bO bD bT n k O Q tp last L g aL cL css :=
  ⟨h.m.keep kq (fun _ _ h => h), h.o.nix kq, h.b, h.dj, h.ge, h.kk.trans kq, h.nk⟩
theorem Sta.more {W w : World} {bO bD bT n k m : Nat} {O Q : Nat → Prop} {tp : List (List UInt8)} {last : Last} {L : List Ent} {g : Option Nat} {aL : Option Addr} {cL : Nat} {css : List (List Value)} (h : Sta W w bO bD bT n k O Q tp last L g aL cL css) (hm : k ≤ m) : Sta W w bO bD bT n m O Q tp last L g aL cL css :=
  ⟨h.m, h.o, h.b.more hm, h.dj, h.ge, h.kk, Nat.le_trans h.nk hm⟩
theorem once_made {w : World} {b : Nat} (h : RowIs w b 51 [.slice none 0 0, .slice none 0 0]) : OnceAt w (· = b) b none [] [] none 0 [] :=
  ⟨⟨⟨none, 0, h, World.ownsRow_nil _ _ _ _, rfl⟩, (fun h => by cases h), (fun _ h => by cases h)⟩, World.ownsRow_nil _ _ _ _, Els.nil _ _ _, (fun h => by cases h), (fun _ h => by cases h), (fun _ e => e ▸ h.lt), rfl, (fun _ h => by cases h), (fun _ h => by cases h)⟩
theorem rGOp_open2 {w : World} {p : Nat → Prop} {cs : List Value} {x : GOp} (h : rGOp w p cs x) : ∃ aD cD aR cR, cs = [.int .u64 x.fC.fClient, .int .u64 x.fC.fSeq, .slice aD x.fC.fData.length cD, .slice aR x.fRaw.length cR, .bool x.fLoad] ∧ isU64 x.fC.fClient ∧ isU64 x.fC.fSeq ∧ (Lies w p aD (x.fC.fData.map bv) ∧ x.fC.fData.length ≤ cD ∧ x.fC.fData.length ≤ far) ∧ (Lies w p aR (x.fRaw.map bv) ∧ x.fRaw.length ≤ cR ∧ x.fRaw.length ≤ far) ∧ rGCall w p [.int .u64 x.fC.fClient, .int .u64 x.fC.fSeq, .slice aD x.fC.fData.length cD] x.fC := by
  obtain ⟨c0, c1, c2, rfl, h0, h1, h2⟩ := h
  have h0' := h0
  obtain ⟨aD, cD, rfl, k1, k2, k3, -⟩ := rGCall_open h0
  obtain ⟨aR, cR, rfl, k4, k5, k6⟩ := h1
  exact ⟨aD, cD, aR, cR, by rw [h2]; rfl, k1, k2, k3, ⟨k4, k5, k6⟩, h0'⟩
theorem enc_k (x : GCall) (h : x.fData.length ≤ 300) : (encGCall x).length ≤ 1000 := by
  have h1 := encU_len x.fClient; have h2 := encU_len x.fSeq; have h3 := textB_le x.fData
  simp only [encGCall, List.length_append]; omega
namespace dedupPlays
section
attribute [local go_sem ↓] lda_Call lda_Op stz_Op
set_option maxRecDepth 100000 in
set_option maxHeartbeats 8000000 in
theorem plays_walk (W : World) (a0 : Option Addr) (cap0 : Nat) (ops : List GOp) (c s : Int) (hl : rList rGOp W (· < W.heap.size) [.slice a0 ops.length cap0] ops) (hc : isU64 c) (hs : isU64 s) :
    Calls Try.prog 6 #[.slice a0 ops.length cap0, .int .u64 c, .int .u64 s] W fun e w' => e = .returned (.bool true) ∧ Keep Nix W w' := by
  have hcl : ops.length ≤ 140737488351232 := (rList_len hl).2.2
  have HL := Lib.hid hl
  have HCS := Lib.hid (And.intro hc hs)
  clear hl hc hs
  go_enter Try.func6, Try.ntmps6
  go_wp2_with fail
  have row0 := RowIs.alloc W #[.slice none 0 0] 27
  go_fit (new_c W.heap.size _ (IsTape.made row0))
  rintro e w1 ⟨bD, O, rfl, hm, hO, k1⟩
  have kk : Keep Nix W w1 := ((Keep.refl Nix W).alloc _).trans k1
  have hO1 : ∀ x, O x → W.heap.size ≤ x ∧ x < w1.heap.size := fun x hx => ⟨by rcases hO x hx with h | h; omega; simp at h; omega, hm.lt x hx⟩
  have kA : Keep Nix w1 (w1.alloc (.cells #[.slice none 0 0, .slice none 0 0] 51)) := (Keep.refl Nix w1).alloc _
  have rowO := RowIs.alloc w1 #[.slice none 0 0, .slice none 0 0] 51
  have hs1 := kk.size
  have ST0 : Sta W (w1.alloc (.cells #[.slice none 0 0, .slice none 0 0] 51)) w1.heap.size bD W.heap.size 0 0 O (· = w1.heap.size) [] (fun _ => none) [] none none 0 [] :=
    ⟨hm.keep kA (fun _ _ h => h), once_made rowO, Both.start, fun i hi e => by have := (hO1 i hi).2; omega, fun i hi => hi.elim (fun h => (hO1 i h).1) (fun e => by omega), kk.trans kA, Nat.le_refl _⟩
  clear k1 row0 hO hO1 hm kA rowO kk
  have ST0 := Lib.hid ST0
  go_wp2_with fail
  go_fit (dawake_c _)
  rintro e w2 ⟨rfl, k2⟩
  have ST0 := Lib.hid (ST0.out.nix k2)
  clear k2
  generalize w1.heap.size = bO at *
  go_wp2_with fail
  go_loopw [7, 8, 10] (fun t m i wr => ∃ (k n bD bT : Nat) (O Q : Nat → Prop) (tp : List (List UInt8)) (last : Last) (L : List Ent) (g : Option Nat) (aL : Option Addr) (cL : Nat) (css : List (List Value)), t = .pointer (some ⟨bT, 0, none⟩) ∧ m = .pointer (some ⟨bD, 0, none⟩) ∧ i = .int .i64 (k : Int) ∧ k ≤ ops.length ∧ k ≤ 60 ∧ Sta W wr bO bD bT n k O Q tp last L g aL cL css) (fun _ _ i _ => ops.length - (intOf i).toNat)
  case atStart => exact ⟨0, 0, bD, W.heap.size, O, _, [], _, [], none, none, 0, [], rfl, rfl, rfl, Nat.zero_le _, Nat.zero_le _, ST0.out⟩
  case round =>
    clear ST0
    obtain ⟨k, n, bD, bT, O, Q, tp, last, L, g, aL, cL, css, rfl, rfl, rfl, hk, hk60, st⟩ := hrel
    have ST := Lib.hid st
    clear st
    by_cases hlt : k < ops.length
    · have hi0 : (0 : Int) ≤ (k : Int) := by omega
      have hi1 : (k : Int) < (ops.length : Int) := by omega
      by_cases h60 : k < 60
      · have hi2 : (k : Int) < 60 := by omega
        have hwk : IntKind.i64.wrap ((k : Int) + 1) = (k : Int) + 1 := by rw [IntKind.wrap_i64]; omega
        obtain ⟨bb, o, cc, cx, e1, hpb, hbb, rC, hcx⟩ := rList_at rGOp_lawful (by decide) HL.out k hlt
        simp only [List.cons.injEq, Value.slice.injEq, and_true] at e1
        obtain ⟨rfl, -, -⟩ := e1
        generalize ops[k] = x at *
        obtain ⟨aD, cD, aR, cR, rfl, hxc, hxs, hxd, hxr, hxC⟩ := rGOp_open2 rC
        have RX := Lib.hid hxC
        clear hxC
        have hld : (wholeSem 53 (.pointer (some ⟨bb, o + k * 5, none⟩))).run Try.prog wr = .ok (.value (.agg ([.int .u64 x.fC.fClient, .int .u64 x.fC.fSeq, .slice aD x.fC.fData.length cD, .slice aR x.fRaw.length cR, .bool x.fLoad] : List Value).toArray)) wr := Whole.at S_Op rfl (fun j u hu => (ST.out.kk.cell (p := ⟨bb, _, none⟩) hbb id).trans (hcx j u hu))
        obtain ⟨hst, rowP, kP⟩ := boxed (P := Try.prog) (zs := [.int .u64 0, .int .u64 0, .slice none 0 0, .slice none 0 0, .bool false]) (cs := [.int .u64 x.fC.fClient, .int .u64 x.fC.fSeq, .slice aD x.fC.fData.length cD, .slice aR x.fRaw.length cR, .bool x.fLoad]) S_Op wr rfl rfl rfl
        generalize ((wr.alloc (.cells ([.int .u64 0, .int .u64 0, .slice none 0 0, .slice none 0 0, .bool false] : List Value).toArray 53)).setRow wr.heap.size ([.int .u64 x.fC.fClient, .int .u64 x.fC.fSeq, .slice aD x.fC.fData.length cD, .slice aR x.fRaw.length cR, .bool x.fLoad] : List Value).toArray) = wv at *
        have LD := Lib.hid (hxd.1.keep (ST.out.kk.trans kP) (fun _ _ h => h))
        have LR := Lib.hid (hxr.1.keep (ST.out.kk.trans kP) (fun _ _ h => h))
        have STP := Lib.hid (ST.out.nix kP)
        have HXU := Lib.hid (And.intro hxc hxs)
        have HDC := Lib.hid hxd.2
        have hPb : Hid (¬ O wr.heap.size ∧ ¬ Q wr.heap.size ∧ W.heap.size ≤ wr.heap.size) := ⟨fun h => by have := ST.out.m.lt _ h; omega, fun h => by have := ST.out.o.lt _ h; omega, ST.out.kk.size⟩
        have HPL : Hid (wr.heap.size < wv.heap.size) := rowP.lt
        have RP := Lib.hid rowP
        have p2 := rowP.cell 2
        have p3 := rowP.cell 3
        have p4 := rowP.cell 4
        (try simp only [List.getElem?_cons_succ] at p2 p3 p4); (try simp only [List.getElem?_cons_zero] at p2 p3 p4)
        have ST := STP
        clear hcx rC hxd hxr hxc hxs kP STP rowP
        by_cases hb1 : (300 : Int) < (x.fC.fData.length : Int)
        · go_wp2_with fail
          go_roundw
          case rel => exact ⟨k + 1, n, bD, bT, O, Q, tp, last, L, g, aL, cL, css, rfl, rfl, by go_num, by omega, by omega, ST.out.more (Nat.le_succ _)⟩
          case measure => simp [intOf]; omega
        · by_cases hb2 : (300 : Int) < (x.fRaw.length : Int)
          · go_wp2_with fail
            go_roundw
            case rel => exact ⟨k + 1, n, bD, bT, O, Q, tp, last, L, g, aL, cL, css, rfl, rfl, by go_num, by omega, by omega, ST.out.more (Nat.le_succ _)⟩
            case measure => simp [intOf]; omega
          · obtain ⟨fl, hfl⟩ : ∃ fl, Hid (x.fLoad = fl) := ⟨_, rfl⟩
            rw [hfl.out] at p4 hst hld
            cases fl with
            | false =>
              have hldc : (wholeSem 35 (.pointer (some ⟨wr.heap.size, 0, none⟩))).run Try.prog wv = .ok (.value (.agg ([Value.int .u64 x.fC.fClient, .int .u64 x.fC.fSeq, .slice aD x.fC.fData.length cD] : List Value).toArray)) wv := Whole.at S_Call rfl (fun j u hu => by
                rw [Nat.zero_add, RP.out.cell]
                match j, hu with
                | 0, hu => exact hu
                | 1, hu => exact hu
                | 2, hu => exact hu)
              have p3 : wv.cell? ⟨wr.heap.size, 3, none⟩ = some (.slice aR x.fRaw.length cR) := RP.out.cell 3
              have hxr : rGCall wv (· < wv.heap.size) [.int .u64 x.fC.fClient, .int .u64 x.fC.fSeq, .slice aD x.fC.fData.length cD] x.fC := rGCall_lawful.mono (rGCall_lawful.nix RX.out ST.out.kk) (fun i hi => Nat.lt_of_lt_of_le hi ST.out.kk.size)
              have hel := enc_small' x.fC (by omega)
              have HC := Lib.hid (oTCall_c wv (· < wv.heap.size) (fun _ h => h) x.fC _ hxr (by unfold far; omega))
              clear hxr
              go_wp2_with fail
              clear hldc p3
              go_fit HC.out
              rintro e w2 ⟨a3, c3, rfl, own3, k3⟩
              generalize wr.heap.size = bP at *
              have ST2 := Lib.hid (ST.out.nix k3)
              have RP2 := Lib.hid (RP.out.keep k3 id)
              have LR2 := Lib.hid (LR.out.keep k3 (fun _ _ h => h))
              have hs23 : wv.heap.size ≤ w2.heap.size := k3.size
              have PB : Hid (¬ O bP ∧ ¬ Q bP ∧ W.heap.size ≤ bP ∧ bP < w2.heap.size) := ⟨hPb.out.1, hPb.out.2.1, hPb.out.2.2, Nat.lt_of_lt_of_le HPL.out hs23⟩
              have p3 : w2.cell? ⟨bP, 3, none⟩ = some (.slice aR x.fRaw.length cR) := RP2.out.cell 3
              have OW3 := Lib.hid own3
              clear k3 RP LR HC LD hPb HPL own3
              by_cases hraw : (0 : Int) < (x.fRaw.length : Int)
              · have HX : Hid ((takeP pGCall zGCall x.fRaw).2 = 0 → (isU64 (takeP pGCall zGCall x.fRaw).1.fClient ∧ isU64 (takeP pGCall zGCall x.fRaw).1.fSeq) ∧ (takeP pGCall zGCall x.fRaw).1.fData.length ≤ 300) := fun h => ⟨take_u64 h, take_ok (by omega) h⟩
                have HLL : Hid (x.fRaw.length ≤ 1000) := by show _ ≤ _; omega
                obtain ⟨q, LB, HQ⟩ : ∃ q : Nat → Prop, Hid (Lies w2 q aR (x.fRaw.map bv)) ∧ Hid (∀ i, q i → ¬ O i ∧ ¬ Q i ∧ i < w2.heap.size) := ⟨_, LR2, fun i (hi : i < W.heap.size) => ⟨fun h => by have := ST2.out.ge i (.inl h); omega, fun h => by have := ST2.out.ge i (.inr h); omega, by have := ST2.out.kk.size; omega⟩⟩
                have ST := ST2
                have RP := RP2
                clear LR2 OW3 ST2 RP2
                go_wp2_with fail
                clear p3 hraw
                generalize x.fRaw = l at *
                have hLL : l.length ≤ 1000 := HLL.out
                go_wp2_with fail
                go_fit (ownB_c aR l.length cR l 71 w2 rfl LB.out (by omega))
                rintro e w3 ⟨bI, rfl, hbI, rowI, k3⟩
                have hIO : ¬ O bI := fun h => by have := ST.out.m.lt _ h; omega
                have hIQ : ¬ Q bI := fun h => by have := ST.out.o.lt _ h; omega
                have ST3 := Lib.hid (ST.out.nix k3)
                have LB3 := Lib.hid (LB.out.keep k3 (fun _ _ h => h))
                have RP3 := Lib.hid (RP.out.keep k3 id)
                have hI3 := rowI.lt
                have RI := Lib.hid rowI
                have LI : Lies w3 (· = bI) (some ⟨bI, 0, none⟩) (l.map bv) := rowI.lies (fun i => i = bI) rfl (fun j u hu => by
                  rw [List.map_append, Nat.zero_add, List.getElem?_append_left (List.getElem?_eq_some_iff.1 hu).1]; exact hu)
                obtain ⟨y, hy⟩ : ∃ y, takeP pGCall zGCall l = y := ⟨_, rfl⟩
                have hX := HX.out
                rw [hy] at hX
                obtain ⟨j0, hj0⟩ := place y.1.fClient L
                obtain ⟨q1, q2, q3⟩ := ST.out.b.step hX hj0
                have hbt := ST.out.b.bnd.tl
                have hbl := ST.out.b.len
                have hbn := ST.out.nk
                have HD := doA_c O bD bT n tp last (some ⟨bI, 0, none⟩) l.length (l.length + 3) l w3 rfl LI (by omega) ST3.out.m (by omega) (by omega)
                rw [hy] at HD
                obtain ⟨L', hv⟩ : ∃ L', onceA tp L y j0 = ((doA tp last y).1, L', (doA tp last y).2.2) := ⟨(onceA tp L y j0).2.1, Prod.ext q1 (Prod.ext rfl q2)⟩
                rw [hv] at q3
                obtain ⟨⟨tp', last', ans⟩, hz⟩ : ∃ z, doA tp last y = z := ⟨_, rfl⟩
                rw [hz] at HD hv q3
                unfold DoPost at HD
                (try simp only at HD)
                (try simp only at hv q3)
                have BOTH := Lib.hid q3
                have HD := Lib.hid HD
                have hs3 : w2.heap.size ≤ w3.heap.size := k3.size
                have HOC := fun w6 h6 lb6 => odoA_c Q bO g tp L aL cL css aR l.length cR l w6 h6 (by omega) (by omega) rfl lb6 (by omega) (fun h => by rw [hy] at h ⊢; have := (hX h).2; omega) j0 (by rw [hy]; exact hj0) (p := q)
                rw [hy, hv] at HOC
                unfold OncePost at HOC
                (try simp only at HOC)
                have HOC := Lib.hid HOC
                clear k3 rowI LI q1 q2 q3 hX hv hz hj0 hy hbt hbl hbn
                go_wp2_with fail
                go_fit HD.out
                rintro e w4 ⟨a4, c4, m4, O', rfl, hm4, hm4', own4, mach4, k4, hO4, -⟩
                have LB4 := LB3.out.keep k4 (fun i hi h => (HQ.out i hi).1 h)
                have RI4 := RI.out.keep k4 hIO
                have RP4 := Lib.hid (RP3.out.keep k4 PB.out.1)
                have HO4 := Lib.hid (ST3.out.o.keep k4 (fun i hi h => ST.out.dj i h hi))
                have HKP := Lib.hid (keptB_c bI aR l.length cR l 71 w4 rfl LB4 (by omega) RI4)
                have LB4 := Lib.hid LB4
                have RI4 := Lib.hid RI4
                have OW4 := Lib.hid own4
                have MA4 := Lib.hid mach4
                have K4 := Lib.hid k4
                have HOO := Lib.hid hO4
                have own4lt : Hid (∀ i, OwnB (.slice a4 ans.length c4) i → m4 ≤ i ∧ i < w4.heap.size) := fun i hi => own4.lt i hi
                clear HD own4 mach4 k4 hO4 LB3 RI RP3
                go_wp2_with fail
                go_fit HKP.out
                rintro e w5 ⟨rfl, k5⟩
                have RI5 := RI4.out.keep k5 id
                have HSP := Lib.hid (spoil_c bI l.length (l.length + 3) ((l ++ [71, 71, 71]).map bv) l w5 rfl RI5 (fun j u hu => by
                  rw [List.map_append, List.getElem?_append_left (List.getElem?_eq_some_iff.1 hu).1]; exact hu) (by unfold maxLen; omega))
                clear HKP RI5
                go_wp2_with fail
                go_fit HSP.out
                rintro e w6 ⟨rfl, k6⟩
                have k46 : Keep (· = bI) w4 w6 := k5.nix.trans k6
                have LB6 := LB4.out.keep k46 (fun i hi e => by have := (HQ.out i hi).2.2; omega)
                have HO6 := HO4.out.keep k46 (fun i hi e => hIQ (e ▸ hi))
                have HC := Lib.hid (HOC.out w6 HO6 LB6)
                have MA6 := Lib.hid (MA4.out.keep k46 (fun i hi e => (HOO.out i hi).1.elim (fun h => hIO (e ▸ h)) (fun h => by omega)))
                have OW6 := Lib.hid (owned_keep OW4.out k46 (fun i hi e => by have := own4lt.out i hi; omega))
                have RP6 := Lib.hid (RP4.out.keep k46 (fun e => by have := PB.out.2.2.2; omega))
                have K46 := Lib.hid k46
                have hs46 : w4.heap.size ≤ w6.heap.size := k46.size
                clear k5 k6 k46 HSP HOC LB6 HO6 HO4 LB4 RI4 RP4 MA4 OW4
                go_wp2_with fail
                go_fit HC.out
                rintro e w7 ⟨a7, c7, m7, Q', g', aL', cL', css', rfl, hm7, own7, once7, k7, hQ7⟩
                have OW7 := owned_keep OW6.out k7 (fun i hi h => by have := own4lt.out i hi; have := ST.out.o.lt i h; omega)
                have HE := bytes_c a4 a7 ans.length c4 ans.length c7 ans ans w7 rfl rfl (Lies.of_owned OW7) (Lies.of_owned own7)
                rw [decide_eq_true (rfl : ans = ans)] at HE
                have HE := Lib.hid HE
                have OW7 := Lib.hid OW7
                have ON7 := Lib.hid once7
                have K7 := Lib.hid k7
                have HQ7 := Lib.hid hQ7
                have MA7 := Lib.hid (MA6.out.keep k7 (fun i hi h => (HOO.out i hi).1.elim (fun h' => ST.out.dj i h' h) (fun h' => by have := ST.out.o.lt i h; omega)))
                have RP7 := Lib.hid (RP6.out.keep k7 PB.out.2.1)
                have hs67 : w6.heap.size ≤ w7.heap.size := k7.size
                clear HC own7 once7 k7 hQ7 MA6 RP6 OW6
                go_wp2_with fail
                go_fit HE.out
                rintro e w8 ⟨rfl, rfl⟩
                have HSP := Lib.hid (spoilX_c m4 ans.length c4 a4 ans w7 rfl OW7.out)
                clear HE
                go_wp2_with fail
                go_fit HSP.out
                rintro e w8 ⟨rfl, k8⟩
                have hPlt : bP < w3.heap.size := by have := PB.out.2.2.2; omega
                have RP8 := Lib.hid (RP7.out.keep k8 (fun h => by have := own4lt.out bP h; omega))
                have S8 : Sta W w8 bO bD bT (n + 1) (k + 1) O' Q' tp' last' L' g' aL' cL' css' := by
                  have hw : W.heap.size ≤ w2.heap.size := ST.out.kk.size
                  refine ⟨MA7.out.keep k8 (fun i hi h => by have := own4lt.out i h; have := (HOO.out i hi).2; omega), ON7.out.keep k8 (fun i hi h => ?_), BOTH.out, fun i hi hq => ?_, fun i hi => ?_, ?_, by have := ST.out.nk; omega⟩
                  · have h1 := own4lt.out i h
                    exact (HQ7.out i hi).1.elim (fun h => by have := ST.out.o.lt i h; omega) (fun h => by omega)
                  · exact (HQ7.out i hq).1.elim (fun h => (HOO.out i hi).1.elim (fun h' => ST.out.dj i h' h) (fun h' => by have := ST.out.o.lt i h; omega)) (fun h => by have := (HOO.out i hi).2; omega)
                  · exact hi.elim (fun h => (HOO.out i h).1.elim (fun h => ST.out.ge i (.inl h)) (fun h => by omega)) (fun h => (HQ7.out i h).1.elim (fun h => ST.out.ge i (.inr h)) (fun h => by omega))
                  · exact (((ST3.out.kk.then K4.out (fun i hi h => by have := ST.out.ge i (.inl h); omega)).then K46.out (fun i hi e => by omega)).then K7.out (fun i hi h => by have := ST.out.ge i (.inr h); omega)).then k8 (fun i hi h => by have := own4lt.out i h; omega)
                have S8 := Lib.hid S8
                have hbt := S8.out.b.bnd.tl
                have hbl := S8.out.b.len
                have HA1 := Lib.hid (alike_c O' bD bT (n + 1) tp' last' Q' bO g' L' aL' cL' css' c s w8 S8.out.m S8.out.o S8.out.b.same HCS.out.1 HCS.out.2 (by omega) (by omega) (by have h1 := told_le last' c s; have h2 := S8.out.b.bnd.an c; omega))
                clear ST ST3 K4 K46 K7 HQ7 HOO MA7 ON7 OW7 RP7 HSP k8 BOTH own4lt HQ PB LB RP
                go_wp2_with fail
                go_fit HA1.out
                rintro e w9 ⟨rfl, k9⟩
                have S9 := Lib.hid (S8.out.nix k9)
                have RP9 := RP8.out.keep k9 id
                have p0 : w9.cell? ⟨bP, 0, none⟩ = some (.int .u64 x.fC.fClient) := RP9.cell 0
                have p1 : w9.cell? ⟨bP, 1, none⟩ = some (.int .u64 x.fC.fSeq) := RP9.cell 1
                have HA2 := Lib.hid (alike_c O' bD bT (n + 1) tp' last' Q' bO g' L' aL' cL' css' x.fC.fClient x.fC.fSeq w9 S9.out.m S9.out.o S9.out.b.same HXU.out.1 HXU.out.2 (by omega) (by omega) (by have h1 := told_le last' x.fC.fClient x.fC.fSeq; have h2 := S9.out.b.bnd.an x.fC.fClient; omega))
                clear S8 RP8 RP9 k9 HA1
                go_wp2_with fail
                clear p0 p1
                go_fit HA2.out
                rintro e w10 ⟨rfl, k10⟩
                have S10 := Lib.hid (S9.out.nix k10)
                clear S9 k10 HA2
                go_wp2_with fail
                go_roundw
                case rel => exact ⟨k + 1, n + 1, bD, bT, O', Q', tp', last', L', g', aL', cL', css', rfl, rfl, by go_num, by omega, by omega, S10.out⟩
                case measure => simp [intOf]; omega
              · have HX : Hid ((takeP pGCall zGCall (encGCall x.fC)).2 = 0 → (isU64 (takeP pGCall zGCall (encGCall x.fC)).1.fClient ∧ isU64 (takeP pGCall zGCall (encGCall x.fC)).1.fSeq) ∧ (takeP pGCall zGCall (encGCall x.fC)).1.fData.length ≤ 300) := fun _ => by
                  rw [takeCall x.fC (show okGCall x.fC from ⟨HXU.out, (by show x.fC.fData.length ≤ 65536; omega)⟩)]
                  exact ⟨HXU.out, by show x.fC.fData.length ≤ 300; omega⟩
                have HLL : Hid ((encGCall x.fC).length ≤ 1000) := enc_k x.fC (by omega)
                obtain ⟨q, LB, HQ⟩ : ∃ q : Nat → Prop, Hid (Lies w2 q a3 ((encGCall x.fC).map bv)) ∧ Hid (∀ i, q i → ¬ O i ∧ ¬ Q i ∧ i < w2.heap.size) := ⟨_, Lies.of_owned OW3.out, fun i hi => by
                  have h1 := OW3.out.lt i hi.2
                  exact ⟨fun h => by have := ST.out.m.lt i h; omega, fun h => by have := ST.out.o.lt i h; omega, h1.2⟩⟩
                have ST := ST2
                have RP := RP2
                clear LR2 OW3 ST2 RP2
                go_wp2_with fail
                clear p3 hraw hel
                generalize encGCall x.fC = l at *
                have hLL : l.length ≤ 1000 := HLL.out
                go_wp2_with fail
                go_fit (ownB_c a3 l.length c3 l 71 w2 rfl LB.out (by omega))
                rintro e w3 ⟨bI, rfl, hbI, rowI, k3⟩
                have hIO : ¬ O bI := fun h => by have := ST.out.m.lt _ h; omega
                have hIQ : ¬ Q bI := fun h => by have := ST.out.o.lt _ h; omega
                have ST3 := Lib.hid (ST.out.nix k3)
                have LB3 := Lib.hid (LB.out.keep k3 (fun _ _ h => h))
                have RP3 := Lib.hid (RP.out.keep k3 id)
                have hI3 := rowI.lt
                have RI := Lib.hid rowI
                have LI : Lies w3 (· = bI) (some ⟨bI, 0, none⟩) (l.map bv) := rowI.lies (fun i => i = bI) rfl (fun j u hu => by
                  rw [List.map_append, Nat.zero_add, List.getElem?_append_left (List.getElem?_eq_some_iff.1 hu).1]; exact hu)
                obtain ⟨y, hy⟩ : ∃ y, takeP pGCall zGCall l = y := ⟨_, rfl⟩
                have hX := HX.out
                rw [hy] at hX
                obtain ⟨j0, hj0⟩ := place y.1.fClient L
                obtain ⟨q1, q2, q3⟩ := ST.out.b.step hX hj0
                have hbt := ST.out.b.bnd.tl
                have hbl := ST.out.b.len
                have hbn := ST.out.nk
                have HD := doA_c O bD bT n tp last (some ⟨bI, 0, none⟩) l.length (l.length + 3) l w3 rfl LI (by omega) ST3.out.m (by omega) (by omega)
                rw [hy] at HD
                obtain ⟨L', hv⟩ : ∃ L', onceA tp L y j0 = ((doA tp last y).1, L', (doA tp last y).2.2) := ⟨(onceA tp L y j0).2.1, Prod.ext q1 (Prod.ext rfl q2)⟩
                rw [hv] at q3
                obtain ⟨⟨tp', last', ans⟩, hz⟩ : ∃ z, doA tp last y = z := ⟨_, rfl⟩
                rw [hz] at HD hv q3
                unfold DoPost at HD
                (try simp only at HD)
                (try simp only at hv q3)
                have BOTH := Lib.hid q3
                have HD := Lib.hid HD
                have hs3 : w2.heap.size ≤ w3.heap.size := k3.size
                have HOC := fun w6 h6 lb6 => odoA_c Q bO g tp L aL cL css a3 l.length c3 l w6 h6 (by omega) (by omega) rfl lb6 (by omega) (fun h => by rw [hy] at h ⊢; have := (hX h).2; omega) j0 (by rw [hy]; exact hj0) (p := q)
                rw [hy, hv] at HOC
                unfold OncePost at HOC
                (try simp only at HOC)
                have HOC := Lib.hid HOC
                clear k3 rowI LI q1 q2 q3 hX hv hz hj0 hy hbt hbl hbn
                go_wp2_with fail
                go_fit HD.out
                rintro e w4 ⟨a4, c4, m4, O', rfl, hm4, hm4', own4, mach4, k4, hO4, -⟩
                have LB4 := LB3.out.keep k4 (fun i hi h => (HQ.out i hi).1 h)
                have RI4 := RI.out.keep k4 hIO
                have RP4 := Lib.hid (RP3.out.keep k4 PB.out.1)
                have HO4 := Lib.hid (ST3.out.o.keep k4 (fun i hi h => ST.out.dj i h hi))
                have HKP := Lib.hid (keptB_c bI a3 l.length c3 l 71 w4 rfl LB4 (by omega) RI4)
                have LB4 := Lib.hid LB4
                have RI4 := Lib.hid RI4
                have OW4 := Lib.hid own4
                have MA4 := Lib.hid mach4
                have K4 := Lib.hid k4
                have HOO := Lib.hid hO4
                have own4lt : Hid (∀ i, OwnB (.slice a4 ans.length c4) i → m4 ≤ i ∧ i < w4.heap.size) := fun i hi => own4.lt i hi
                clear HD own4 mach4 k4 hO4 LB3 RI RP3
                go_wp2_with fail
                go_fit HKP.out
                rintro e w5 ⟨rfl, k5⟩
                have RI5 := RI4.out.keep k5 id
                have HSP := Lib.hid (spoil_c bI l.length (l.length + 3) ((l ++ [71, 71, 71]).map bv) l w5 rfl RI5 (fun j u hu => by
                  rw [List.map_append, List.getElem?_append_left (List.getElem?_eq_some_iff.1 hu).1]; exact hu) (by unfold maxLen; omega))
                clear HKP RI5
                go_wp2_with fail
                go_fit HSP.out
                rintro e w6 ⟨rfl, k6⟩
                have k46 : Keep (· = bI) w4 w6 := k5.nix.trans k6
                have LB6 := LB4.out.keep k46 (fun i hi e => by have := (HQ.out i hi).2.2; omega)
                have HO6 := HO4.out.keep k46 (fun i hi e => hIQ (e ▸ hi))
                have HC := Lib.hid (HOC.out w6 HO6 LB6)
                have MA6 := Lib.hid (MA4.out.keep k46 (fun i hi e => (HOO.out i hi).1.elim (fun h => hIO (e ▸ h)) (fun h => by omega)))
                have OW6 := Lib.hid (owned_keep OW4.out k46 (fun i hi e => by have := own4lt.out i hi; omega))
                have RP6 := Lib.hid (RP4.out.keep k46 (fun e => by have := PB.out.2.2.2; omega))
                have K46 := Lib.hid k46
                have hs46 : w4.heap.size ≤ w6.heap.size := k46.size
                clear k5 k6 k46 HSP HOC LB6 HO6 HO4 LB4 RI4 RP4 MA4 OW4
                go_wp2_with fail
                go_fit HC.out
                rintro e w7 ⟨a7, c7, m7, Q', g', aL', cL', css', rfl, hm7, own7, once7, k7, hQ7⟩
                have OW7 := owned_keep OW6.out k7 (fun i hi h => by have := own4lt.out i hi; have := ST.out.o.lt i h; omega)
                have HE := bytes_c a4 a7 ans.length c4 ans.length c7 ans ans w7 rfl rfl (Lies.of_owned OW7) (Lies.of_owned own7)
                rw [decide_eq_true (rfl : ans = ans)] at HE
                have HE := Lib.hid HE
                have OW7 := Lib.hid OW7
                have ON7 := Lib.hid once7
                have K7 := Lib.hid k7
                have HQ7 := Lib.hid hQ7
                have MA7 := Lib.hid (MA6.out.keep k7 (fun i hi h => (HOO.out i hi).1.elim (fun h' => ST.out.dj i h' h) (fun h' => by have := ST.out.o.lt i h; omega)))
                have RP7 := Lib.hid (RP6.out.keep k7 PB.out.2.1)
                have hs67 : w6.heap.size ≤ w7.heap.size := k7.size
                clear HC own7 once7 k7 hQ7 MA6 RP6 OW6
                go_wp2_with fail
                go_fit HE.out
                rintro e w8 ⟨rfl, rfl⟩
                have HSP := Lib.hid (spoilX_c m4 ans.length c4 a4 ans w7 rfl OW7.out)
                clear HE
                go_wp2_with fail
                go_fit HSP.out
                rintro e w8 ⟨rfl, k8⟩
                have hPlt : bP < w3.heap.size := by have := PB.out.2.2.2; omega
                have RP8 := Lib.hid (RP7.out.keep k8 (fun h => by have := own4lt.out bP h; omega))
                have S8 : Sta W w8 bO bD bT (n + 1) (k + 1) O' Q' tp' last' L' g' aL' cL' css' := by
                  have hw : W.heap.size ≤ w2.heap.size := ST.out.kk.size
                  refine ⟨MA7.out.keep k8 (fun i hi h => by have := own4lt.out i h; have := (HOO.out i hi).2; omega), ON7.out.keep k8 (fun i hi h => ?_), BOTH.out, fun i hi hq => ?_, fun i hi => ?_, ?_, by have := ST.out.nk; omega⟩
                  · have h1 := own4lt.out i h
                    exact (HQ7.out i hi).1.elim (fun h => by have := ST.out.o.lt i h; omega) (fun h => by omega)
                  · exact (HQ7.out i hq).1.elim (fun h => (HOO.out i hi).1.elim (fun h' => ST.out.dj i h' h) (fun h' => by have := ST.out.o.lt i h; omega)) (fun h => by have := (HOO.out i hi).2; omega)
                  · exact hi.elim (fun h => (HOO.out i h).1.elim (fun h => ST.out.ge i (.inl h)) (fun h => by omega)) (fun h => (HQ7.out i h).1.elim (fun h => ST.out.ge i (.inr h)) (fun h => by omega))
                  · exact (((ST3.out.kk.then K4.out (fun i hi h => by have := ST.out.ge i (.inl h); omega)).then K46.out (fun i hi e => by omega)).then K7.out (fun i hi h => by have := ST.out.ge i (.inr h); omega)).then k8 (fun i hi h => by have := own4lt.out i h; omega)
                have S8 := Lib.hid S8
                have hbt := S8.out.b.bnd.tl
                have hbl := S8.out.b.len
                have HA1 := Lib.hid (alike_c O' bD bT (n + 1) tp' last' Q' bO g' L' aL' cL' css' c s w8 S8.out.m S8.out.o S8.out.b.same HCS.out.1 HCS.out.2 (by omega) (by omega) (by have h1 := told_le last' c s; have h2 := S8.out.b.bnd.an c; omega))
                clear ST ST3 K4 K46 K7 HQ7 HOO MA7 ON7 OW7 RP7 HSP k8 BOTH own4lt HQ PB LB RP
                go_wp2_with fail
                go_fit HA1.out
                rintro e w9 ⟨rfl, k9⟩
                have S9 := Lib.hid (S8.out.nix k9)
                have RP9 := RP8.out.keep k9 id
                have p0 : w9.cell? ⟨bP, 0, none⟩ = some (.int .u64 x.fC.fClient) := RP9.cell 0
                have p1 : w9.cell? ⟨bP, 1, none⟩ = some (.int .u64 x.fC.fSeq) := RP9.cell 1
                have HA2 := Lib.hid (alike_c O' bD bT (n + 1) tp' last' Q' bO g' L' aL' cL' css' x.fC.fClient x.fC.fSeq w9 S9.out.m S9.out.o S9.out.b.same HXU.out.1 HXU.out.2 (by omega) (by omega) (by have h1 := told_le last' x.fC.fClient x.fC.fSeq; have h2 := S9.out.b.bnd.an x.fC.fClient; omega))
                clear S8 RP8 RP9 k9 HA1
                go_wp2_with fail
                clear p0 p1
                go_fit HA2.out
                rintro e w10 ⟨rfl, k10⟩
                have S10 := Lib.hid (S9.out.nix k10)
                clear S9 k10 HA2
                go_wp2_with fail
                go_roundw
                case rel => exact ⟨k + 1, n + 1, bD, bT, O', Q', tp', last', L', g', aL', cL', css', rfl, rfl, by go_num, by omega, by omega, S10.out⟩
                case measure => simp [intOf]; omega
            | true =>
              have hbt := ST.out.b.bnd.tl
              have hbb := ST.out.b.bnd.tb
              have hbn := ST.out.nk
              have HC := Lib.hid (save_c O bD bT n tp last wv ST.out.m (by omega) (fun i => by have := ST.out.b.bnd.an i; omega) (by omega) (by omega))
              go_wp2_with fail
              clear hld hst p2 p3 p4
              go_fit HC.out
              rintro e w3 ⟨ys, aS, cS, hR, hyn, rfl, ownS, k3⟩
              generalize wr.heap.size = bP at *
              obtain ⟨hL1, hL2⟩ := mLoad_save ST.out.b.bnd (by omega) hR (by omega)
              have hsl := save_len ST.out.b.bnd (by omega) hyn (by omega)
              have hEl : (entsOf ys last).length ≤ n := by rw [ents_len]; exact hyn
              have hEa : ∀ z ∈ entsOf ys last, z.2.2.length ≤ 302 := ents_ans ST.out.b.bnd.an
              have HEA := Lib.hid hEa
              have HCH := Lib.hid (load_chain hL1)
              have HLO := Lib.hid (lastOf_ents hR ST.out.b.out HCH.out)
              have HL1 := Lib.hid hL1
              have HL2 := Lib.hid hL2
              have ST3 := Lib.hid (ST.out.nix k3)
              have RP3 := Lib.hid (RP.out.keep k3 id)
              have LD3 := Lib.hid (LD.out.keep k3 (fun _ _ h => h))
              have LR3 := Lib.hid (LR.out.keep k3 (fun _ _ h => h))
              have hSl : Hid (∀ i, OwnB (.slice aS (saveB ys last tp).length cS) i → wv.heap.size ≤ i ∧ i < w3.heap.size) := fun i hi => ownS.lt i hi
              have hsv3 : wv.heap.size ≤ w3.heap.size := k3.size
              have OWS := Lib.hid ownS
              obtain ⟨S, hS⟩ : ∃ S, Hid (saveB ys last tp = S) := ⟨_, rfl⟩
              rw [hS.out] at HL1 HL2 OWS hSl hsl ⊢
              clear HC hR ownS k3 hL1 hL2 hEa RP LD LR hS
              generalize entsOf ys last = E at *
              have row3 := RowIs.alloc w3 #[.slice none 0 0] 27
              have HC := Lib.hid (new_c w3.heap.size _ (IsTape.made row3))
              have kA : Keep Nix w3 (w3.alloc (.cells #[.slice none 0 0] 27)) := (Keep.refl Nix w3).alloc _
              go_wp2_with fail
              go_fit HC.out
              rintro e w4 ⟨bF, OF, rfl, mF, hOF, k4⟩
              have hOF3 : Hid (∀ x, OF x → w3.heap.size ≤ x ∧ x < w4.heap.size) := fun x hx => ⟨by rcases hOF x hx with h | h; omega; simp at h; omega, mF.lt x hx⟩
              have k34 := Lib.hid (kA.trans k4)
              have OWS4 := Lib.hid (owned_keep OWS.out k34.out (fun _ _ h => h))
              have hd := load_c OF bF w3.heap.size 0 [] (fun _ => none) aS S.length cS S w4 mF rfl (Lies.of_owned OWS4.out) hsl (by decide) (by decide)
              unfold MLoadPost at hd
              rw [HL2.out] at hd
              have HD := Lib.hid hd
              have hs34 : w3.heap.size ≤ w4.heap.size := k34.out.size
              clear mF hOF k4 kA row3 OWS hd HC
              go_wp2_with fail
              go_fit HD.out
              rintro e w6 ⟨rfl, OF2, mF2, k6, hOF2⟩
              have OWS6 := Lib.hid (owned_keep OWS4.out k6 (fun z hz h => by have := hOF3.out z h; have := hSl.out z hz; omega))
              have hOF6 : Hid (∀ x, OF2 x → w3.heap.size ≤ x) := fun x hx => (hOF2 x hx).elim (fun h => (hOF3.out x h).1) (fun h => by omega)
              have k36 := Lib.hid (k34.out.then k6 (fun i hi h => by have := (hOF3.out i h).1; omega))
              have hs46 : w4.heap.size ≤ w6.heap.size := k6.size
              have MF2 := Lib.hid mF2
              have HC := Lib.hid (save_c OF2 bF w3.heap.size E.length tp (lastOf E) w6 mF2 (by omega) (fun i => by have := ans_chain HCH.out HEA.out i; omega) (by omega) (by omega))
              clear mF2 k6 hOF2 HD OWS4 k34
              go_wp2_with fail
              go_fit HC.out
              rintro e w7 ⟨ys2, aF, cF, hR2, -, rfl, ownF, k7⟩
              have hsv := (load_save HL1.out rfl hR2).1
              rw [hsv] at ownF
              have OWS7 := Lib.hid (owned_keep OWS6.out k7 (fun _ _ h => h))
              have HE := bytes_c aF aS S.length cF S.length cS S S w7 rfl rfl (Lies.of_owned ownF) (Lies.of_owned OWS7.out)
              rw [show decide (S = S) = true from decide_eq_true rfl] at HE
              replace HE := Lib.hid HE
              rw [hsv]
              have k37 := Lib.hid (k36.out.trans k7)
              have MF7 := Lib.hid (MF2.out.keep k7 (fun _ _ h => h))
              have hs67 : w6.heap.size ≤ w7.heap.size := k7.size
              clear HC ownF OWS6 hR2 k36 MF2 k7 hsv
              go_wp2_with fail
              go_fit HE.out
              rintro e w8 ⟨rfl, rfl⟩
              have HSP := Lib.hid (spoilX_c wv.heap.size S.length cS aS S w7 rfl OWS7.out)
              clear HE
              go_wp2_with fail
              go_fit HSP.out
              rintro e w8 ⟨rfl, k8⟩
              have hWv : W.heap.size ≤ wv.heap.size := ST.out.kk.size
              have hs78 : w7.heap.size ≤ w8.heap.size := k8.size
              have S8 : Sta W w8 bO bF w3.heap.size E.length k OF2 Q tp last L g aL cL css := by
                have hm8 := MF7.out.keep k8 (fun i hi h => by have := hOF6.out i hi; have := hSl.out i h; omega)
                rw [HLO.out] at hm8
                exact ⟨hm8, (ST3.out.o.nix k37.out).keep k8 (fun i hi h => by have := ST.out.o.lt i hi; have := hSl.out i h; omega), ST.out.b, fun i hi hq => by have := hOF6.out i hi; have := ST.out.o.lt i hq; omega, fun i hi => hi.elim (fun h => by have := hOF6.out i h; omega) (fun h => ST.out.ge i (.inr h)), ((ST3.out.kk.trans k37.out).then k8 (fun i hi h => by have := hSl.out i h; omega)), by omega⟩
              have hPv := HPL.out
              have k38 : Keep (OwnB (.slice aS S.length cS)) w3 w8 := k37.out.nix.trans k8
              have RP := Lib.hid (RP3.out.keep k38 (fun h => by have := hSl.out _ h; omega))
              have LD := Lib.hid (LD3.out.keep k38 (fun i (hi : i < W.heap.size) h => by have := hSl.out i h; omega))
              have LR := Lib.hid (LR3.out.keep k38 (fun i (hi : i < W.heap.size) h => by have := hSl.out i h; omega))
              have hPb : Hid (¬ OF2 bP ∧ ¬ Q bP ∧ W.heap.size ≤ bP) := ⟨fun h => by have := hOF6.out _ h; omega, hPb.out.2.1, hPb.out.2.2⟩
              have HPL : Hid (bP < w8.heap.size) := by show _ < _; omega
              have ST := Lib.hid S8
              clear S8 k38 k8 HSP MF7 OWS7 k37 hOF6 hOF3 hSl HEA HCH HLO HL1 HL2 RP3 LD3 LR3 ST3 hsl hEl hbt hbb hbn hyn
              generalize w3.heap.size = bT at *
              generalize bF = bD at *
              generalize OF2 = O at *
              generalize E.length = n at *
              have hldc : (wholeSem 35 (.pointer (some ⟨bP, 0, none⟩))).run Try.prog w8 = .ok (.value (.agg ([Value.int .u64 x.fC.fClient, .int .u64 x.fC.fSeq, .slice aD x.fC.fData.length cD] : List Value).toArray)) w8 := Whole.at S_Call rfl (fun j u hu => by
                rw [Nat.zero_add, RP.out.cell]
                match j, hu with
                | 0, hu => exact hu
                | 1, hu => exact hu
                | 2, hu => exact hu)
              have p3 : w8.cell? ⟨bP, 3, none⟩ = some (.slice aR x.fRaw.length cR) := RP.out.cell 3
              have hxr : rGCall w8 (· < w8.heap.size) [.int .u64 x.fC.fClient, .int .u64 x.fC.fSeq, .slice aD x.fC.fData.length cD] x.fC := rGCall_lawful.mono (rGCall_lawful.nix RX.out ST.out.kk) (fun i hi => Nat.lt_of_lt_of_le hi ST.out.kk.size)
              have hel := enc_small' x.fC (by omega)
              have HC := Lib.hid (oTCall_c w8 (· < w8.heap.size) (fun _ h => h) x.fC _ hxr (by unfold far; omega))
              clear hxr
              go_wp2_with fail
              clear hldc p3
              go_fit HC.out
              rintro e w2 ⟨a3, c3, rfl, own3, k3⟩
              skip
              have ST2 := Lib.hid (ST.out.nix k3)
              have RP2 := Lib.hid (RP.out.keep k3 id)
              have LR2 := Lib.hid (LR.out.keep k3 (fun _ _ h => h))
              have hs23 : w8.heap.size ≤ w2.heap.size := k3.size
              have PB : Hid (¬ O bP ∧ ¬ Q bP ∧ W.heap.size ≤ bP ∧ bP < w2.heap.size) := ⟨hPb.out.1, hPb.out.2.1, hPb.out.2.2, Nat.lt_of_lt_of_le HPL.out hs23⟩
              have p3 : w2.cell? ⟨bP, 3, none⟩ = some (.slice aR x.fRaw.length cR) := RP2.out.cell 3
              have OW3 := Lib.hid own3
              clear k3 RP LR HC LD hPb HPL own3
              by_cases hraw : (0 : Int) < (x.fRaw.length : Int)
              · have HX : Hid ((takeP pGCall zGCall x.fRaw).2 = 0 → (isU64 (takeP pGCall zGCall x.fRaw).1.fClient ∧ isU64 (takeP pGCall zGCall x.fRaw).1.fSeq) ∧ (takeP pGCall zGCall x.fRaw).1.fData.length ≤ 300) := fun h => ⟨take_u64 h, take_ok (by omega) h⟩
                have HLL : Hid (x.fRaw.length ≤ 1000) := by show _ ≤ _; omega
                obtain ⟨q, LB, HQ⟩ : ∃ q : Nat → Prop, Hid (Lies w2 q aR (x.fRaw.map bv)) ∧ Hid (∀ i, q i → ¬ O i ∧ ¬ Q i ∧ i < w2.heap.size) := ⟨_, LR2, fun i (hi : i < W.heap.size) => ⟨fun h => by have := ST2.out.ge i (.inl h); omega, fun h => by have := ST2.out.ge i (.inr h); omega, by have := ST2.out.kk.size; omega⟩⟩
                have ST := ST2
                have RP := RP2
                clear LR2 OW3 ST2 RP2
                go_wp2_with fail
                clear p3 hraw
                generalize x.fRaw = l at *
                have hLL : l.length ≤ 1000 := HLL.out
                go_wp2_with fail
                go_fit (ownB_c aR l.length cR l 71 w2 rfl LB.out (by omega))
                rintro e w3 ⟨bI, rfl, hbI, rowI, k3⟩
                have hIO : ¬ O bI := fun h => by have := ST.out.m.lt _ h; omega
                have hIQ : ¬ Q bI := fun h => by have := ST.out.o.lt _ h; omega
                have ST3 := Lib.hid (ST.out.nix k3)
                have LB3 := Lib.hid (LB.out.keep k3 (fun _ _ h => h))
                have RP3 := Lib.hid (RP.out.keep k3 id)
                have hI3 := rowI.lt
                have RI := Lib.hid rowI
                have LI : Lies w3 (· = bI) (some ⟨bI, 0, none⟩) (l.map bv) := rowI.lies (fun i => i = bI) rfl (fun j u hu => by
                  rw [List.map_append, Nat.zero_add, List.getElem?_append_left (List.getElem?_eq_some_iff.1 hu).1]; exact hu)
                obtain ⟨y, hy⟩ : ∃ y, takeP pGCall zGCall l = y := ⟨_, rfl⟩
                have hX := HX.out
                rw [hy] at hX
                obtain ⟨j0, hj0⟩ := place y.1.fClient L
                obtain ⟨q1, q2, q3⟩ := ST.out.b.step hX hj0
                have hbt := ST.out.b.bnd.tl
                have hbl := ST.out.b.len
                have hbn := ST.out.nk
                have HD := doA_c O bD bT n tp last (some ⟨bI, 0, none⟩) l.length (l.length + 3) l w3 rfl LI (by omega) ST3.out.m (by omega) (by omega)
                rw [hy] at HD
                obtain ⟨L', hv⟩ : ∃ L', onceA tp L y j0 = ((doA tp last y).1, L', (doA tp last y).2.2) := ⟨(onceA tp L y j0).2.1, Prod.ext q1 (Prod.ext rfl q2)⟩
                rw [hv] at q3
                obtain ⟨⟨tp', last', ans⟩, hz⟩ : ∃ z, doA tp last y = z := ⟨_, rfl⟩
                rw [hz] at HD hv q3
                unfold DoPost at HD
                (try simp only at HD)
                (try simp only at hv q3)
                have BOTH := Lib.hid q3
                have HD := Lib.hid HD
                have hs3 : w2.heap.size ≤ w3.heap.size := k3.size
                have HOC := fun w6 h6 lb6 => odoA_c Q bO g tp L aL cL css aR l.length cR l w6 h6 (by omega) (by omega) rfl lb6 (by omega) (fun h => by rw [hy] at h ⊢; have := (hX h).2; omega) j0 (by rw [hy]; exact hj0) (p := q)
                rw [hy, hv] at HOC
                unfold OncePost at HOC
                (try simp only at HOC)
                have HOC := Lib.hid HOC
                clear k3 rowI LI q1 q2 q3 hX hv hz hj0 hy hbt hbl hbn
                go_wp2_with fail
                go_fit HD.out
                rintro e w4 ⟨a4, c4, m4, O', rfl, hm4, hm4', own4, mach4, k4, hO4, -⟩
                have LB4 := LB3.out.keep k4 (fun i hi h => (HQ.out i hi).1 h)
                have RI4 := RI.out.keep k4 hIO
                have RP4 := Lib.hid (RP3.out.keep k4 PB.out.1)
                have HO4 := Lib.hid (ST3.out.o.keep k4 (fun i hi h => ST.out.dj i h hi))
                have HKP := Lib.hid (keptB_c bI aR l.length cR l 71 w4 rfl LB4 (by omega) RI4)
                have LB4 := Lib.hid LB4
                have RI4 := Lib.hid RI4
                have OW4 := Lib.hid own4
                have MA4 := Lib.hid mach4
                have K4 := Lib.hid k4
                have HOO := Lib.hid hO4
                have own4lt : Hid (∀ i, OwnB (.slice a4 ans.length c4) i → m4 ≤ i ∧ i < w4.heap.size) := fun i hi => own4.lt i hi
                clear HD own4 mach4 k4 hO4 LB3 RI RP3
                go_wp2_with fail
                go_fit HKP.out
                rintro e w5 ⟨rfl, k5⟩
                have RI5 := RI4.out.keep k5 id
                have HSP := Lib.hid (spoil_c bI l.length (l.length + 3) ((l ++ [71, 71, 71]).map bv) l w5 rfl RI5 (fun j u hu => by
                  rw [List.map_append, List.getElem?_append_left (List.getElem?_eq_some_iff.1 hu).1]; exact hu) (by unfold maxLen; omega))
                clear HKP RI5
                go_wp2_with fail
                go_fit HSP.out
                rintro e w6 ⟨rfl, k6⟩
                have k46 : Keep (· = bI) w4 w6 := k5.nix.trans k6
                have LB6 := LB4.out.keep k46 (fun i hi e => by have := (HQ.out i hi).2.2; omega)
                have HO6 := HO4.out.keep k46 (fun i hi e => hIQ (e ▸ hi))
                have HC := Lib.hid (HOC.out w6 HO6 LB6)
                have MA6 := Lib.hid (MA4.out.keep k46 (fun i hi e => (HOO.out i hi).1.elim (fun h => hIO (e ▸ h)) (fun h => by omega)))
                have OW6 := Lib.hid (owned_keep OW4.out k46 (fun i hi e => by have := own4lt.out i hi; omega))
                have RP6 := Lib.hid (RP4.out.keep k46 (fun e => by have := PB.out.2.2.2; omega))
                have K46 := Lib.hid k46
                have hs46 : w4.heap.size ≤ w6.heap.size := k46.size
                clear k5 k6 k46 HSP HOC LB6 HO6 HO4 LB4 RI4 RP4 MA4 OW4
                go_wp2_with fail
                go_fit HC.out
                rintro e w7 ⟨a7, c7, m7, Q', g', aL', cL', css', rfl, hm7, own7, once7, k7, hQ7⟩
                have OW7 := owned_keep OW6.out k7 (fun i hi h => by have := own4lt.out i hi; have := ST.out.o.lt i h; omega)
                have HE := bytes_c a4 a7 ans.length c4 ans.length c7 ans ans w7 rfl rfl (Lies.of_owned OW7) (Lies.of_owned own7)
                rw [decide_eq_true (rfl : ans = ans)] at HE
                have HE := Lib.hid HE
                have OW7 := Lib.hid OW7
                have ON7 := Lib.hid once7
                have K7 := Lib.hid k7
                have HQ7 := Lib.hid hQ7
                have MA7 := Lib.hid (MA6.out.keep k7 (fun i hi h => (HOO.out i hi).1.elim (fun h' => ST.out.dj i h' h) (fun h' => by have := ST.out.o.lt i h; omega)))
                have RP7 := Lib.hid (RP6.out.keep k7 PB.out.2.1)
                have hs67 : w6.heap.size ≤ w7.heap.size := k7.size
                clear HC own7 once7 k7 hQ7 MA6 RP6 OW6
                go_wp2_with fail
                go_fit HE.out
                rintro e w8 ⟨rfl, rfl⟩
                have HSP := Lib.hid (spoilX_c m4 ans.length c4 a4 ans w7 rfl OW7.out)
                clear HE
                go_wp2_with fail
                go_fit HSP.out
                rintro e w8 ⟨rfl, k8⟩
                have hPlt : bP < w3.heap.size := by have := PB.out.2.2.2; omega
                have RP8 := Lib.hid (RP7.out.keep k8 (fun h => by have := own4lt.out bP h; omega))
                have S8 : Sta W w8 bO bD bT (n + 1) (k + 1) O' Q' tp' last' L' g' aL' cL' css' := by
                  have hw : W.heap.size ≤ w2.heap.size := ST.out.kk.size
                  refine ⟨MA7.out.keep k8 (fun i hi h => by have := own4lt.out i h; have := (HOO.out i hi).2; omega), ON7.out.keep k8 (fun i hi h => ?_), BOTH.out, fun i hi hq => ?_, fun i hi => ?_, ?_, by have := ST.out.nk; omega⟩
                  · have h1 := own4lt.out i h
                    exact (HQ7.out i hi).1.elim (fun h => by have := ST.out.o.lt i h; omega) (fun h => by omega)
                  · exact (HQ7.out i hq).1.elim (fun h => (HOO.out i hi).1.elim (fun h' => ST.out.dj i h' h) (fun h' => by have := ST.out.o.lt i h; omega)) (fun h => by have := (HOO.out i hi).2; omega)
                  · exact hi.elim (fun h => (HOO.out i h).1.elim (fun h => ST.out.ge i (.inl h)) (fun h => by omega)) (fun h => (HQ7.out i h).1.elim (fun h => ST.out.ge i (.inr h)) (fun h => by omega))
                  · exact (((ST3.out.kk.then K4.out (fun i hi h => by have := ST.out.ge i (.inl h); omega)).then K46.out (fun i hi e => by omega)).then K7.out (fun i hi h => by have := ST.out.ge i (.inr h); omega)).then k8 (fun i hi h => by have := own4lt.out i h; omega)
                have S8 := Lib.hid S8
                have hbt := S8.out.b.bnd.tl
                have hbl := S8.out.b.len
                have HA1 := Lib.hid (alike_c O' bD bT (n + 1) tp' last' Q' bO g' L' aL' cL' css' c s w8 S8.out.m S8.out.o S8.out.b.same HCS.out.1 HCS.out.2 (by omega) (by omega) (by have h1 := told_le last' c s; have h2 := S8.out.b.bnd.an c; omega))
                clear ST ST3 K4 K46 K7 HQ7 HOO MA7 ON7 OW7 RP7 HSP k8 BOTH own4lt HQ PB LB RP
                go_wp2_with fail
                go_fit HA1.out
                rintro e w9 ⟨rfl, k9⟩
                have S9 := Lib.hid (S8.out.nix k9)
                have RP9 := RP8.out.keep k9 id
                have p0 : w9.cell? ⟨bP, 0, none⟩ = some (.int .u64 x.fC.fClient) := RP9.cell 0
                have p1 : w9.cell? ⟨bP, 1, none⟩ = some (.int .u64 x.fC.fSeq) := RP9.cell 1
                have HA2 := Lib.hid (alike_c O' bD bT (n + 1) tp' last' Q' bO g' L' aL' cL' css' x.fC.fClient x.fC.fSeq w9 S9.out.m S9.out.o S9.out.b.same HXU.out.1 HXU.out.2 (by omega) (by omega) (by have h1 := told_le last' x.fC.fClient x.fC.fSeq; have h2 := S9.out.b.bnd.an x.fC.fClient; omega))
                clear S8 RP8 RP9 k9 HA1
                go_wp2_with fail
                clear p0 p1
                go_fit HA2.out
                rintro e w10 ⟨rfl, k10⟩
                have S10 := Lib.hid (S9.out.nix k10)
                clear S9 k10 HA2
                go_wp2_with fail
                go_roundw
                case rel => exact ⟨k + 1, n + 1, bD, bT, O', Q', tp', last', L', g', aL', cL', css', rfl, rfl, by go_num, by omega, by omega, S10.out⟩
                case measure => simp [intOf]; omega
              · have HX : Hid ((takeP pGCall zGCall (encGCall x.fC)).2 = 0 → (isU64 (takeP pGCall zGCall (encGCall x.fC)).1.fClient ∧ isU64 (takeP pGCall zGCall (encGCall x.fC)).1.fSeq) ∧ (takeP pGCall zGCall (encGCall x.fC)).1.fData.length ≤ 300) := fun _ => by
                  rw [takeCall x.fC (show okGCall x.fC from ⟨HXU.out, (by show x.fC.fData.length ≤ 65536; omega)⟩)]
                  exact ⟨HXU.out, by show x.fC.fData.length ≤ 300; omega⟩
                have HLL : Hid ((encGCall x.fC).length ≤ 1000) := enc_k x.fC (by omega)
                obtain ⟨q, LB, HQ⟩ : ∃ q : Nat → Prop, Hid (Lies w2 q a3 ((encGCall x.fC).map bv)) ∧ Hid (∀ i, q i → ¬ O i ∧ ¬ Q i ∧ i < w2.heap.size) := ⟨_, Lies.of_owned OW3.out, fun i hi => by
                  have h1 := OW3.out.lt i hi.2
                  exact ⟨fun h => by have := ST.out.m.lt i h; omega, fun h => by have := ST.out.o.lt i h; omega, h1.2⟩⟩
                have ST := ST2
                have RP := RP2
                clear LR2 OW3 ST2 RP2
                go_wp2_with fail
                clear p3 hraw hel
                generalize encGCall x.fC = l at *
                have hLL : l.length ≤ 1000 := HLL.out
                go_wp2_with fail
                go_fit (ownB_c a3 l.length c3 l 71 w2 rfl LB.out (by omega))
                rintro e w3 ⟨bI, rfl, hbI, rowI, k3⟩
                have hIO : ¬ O bI := fun h => by have := ST.out.m.lt _ h; omega
                have hIQ : ¬ Q bI := fun h => by have := ST.out.o.lt _ h; omega
                have ST3 := Lib.hid (ST.out.nix k3)
                have LB3 := Lib.hid (LB.out.keep k3 (fun _ _ h => h))
                have RP3 := Lib.hid (RP.out.keep k3 id)
                have hI3 := rowI.lt
                have RI := Lib.hid rowI
                have LI : Lies w3 (· = bI) (some ⟨bI, 0, none⟩) (l.map bv) := rowI.lies (fun i => i = bI) rfl (fun j u hu => by
                  rw [List.map_append, Nat.zero_add, List.getElem?_append_left (List.getElem?_eq_some_iff.1 hu).1]; exact hu)
                obtain ⟨y, hy⟩ : ∃ y, takeP pGCall zGCall l = y := ⟨_, rfl⟩
                have hX := HX.out
                rw [hy] at hX
                obtain ⟨j0, hj0⟩ := place y.1.fClient L
                obtain ⟨q1, q2, q3⟩ := ST.out.b.step hX hj0
                have hbt := ST.out.b.bnd.tl
                have hbl := ST.out.b.len
                have hbn := ST.out.nk
                have HD := doA_c O bD bT n tp last (some ⟨bI, 0, none⟩) l.length (l.length + 3) l w3 rfl LI (by omega) ST3.out.m (by omega) (by omega)
                rw [hy] at HD
                obtain ⟨L', hv⟩ : ∃ L', onceA tp L y j0 = ((doA tp last y).1, L', (doA tp last y).2.2) := ⟨(onceA tp L y j0).2.1, Prod.ext q1 (Prod.ext rfl q2)⟩
                rw [hv] at q3
                obtain ⟨⟨tp', last', ans⟩, hz⟩ : ∃ z, doA tp last y = z := ⟨_, rfl⟩
                rw [hz] at HD hv q3
                unfold DoPost at HD
                (try simp only at HD)
                (try simp only at hv q3)
                have BOTH := Lib.hid q3
                have HD := Lib.hid HD
                have hs3 : w2.heap.size ≤ w3.heap.size := k3.size
                have HOC := fun w6 h6 lb6 => odoA_c Q bO g tp L aL cL css a3 l.length c3 l w6 h6 (by omega) (by omega) rfl lb6 (by omega) (fun h => by rw [hy] at h ⊢; have := (hX h).2; omega) j0 (by rw [hy]; exact hj0) (p := q)
                rw [hy, hv] at HOC
                unfold OncePost at HOC
                (try simp only at HOC)
                have HOC := Lib.hid HOC
                clear k3 rowI LI q1 q2 q3 hX hv hz hj0 hy hbt hbl hbn
                go_wp2_with fail
                go_fit HD.out
                rintro e w4 ⟨a4, c4, m4, O', rfl, hm4, hm4', own4, mach4, k4, hO4, -⟩
                have LB4 := LB3.out.keep k4 (fun i hi h => (HQ.out i hi).1 h)
                have RI4 := RI.out.keep k4 hIO
                have RP4 := Lib.hid (RP3.out.keep k4 PB.out.1)
                have HO4 := Lib.hid (ST3.out.o.keep k4 (fun i hi h => ST.out.dj i h hi))
                have HKP := Lib.hid (keptB_c bI a3 l.length c3 l 71 w4 rfl LB4 (by omega) RI4)
                have LB4 := Lib.hid LB4
                have RI4 := Lib.hid RI4
                have OW4 := Lib.hid own4
                have MA4 := Lib.hid mach4
                have K4 := Lib.hid k4
                have HOO := Lib.hid hO4
                have own4lt : Hid (∀ i, OwnB (.slice a4 ans.length c4) i → m4 ≤ i ∧ i < w4.heap.size) := fun i hi => own4.lt i hi
                clear HD own4 mach4 k4 hO4 LB3 RI RP3
                go_wp2_with fail
                go_fit HKP.out
                rintro e w5 ⟨rfl, k5⟩
                have RI5 := RI4.out.keep k5 id
                have HSP := Lib.hid (spoil_c bI l.length (l.length + 3) ((l ++ [71, 71, 71]).map bv) l w5 rfl RI5 (fun j u hu => by
                  rw [List.map_append, List.getElem?_append_left (List.getElem?_eq_some_iff.1 hu).1]; exact hu) (by unfold maxLen; omega))
                clear HKP RI5
                go_wp2_with fail
                go_fit HSP.out
                rintro e w6 ⟨rfl, k6⟩
                have k46 : Keep (· = bI) w4 w6 := k5.nix.trans k6
                have LB6 := LB4.out.keep k46 (fun i hi e => by have := (HQ.out i hi).2.2; omega)
                have HO6 := HO4.out.keep k46 (fun i hi e => hIQ (e ▸ hi))
                have HC := Lib.hid (HOC.out w6 HO6 LB6)
                have MA6 := Lib.hid (MA4.out.keep k46 (fun i hi e => (HOO.out i hi).1.elim (fun h => hIO (e ▸ h)) (fun h => by omega)))
                have OW6 := Lib.hid (owned_keep OW4.out k46 (fun i hi e => by have := own4lt.out i hi; omega))
                have RP6 := Lib.hid (RP4.out.keep k46 (fun e => by have := PB.out.2.2.2; omega))
                have K46 := Lib.hid k46
                have hs46 : w4.heap.size ≤ w6.heap.size := k46.size
                clear k5 k6 k46 HSP HOC LB6 HO6 HO4 LB4 RI4 RP4 MA4 OW4
                go_wp2_with fail
                go_fit HC.out
                rintro e w7 ⟨a7, c7, m7, Q', g', aL', cL', css', rfl, hm7, own7, once7, k7, hQ7⟩
                have OW7 := owned_keep OW6.out k7 (fun i hi h => by have := own4lt.out i hi; have := ST.out.o.lt i h; omega)
                have HE := bytes_c a4 a7 ans.length c4 ans.length c7 ans ans w7 rfl rfl (Lies.of_owned OW7) (Lies.of_owned own7)
                rw [decide_eq_true (rfl : ans = ans)] at HE
                have HE := Lib.hid HE
                have OW7 := Lib.hid OW7
                have ON7 := Lib.hid once7
                have K7 := Lib.hid k7
                have HQ7 := Lib.hid hQ7
                have MA7 := Lib.hid (MA6.out.keep k7 (fun i hi h => (HOO.out i hi).1.elim (fun h' => ST.out.dj i h' h) (fun h' => by have := ST.out.o.lt i h; omega)))
                have RP7 := Lib.hid (RP6.out.keep k7 PB.out.2.1)
                have hs67 : w6.heap.size ≤ w7.heap.size := k7.size
                clear HC own7 once7 k7 hQ7 MA6 RP6 OW6
                go_wp2_with fail
                go_fit HE.out
                rintro e w8 ⟨rfl, rfl⟩
                have HSP := Lib.hid (spoilX_c m4 ans.length c4 a4 ans w7 rfl OW7.out)
                clear HE
                go_wp2_with fail
                go_fit HSP.out
                rintro e w8 ⟨rfl, k8⟩
                have hPlt : bP < w3.heap.size := by have := PB.out.2.2.2; omega
                have RP8 := Lib.hid (RP7.out.keep k8 (fun h => by have := own4lt.out bP h; omega))
                have S8 : Sta W w8 bO bD bT (n + 1) (k + 1) O' Q' tp' last' L' g' aL' cL' css' := by
                  have hw : W.heap.size ≤ w2.heap.size := ST.out.kk.size
                  refine ⟨MA7.out.keep k8 (fun i hi h => by have := own4lt.out i h; have := (HOO.out i hi).2; omega), ON7.out.keep k8 (fun i hi h => ?_), BOTH.out, fun i hi hq => ?_, fun i hi => ?_, ?_, by have := ST.out.nk; omega⟩
                  · have h1 := own4lt.out i h
                    exact (HQ7.out i hi).1.elim (fun h => by have := ST.out.o.lt i h; omega) (fun h => by omega)
                  · exact (HQ7.out i hq).1.elim (fun h => (HOO.out i hi).1.elim (fun h' => ST.out.dj i h' h) (fun h' => by have := ST.out.o.lt i h; omega)) (fun h => by have := (HOO.out i hi).2; omega)
                  · exact hi.elim (fun h => (HOO.out i h).1.elim (fun h => ST.out.ge i (.inl h)) (fun h => by omega)) (fun h => (HQ7.out i h).1.elim (fun h => ST.out.ge i (.inr h)) (fun h => by omega))
                  · exact (((ST3.out.kk.then K4.out (fun i hi h => by have := ST.out.ge i (.inl h); omega)).then K46.out (fun i hi e => by omega)).then K7.out (fun i hi h => by have := ST.out.ge i (.inr h); omega)).then k8 (fun i hi h => by have := own4lt.out i h; omega)
                have S8 := Lib.hid S8
                have hbt := S8.out.b.bnd.tl
                have hbl := S8.out.b.len
                have HA1 := Lib.hid (alike_c O' bD bT (n + 1) tp' last' Q' bO g' L' aL' cL' css' c s w8 S8.out.m S8.out.o S8.out.b.same HCS.out.1 HCS.out.2 (by omega) (by omega) (by have h1 := told_le last' c s; have h2 := S8.out.b.bnd.an c; omega))
                clear ST ST3 K4 K46 K7 HQ7 HOO MA7 ON7 OW7 RP7 HSP k8 BOTH own4lt HQ PB LB RP
                go_wp2_with fail
                go_fit HA1.out
                rintro e w9 ⟨rfl, k9⟩
                have S9 := Lib.hid (S8.out.nix k9)
                have RP9 := RP8.out.keep k9 id
                have p0 : w9.cell? ⟨bP, 0, none⟩ = some (.int .u64 x.fC.fClient) := RP9.cell 0
                have p1 : w9.cell? ⟨bP, 1, none⟩ = some (.int .u64 x.fC.fSeq) := RP9.cell 1
                have HA2 := Lib.hid (alike_c O' bD bT (n + 1) tp' last' Q' bO g' L' aL' cL' css' x.fC.fClient x.fC.fSeq w9 S9.out.m S9.out.o S9.out.b.same HXU.out.1 HXU.out.2 (by omega) (by omega) (by have h1 := told_le last' x.fC.fClient x.fC.fSeq; have h2 := S9.out.b.bnd.an x.fC.fClient; omega))
                clear S8 RP8 RP9 k9 HA1
                go_wp2_with fail
                clear p0 p1
                go_fit HA2.out
                rintro e w10 ⟨rfl, k10⟩
                have S10 := Lib.hid (S9.out.nix k10)
                clear S9 k10 HA2
                go_wp2_with fail
                go_roundw
                case rel => exact ⟨k + 1, n + 1, bD, bT, O', Q', tp', last', L', g', aL', cL', css', rfl, rfl, by go_num, by omega, by omega, S10.out⟩
                case measure => simp [intOf]; omega
      · have hi2 : ¬ (k : Int) < 60 := by omega
        go_wp2_with fail
        go_ret
        exact ⟨rfl, ST.out.kk⟩
    · have hi1 : ¬ (k : Int) < (ops.length : Int) := by omega
      go_wp2_with fail
      go_ret
      exact ⟨rfl, ST.out.kk⟩
end
theorem walk {m0 m1 m2 : Nat} (W : World) (v0 v1 v2 : Value) (h0 : Arg Try.prog W m0 47 v0) (h1 : Arg Try.prog W m1 33 v1) (h2 : Arg Try.prog W m2 33 v2) :
    Calls Try.prog 6 #[v0, v1, v2] W fun e w' => e = .returned (.bool true) ∧ Keep Nix W w' := by
  obtain ⟨b, m, cb, rfl, h6⟩ := h0.slice Try.underlying47
  obtain ⟨xs, hx, -⟩ := h6.toList (R := rGOp) (sz := 5) (by' := 72) GOp.size Try.underlying47 (by kernel_rfl) (by kernel_rfl) (by decide) (by decide) redGOp
  obtain ⟨rfl, -, -⟩ := rList_len hx
  obtain ⟨c, rfl, hc⟩ := h1.int Try.underlying33
  obtain ⟨s, rfl, hs⟩ := h2.int Try.underlying33
  exact plays_walk W b cb xs c s hx (isU64_wf hc) (isU64_wf hs)
end dedupPlays
end Go.Proofs.Ythchpdflnpfjkaa
