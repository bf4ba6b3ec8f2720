/- LOCK: the law LockReads. Printed by mac.py. -/
import Derived.Test.YtfagejfcibgigaaLkRd0
import Derived.Test.YtfagejfcibgigaaLkNil
import Derived.Deep.DeepCutAuto
import Derived.Deep.CutBlock
namespace Go.Proofs.Ytfagejfcibgigaa
open Go.RowKit Go.Shelf

namespace lockReads
theorem one_R {α : Type} {R : RD α} {w : World} {p : Nat → Prop} {b : Nat} {c : List Value} {x : α} (hl : Lies w p (some ⟨b, 0, none⟩) c) (hr : R w p c x) : rList R w p [.slice (some ⟨b, 0, none⟩) 1 1] [x] :=
  ⟨some ⟨b, 0, none⟩, 1, [c], rfl, rfl, by simpa using hl, Nat.le_refl _, (by show 1 ≤ far; decide), fun i d y hd hy => by
    match i, hd, hy with
    | 0, hd, hy =>
      have hd' : d = c := by simpa using hd.symm
      have hy' : y = x := by simpa using hy.symm
      subst hd' hy'
      exact hr
    | i + 1, hd, hy => simp at hd⟩
set_option maxRecDepth 100000 in
set_option maxHeartbeats 8000000 in
theorem reads_walk (W : World) (s : GSpan) (csS : List Value) (a : Option Addr) (cp : Nat) (key : List UInt8) (alone : Bool) (hs : rGSpan W (· < W.heap.size) csS s) (hl : Lies W (· < W.heap.size) a (key.map bv)) (hlc : key.length ≤ cp) (hlf : key.length ≤ far) :
    Calls Try.prog 7 #[.agg csS.toArray, .slice a key.length cp, .bool alone] W fun e w' => e = .returned (.bool true) ∧ Keep Nix W w' := by
  have hs2 := hs
  obtain ⟨aF, cF, aT, cT, rfl, hF, hT, -⟩ := rGSpan_open hs
  have k0 : Keep Nix W (W.alloc (.cells #[.slice aF s.fFrom.length cF, .slice aT s.fTo.length cT] 46)) := (Keep.refl Nix W).alloc _
  have row3 : RowIs (W.alloc (.cells #[.slice aF s.fFrom.length cF, .slice aT s.fTo.length cT] 46)) W.heap.size 46 [.slice aF s.fFrom.length cF, .slice aT s.fTo.length cT] := RowIs.alloc W _ _
  have hS0 : Hid (((W.alloc (.cells #[.slice aF s.fFrom.length cF, .slice aT s.fTo.length cT] 46))).heap.size = W.heap.size + 1) := by show _ = _; simp
  have HS2 := Lib.hid hs2
  have HL2 := Lib.hid hl
  have HF2 := Lib.hid hF
  clear hs hs2 hl hF hT
  go_enter Try.func7, Try.ntmps7
  go_upto_region 1 with fail
  generalize (W.alloc (.cells #[.slice aF s.fFrom.length cF, .slice aT s.fTo.length cT] 46)) = w0 at *
  go_wp2_with fail
  go_fit (new_c w0)
  rintro e w1 ⟨g, O, rfl, T1, hO, k1⟩
  go_wp2_with fail
  go_fit (awake_c w1)
  rintro e w2 ⟨rfl, k2⟩
  have k02 := (k0.trans k1).trans k2
  have row3 := (row3.keep k1 id).keep k2 id
  have s0 := row3.cell 0
  (try simp only [List.getElem?_cons_zero] at s0)
  have s1 := row3.cell 1
  (try simp only [List.getElem?_cons_succ] at s1); (try simp only [List.getElem?_cons_zero] at s1)
  have T2 := T1.nix k2
  have hOb : Hid (∀ b, O b → w0.heap.size ≤ b ∧ b < w1.heap.size) := fun b hb => ⟨hO b hb, T1.lt b hb⟩
  have hsz1 := k1.size
  have hsz2 := k2.size
  have hsz0 := k0.size
  clear T1 k0 k1 k2 hO
  go_upto_region 5 with fail
  clear s0 s1
  have kE : Keep Nix w2 (w2.alloc (.cells #[.slice aF s.fFrom.length cF, .slice aT s.fTo.length cT] 46)) := (Keep.refl Nix w2).alloc _
  have rowE := RowIs.alloc w2 #[.slice aF s.fFrom.length cF, .slice aT s.fTo.length cT] 46
  have k3 : Keep Nix w2 (((w2.alloc (.cells #[.slice aF s.fFrom.length cF, .slice aT s.fTo.length cT] 46))).alloc (.cells #[.int .u64 1, .slice none 0 0, .slice (some ⟨w2.heap.size, 0, none⟩) 1 1, .slice none 0 0] 28)) := kE.alloc _
  have row8 : RowIs (((w2.alloc (.cells #[.slice aF s.fFrom.length cF, .slice aT s.fTo.length cT] 46))).alloc (.cells #[.int .u64 1, .slice none 0 0, .slice (some ⟨w2.heap.size, 0, none⟩) 1 1, .slice none 0 0] 28)) (w2.heap.size + 1) 28 [.int .u64 1, .slice none 0 0, .slice (some ⟨w2.heap.size, 0, none⟩) 1 1, .slice none 0 0] := by
    have h := RowIs.alloc (w2.alloc (.cells #[.slice aF s.fFrom.length cF, .slice aT s.fTo.length cT] 46)) #[.int .u64 1, .slice none 0 0, .slice (some ⟨w2.heap.size, 0, none⟩) 1 1, .slice none 0 0] 28
    simpa using h
  have hS3 : Hid (((((w2.alloc (.cells #[.slice aF s.fFrom.length cF, .slice aT s.fTo.length cT] 46))).alloc (.cells #[.int .u64 1, .slice none 0 0, .slice (some ⟨w2.heap.size, 0, none⟩) 1 1, .slice none 0 0] 28))).heap.size = w2.heap.size + 2) := by show _ = _; simp
  have lE : Lies (((w2.alloc (.cells #[.slice aF s.fFrom.length cF, .slice aT s.fTo.length cT] 46))).alloc (.cells #[.int .u64 1, .slice none 0 0, .slice (some ⟨w2.heap.size, 0, none⟩) 1 1, .slice none 0 0] 28)) (fun b => b < W.heap.size ∨ (w2.heap.size ≤ b ∧ b < ((((w2.alloc (.cells #[.slice aF s.fFrom.length cF, .slice aT s.fTo.length cT] 46))).alloc (.cells #[.int .u64 1, .slice none 0 0, .slice (some ⟨w2.heap.size, 0, none⟩) 1 1, .slice none 0 0] 28))).heap.size)) (some ⟨w2.heap.size, 0, none⟩) [.slice aF s.fFrom.length cF, .slice aT s.fTo.length cT] := (Lies.block w2 #[.slice aF s.fFrom.length cF, .slice aT s.fTo.length cT] 46 (fun b => b < W.heap.size ∨ (w2.heap.size ≤ b ∧ b < ((((w2.alloc (.cells #[.slice aF s.fFrom.length cF, .slice aT s.fTo.length cT] 46))).alloc (.cells #[.int .u64 1, .slice none 0 0, .slice (some ⟨w2.heap.size, 0, none⟩) 1 1, .slice none 0 0] 28))).heap.size)) (.inr ⟨Nat.le_refl _, by have := hS3.out; omega⟩)).keep ((Keep.refl Nix _).alloc _) (fun _ _ h => h)
  replace row3 := row3.keep k3 id
  replace T2 := T2.nix k3
  have k03 := k02.trans k3
  clear kE rowE k02
  generalize (((w2.alloc (.cells #[.slice aF s.fFrom.length cF, .slice aT s.fTo.length cT] 46))).alloc (.cells #[.int .u64 1, .slice none 0 0, .slice (some ⟨w2.heap.size, 0, none⟩) 1 1, .slice none 0 0] 28)) = w3 at *
  cases alone with
  | false =>
    have hsw : Hid (W.heap.size + 1 ≤ w2.heap.size ∧ w1.heap.size ≤ w2.heap.size ∧ w2.heap.size + 2 ≤ w3.heap.size ∧ w2.heap.size ≤ w3.heap.size) := by
      have := hS0.out; have := hS3.out
      show _ ∧ _ ∧ _ ∧ _
      omega
    have rh : rGHeld w3 (fun b => b < W.heap.size ∨ (w2.heap.size ≤ b ∧ b < w3.heap.size)) [.int .u64 1, .slice none 0 0, .slice (some ⟨w2.heap.size, 0, none⟩) 1 1, .slice none 0 0] (hF false s) := by
      exact rGHeld_mk w3 (fun b => b < W.heap.size ∨ (w2.heap.size ≤ b ∧ b < w3.heap.size)) (x := hF false s) (aKeys := none) (cKeys := 0) (aSpans := some ⟨w2.heap.size, 0, none⟩) (cSpans := 1) (aWrites := none) (cWrites := 0) ⟨(by show (0 : Int) ≤ 1; decide), (by show (1 : Int) ≤ _; decide)⟩ (nil_R _ _) (one_R lE (rGSpan_lawful.mono (rGSpan_lawful.nix HS2.out k03) (fun b hb => .inl hb))) (nil_R _ _)
    clear lE
    have HFF : Hid (∀ w', Keep (fun b => O b ∨ w3.heap.size ≤ b) w3 w' → rGHeld w' (fun b => b < W.heap.size ∨ (w2.heap.size ≤ b ∧ b < w3.heap.size)) [.int .u64 1, .slice none 0 0, .slice (some ⟨w2.heap.size, 0, none⟩) 1 1, .slice none 0 0] (hF false s) ∧ RowIs w' (w2.heap.size + 1) 28 [.int .u64 1, .slice none 0 0, .slice (some ⟨w2.heap.size, 0, none⟩) 1 1, .slice none 0 0] ∧ RowIs w' W.heap.size 46 [.slice aF s.fFrom.length cF, .slice aT s.fTo.length cT] ∧ rGSpan w' (· < W.heap.size) [.slice aF s.fFrom.length cF, .slice aT s.fTo.length cT] s ∧ Lies w' (· < W.heap.size) a (key.map bv)) := fun w' k => by
      have hdj : ∀ b, b ≤ W.heap.size → ¬ (O b ∨ w3.heap.size ≤ b) := fun b hb h => by
        have := hS0.out
        have := hsw.out
        rcases h with h | h
        · have := hOb.out b h; omega
        · omega
      have hdk : ∀ b, w2.heap.size ≤ b → b < w3.heap.size → ¬ (O b ∨ w3.heap.size ≤ b) := fun b h1 h2 h => by
        rcases h with h | h
        · have := hOb.out b h; omega
        · omega
      exact ⟨rGHeld_lawful.keep rh k (fun b hb => hb.elim (fun h => hdj b (Nat.le_of_lt h)) (fun h => hdk b h.1 h.2)), row8.keep k (hdk _ (by omega) (by have := row8.lt; omega)), row3.keep k (hdj _ (Nat.le_refl _)), rGSpan_lawful.keep (rGSpan_lawful.nix HS2.out k03) k (fun b hb => hdj b (Nat.le_of_lt hb)), (HL2.out.keep k03 (fun _ _ h => h)).keep k (fun b hb => hdj b (Nat.le_of_lt hb))⟩
    have kz : Keep (fun b => O b ∨ w3.heap.size ≤ b) w3 w3 := Keep.refl _ _
    have HPUT := put_c O g 0 [] (hF false s) [.int .u64 1, .slice none 0 0, .slice (some ⟨w2.heap.size, 0, none⟩) 1 1, .slice none 0 0] w3 T2 (by decide) rh (h_small _ _) (fun b hb => hb.elim (fun h => by have := k03.size; omega) (·.2))
    unfold PutPost at HPUT
    rw [may1 _ (h_txn _ _), put1 _ (h_txn _ _)] at HPUT
    replace HPUT := Lib.hid HPUT
    clear rh row8 row3 T2
    obtain ⟨rh, row8, row3, rs, lk⟩ := HFF.out _ kz
    have y0 := row8.cell 0
    have s0 := row3.cell 0
    (try simp only [List.getElem?_cons_zero] at y0 s0)
    have y1 := row8.cell 1
    (try simp only [List.getElem?_cons_succ] at y1); (try simp only [List.getElem?_cons_zero] at y1)
    have y2 := row8.cell 2
    (try simp only [List.getElem?_cons_succ] at y2); (try simp only [List.getElem?_cons_zero] at y2)
    have y3 := row8.cell 3
    (try simp only [List.getElem?_cons_succ] at y3); (try simp only [List.getElem?_cons_zero] at y3)
    have s1 := row3.cell 1
    (try simp only [List.getElem?_cons_succ] at s1); (try simp only [List.getElem?_cons_zero] at s1)
    clear row8 row3
    go_wp2_with fail
    go_fit HPUT.out
    rintro e w5 ⟨rfl, O5, T5, hO5, -, k5⟩
    clear y0 y1 y2 y3 s0 s1
    clear HPUT rh rs lk
    replace kz := kz.trans (k5.mono (fun b hb => .inl hb))
    have hO5b : Hid (∀ b, O5 b → (O b ∨ w3.heap.size ≤ b) ∧ b < w5.heap.size) := fun b hb => ⟨hO5 b hb, T5.lt b hb⟩
    have hs5 : w3.heap.size ≤ w5.heap.size := k5.size
    clear k5 hO5
    obtain ⟨rh, row8, row3, rs, lk⟩ := HFF.out _ kz
    have y0 := row8.cell 0
    have s0 := row3.cell 0
    (try simp only [List.getElem?_cons_zero] at y0 s0)
    have y1 := row8.cell 1
    (try simp only [List.getElem?_cons_succ] at y1); (try simp only [List.getElem?_cons_zero] at y1)
    have y2 := row8.cell 2
    (try simp only [List.getElem?_cons_succ] at y2); (try simp only [List.getElem?_cons_zero] at y2)
    have y3 := row8.cell 3
    (try simp only [List.getElem?_cons_succ] at y3); (try simp only [List.getElem?_cons_zero] at y3)
    have s1 := row3.cell 1
    (try simp only [List.getElem?_cons_succ] at s1); (try simp only [List.getElem?_cons_zero] at s1)
    clear row8 row3
    have HWI := Lib.hid (within_c s [.slice aF s.fFrom.length cF, .slice aT s.fTo.length cT] a cp key w5 rs lk)
    obtain ⟨v, HV⟩ : ∃ v, Hid (inF false s key = v) := ⟨_, rfl⟩
    rw [show withinF s key = v from by rw [← HV.out]; rfl] at HWI
    clear rh rs lk
    go_wp2_with fail
    go_fit HWI.out
    rintro e w6 ⟨rfl, k⟩
    clear HWI
    clear y0 y1 y2 y3 s0 s1
    have hsq := k.size
    replace T5 := T5.nix k
    replace kz := kz.trans k.nix
    (try replace kg := kg.trans k.nix)
    clear k
    have hs6 : w5.heap.size ≤ w6.heap.size := by assumption
    cases v with
    | false =>
      have lk := (HFF.out _ kz).2.2.2.2
      have kW : Keep Nix w6 (((w6.alloc (.cells #[.slice a key.length cp, .slice none 0 0, .bool false] 48))).alloc (.cells #[.int .u64 2, .slice none 0 0, .slice none 0 0, .slice (some ⟨w6.heap.size, 0, none⟩) 1 1] 28)) := ((Keep.refl Nix w6).alloc _).alloc _
      have hS7 : Hid (((((w6.alloc (.cells #[.slice a key.length cp, .slice none 0 0, .bool false] 48))).alloc (.cells #[.int .u64 2, .slice none 0 0, .slice none 0 0, .slice (some ⟨w6.heap.size, 0, none⟩) 1 1] 28))).heap.size = w6.heap.size + 2) := by show _ = _; simp
      have lX : Lies (((w6.alloc (.cells #[.slice a key.length cp, .slice none 0 0, .bool false] 48))).alloc (.cells #[.int .u64 2, .slice none 0 0, .slice none 0 0, .slice (some ⟨w6.heap.size, 0, none⟩) 1 1] 28)) (fun b => b < W.heap.size ∨ (w6.heap.size ≤ b ∧ b < ((((w6.alloc (.cells #[.slice a key.length cp, .slice none 0 0, .bool false] 48))).alloc (.cells #[.int .u64 2, .slice none 0 0, .slice none 0 0, .slice (some ⟨w6.heap.size, 0, none⟩) 1 1] 28))).heap.size)) (some ⟨w6.heap.size, 0, none⟩) [.slice a key.length cp, .slice none 0 0, .bool false] := (Lies.block w6 #[.slice a key.length cp, .slice none 0 0, .bool false] 48 (fun b => b < W.heap.size ∨ (w6.heap.size ≤ b ∧ b < ((((w6.alloc (.cells #[.slice a key.length cp, .slice none 0 0, .bool false] 48))).alloc (.cells #[.int .u64 2, .slice none 0 0, .slice none 0 0, .slice (some ⟨w6.heap.size, 0, none⟩) 1 1] 28))).heap.size)) (.inr ⟨Nat.le_refl _, by have := hS7.out; omega⟩)).keep ((Keep.refl Nix _).alloc _) (fun _ _ h => h)
      have hwr : rGWrite (((w6.alloc (.cells #[.slice a key.length cp, .slice none 0 0, .bool false] 48))).alloc (.cells #[.int .u64 2, .slice none 0 0, .slice none 0 0, .slice (some ⟨w6.heap.size, 0, none⟩) 1 1] 28)) (fun b => b < W.heap.size ∨ (w6.heap.size ≤ b ∧ b < ((((w6.alloc (.cells #[.slice a key.length cp, .slice none 0 0, .bool false] 48))).alloc (.cells #[.int .u64 2, .slice none 0 0, .slice none 0 0, .slice (some ⟨w6.heap.size, 0, none⟩) 1 1] 28))).heap.size)) [.slice a key.length cp, .slice none 0 0, .bool false] ⟨key, [], false⟩ := rGWrite_mk _ _ (x := ⟨key, [], false⟩) ⟨(lk.keep kW (fun _ _ h => h)).mono (fun b hb => .inl hb), hlc, hlf⟩ (nil_B _ _)
      have rw7 : rGHeld (((w6.alloc (.cells #[.slice a key.length cp, .slice none 0 0, .bool false] 48))).alloc (.cells #[.int .u64 2, .slice none 0 0, .slice none 0 0, .slice (some ⟨w6.heap.size, 0, none⟩) 1 1] 28)) (fun b => b < W.heap.size ∨ (w6.heap.size ≤ b ∧ b < ((((w6.alloc (.cells #[.slice a key.length cp, .slice none 0 0, .bool false] 48))).alloc (.cells #[.int .u64 2, .slice none 0 0, .slice none 0 0, .slice (some ⟨w6.heap.size, 0, none⟩) 1 1] 28))).heap.size)) [.int .u64 2, .slice none 0 0, .slice none 0 0, .slice (some ⟨w6.heap.size, 0, none⟩) 1 1] (wF key) := rGHeld_mk _ _ (x := wF key) ⟨(by show (0 : Int) ≤ 2; decide), (by show (2 : Int) ≤ _; decide)⟩ (nil_R _ _) (nil_R _ _) (one_R lX hwr)
      have row11 : RowIs (((w6.alloc (.cells #[.slice a key.length cp, .slice none 0 0, .bool false] 48))).alloc (.cells #[.int .u64 2, .slice none 0 0, .slice none 0 0, .slice (some ⟨w6.heap.size, 0, none⟩) 1 1] 28)) (w6.heap.size + 1) 28 [.int .u64 2, .slice none 0 0, .slice none 0 0, .slice (some ⟨w6.heap.size, 0, none⟩) 1 1] := by
        have h := RowIs.alloc (w6.alloc (.cells #[.slice a key.length cp, .slice none 0 0, .bool false] 48)) #[.int .u64 2, .slice none 0 0, .slice none 0 0, .slice (some ⟨w6.heap.size, 0, none⟩) 1 1] 28
        simpa using h
      have RW7 := Lib.hid rw7
      have k := kW
      clear lX hwr kW lk rw7
      go_upto_region 16 with fail
      generalize (((w6.alloc (.cells #[.slice a key.length cp, .slice none 0 0, .bool false] 48))).alloc (.cells #[.int .u64 2, .slice none 0 0, .slice none 0 0, .slice (some ⟨w6.heap.size, 0, none⟩) 1 1] 28)) = w7 at *
      have hsq := k.size
      replace T5 := T5.nix k
      replace kz := kz.trans k.nix
      (try replace kg := kg.trans k.nix)
      clear k
      have hs67 := hS7.out
      have HGG : Hid (∀ w', Keep (fun b => O5 b ∨ w7.heap.size ≤ b) w7 w' → rGHeld w' (fun b => b < W.heap.size ∨ (w6.heap.size ≤ b ∧ b < w7.heap.size)) [.int .u64 2, .slice none 0 0, .slice none 0 0, .slice (some ⟨w6.heap.size, 0, none⟩) 1 1] (wF key) ∧ RowIs w' (w6.heap.size + 1) 28 [.int .u64 2, .slice none 0 0, .slice none 0 0, .slice (some ⟨w6.heap.size, 0, none⟩) 1 1]) := fun w' k => by
        have hdj : ∀ b, b < W.heap.size → ¬ (O5 b ∨ w7.heap.size ≤ b) := fun b hb h => by
          have := hS0.out
          have := hsw.out
          rcases h with h | h
          · rcases (hO5b.out b h).1 with h | h
            · have := hOb.out b h; omega
            · omega
          · omega
        have hdk : ∀ b, w6.heap.size ≤ b → b < w7.heap.size → ¬ (O5 b ∨ w7.heap.size ≤ b) := fun b h1 h2 h => by
          rcases h with h | h
          · have := (hO5b.out b h).2; omega
          · omega
        exact ⟨rGHeld_lawful.keep (RW7.out) k (fun b hb => hb.elim (hdj b) (fun h => hdk b h.1 h.2)), row11.keep k (hdk _ (by omega) (by omega))⟩
      have kg : Keep (fun b => O5 b ∨ w7.heap.size ≤ b) w7 w7 := Keep.refl _ _
      clear row11
      have kz7 := kz
      have hGF : Hid (∀ b, (O5 b ∨ w7.heap.size ≤ b) → (O b ∨ w3.heap.size ≤ b)) := fun b hb => hb.elim (fun h => (hO5b.out b h).1) (fun h => .inr (by omega))
      -- May(w)
      obtain ⟨rw', row11⟩ := HGG.out _ kg
      have z0 := row11.cell 0
      (try simp only [List.getElem?_cons_zero] at z0)
      have z1 := row11.cell 1
      (try simp only [List.getElem?_cons_succ] at z1); (try simp only [List.getElem?_cons_zero] at z1)
      have z2 := row11.cell 2
      (try simp only [List.getElem?_cons_succ] at z2); (try simp only [List.getElem?_cons_zero] at z2)
      have z3 := row11.cell 3
      (try simp only [List.getElem?_cons_succ] at z3); (try simp only [List.getElem?_cons_zero] at z3)
      clear row11
      have HC := may_c O5 g 1 [hF false s] (wF key) [.int .u64 2, .slice none 0 0, .slice none 0 0, .slice (some ⟨w6.heap.size, 0, none⟩) 1 1] w7 T5 rw' (fun b hb => hb.elim (fun h => by have := hsw.out; omega) (·.2))
      rw [may_w, HV.out, if_neg (by decide)] at HC
      replace HC := Lib.hid HC
      go_wp2_with fail
      go_fit HC.out
      rintro e w8 ⟨rfl, k⟩
      clear HC rw'
      clear z0 z1 z2 z3
      have hsq := k.size
      replace T5 := T5.nix k
      replace kz := kz.trans k.nix
      (try replace kg := kg.trans k.nix)
      clear k
      -- May(q)
      have lk := (HFF.out _ kz).2.2.2.2
      have kQ : Keep Nix w8 (w8.alloc (.cells #[.slice a key.length cp] 42)) := (Keep.refl Nix w8).alloc _
      have lQ : Lies (w8.alloc (.cells #[.slice a key.length cp] 42)) (fun b => b < ((w8.alloc (.cells #[.slice a key.length cp] 42))).heap.size) (some ⟨w8.heap.size, 0, none⟩) [.slice a key.length cp] := Lies.block w8 #[.slice a key.length cp] 42 (fun b => b < ((w8.alloc (.cells #[.slice a key.length cp] 42))).heap.size) (by simp)
      have hq7 : W.heap.size ≤ w8.heap.size := by have := kz.size; have := hsw.out; omega
      have rq : rGHeld (w8.alloc (.cells #[.slice a key.length cp] 42)) (fun b => b < ((w8.alloc (.cells #[.slice a key.length cp] 42))).heap.size) [.int .u64 2, .slice (some ⟨w8.heap.size, 0, none⟩) 1 1, .slice none 0 0, .slice none 0 0] (qF key) := rGHeld_mk _ _ (x := qF key) ⟨(by show (0 : Int) ≤ 2; decide), (by show (2 : Int) ≤ _; decide)⟩ (one_R lQ ⟨a, cp, rfl, (lk.keep kQ (fun _ _ h => h)).mono (fun b hb => Nat.lt_of_lt_of_le hb (Nat.le_trans hq7 kQ.size)), hlc, hlf⟩) (nil_R _ _) (nil_R _ _)
      have HC := may_c O5 g 1 [hF false s] (qF key) [.int .u64 2, .slice (some ⟨w8.heap.size, 0, none⟩) 1 1, .slice none 0 0, .slice none 0 0] (w8.alloc (.cells #[.slice a key.length cp] 42)) (T5.nix kQ) rq (fun b hb => hb)
      rw [may_q] at HC
      replace HC := Lib.hid HC
      clear lQ rq lk
      go_wp2_with fail
      go_fit HC.out
      rintro e w9 ⟨rfl, k9⟩
      have k := kQ.trans k9
      clear HC k9 kQ
      have hsq := k.size
      replace T5 := T5.nix k
      replace kz := kz.trans k.nix
      (try replace kg := kg.trans k.nix)
      clear k
      -- Free
      have lk := (HFF.out _ kz).2.2.2.2
      have HC := free_c O5 g 1 [hF false s] a cp key w9 T5 (by decide) (by show 1 ≤ 12; decide) lk
      rw [free_h] at HC
      replace HC := Lib.hid HC
      clear lk
      go_wp2_with fail
      go_fit HC.out
      rintro e w10 ⟨rfl, k⟩
      clear HC
      have hsq := k.size
      replace T5 := T5.nix k
      replace kz := kz.trans k.nix
      (try replace kg := kg.trans k.nix)
      clear k
      -- Clear
      obtain ⟨rh, row8, row3, rs, lk⟩ := HFF.out _ kz
      have y0 := row8.cell 0
      have s0 := row3.cell 0
      (try simp only [List.getElem?_cons_zero] at y0 s0)
      have y1 := row8.cell 1
      (try simp only [List.getElem?_cons_succ] at y1); (try simp only [List.getElem?_cons_zero] at y1)
      have y2 := row8.cell 2
      (try simp only [List.getElem?_cons_succ] at y2); (try simp only [List.getElem?_cons_zero] at y2)
      have y3 := row8.cell 3
      (try simp only [List.getElem?_cons_succ] at y3); (try simp only [List.getElem?_cons_zero] at y3)
      have s1 := row3.cell 1
      (try simp only [List.getElem?_cons_succ] at s1); (try simp only [List.getElem?_cons_zero] at s1)
      clear row8 row3
      have HC := clear_c O5 g 1 [hF false s] s [.slice aF s.fFrom.length cF, .slice aT s.fTo.length cT] w10 T5 (by decide) (by show 1 ≤ 12; decide) rs
      rw [clear_h] at HC
      replace HC := Lib.hid HC
      clear rh lk rs
      go_wp2_with fail
      go_fit HC.out
      rintro e w11 ⟨rfl, k⟩
      clear HC
      clear y0 y1 y2 y3 s0 s1
      have hsq := k.size
      replace T5 := T5.nix k
      replace kz := kz.trans k.nix
      (try replace kg := kg.trans k.nix)
      clear k
      have HC := drop_c O5 g 1 [hF false s] 1 w11 T5 ⟨by decide, by decide⟩
      unfold DropPost at HC
      rw [find1 _ (h_txn _ _), drop1 _ (h_txn _ _)] at HC
      replace HC := Lib.hid HC
      clear T5
      go_wp2_with fail
      go_fit HC.out
      rintro e w13 ⟨cs, R, rfl, rg, hR, T6, k6⟩
      have rg : rGHeld w13 R cs (hF false s) := rg
      clear HC
      replace kz := kz.trans (k6.mono (fun b hb => (hO5b.out b hb).1))
      replace kg := kg.trans (k6.mono (fun b hb => .inl hb))
      have rg2 := rg
      obtain ⟨bK, dK, bS, dS, bW, dW, rfl, -⟩ := rGHeld_open rg
      clear rg k6
      have k : Keep Nix w13 (w13.alloc (.cells #[.int .u64 (hF false s).fTxn, .slice bK (hF false s).fKeys.length dK, .slice bS (hF false s).fSpans.length dS, .slice bW (hF false s).fWrites.length dW] 28)) := (Keep.refl Nix w13).alloc _
      have row12 := RowIs.alloc w13 #[.int .u64 (hF false s).fTxn, .slice bK (hF false s).fKeys.length dK, .slice bS (hF false s).fSpans.length dS, .slice bW (hF false s).fWrites.length dW] 28
      have rg3 := rGHeld_lawful.nix rg2 k
      have T5 := T6
      clear rg2 T6
      go_upto_region 19 with fail
      generalize w13.alloc (.cells #[.int .u64 (hF false s).fTxn, .slice bK (hF false s).fKeys.length dK, .slice bS (hF false s).fSpans.length dS, .slice bW (hF false s).fWrites.length dW] 28) = w14 at *
      have hsq := k.size
      replace T5 := T5.nix k
      replace kz := kz.trans k.nix
      (try replace kg := kg.trans k.nix)
      clear k
      -- Held(g, h)
      obtain ⟨rh, row8, row3, rs, lk⟩ := HFF.out _ kz
      have y0 := row8.cell 0
      have s0 := row3.cell 0
      (try simp only [List.getElem?_cons_zero] at y0 s0)
      have y1 := row8.cell 1
      (try simp only [List.getElem?_cons_succ] at y1); (try simp only [List.getElem?_cons_zero] at y1)
      have y2 := row8.cell 2
      (try simp only [List.getElem?_cons_succ] at y2); (try simp only [List.getElem?_cons_zero] at y2)
      have y3 := row8.cell 3
      (try simp only [List.getElem?_cons_succ] at y3); (try simp only [List.getElem?_cons_zero] at y3)
      have s1 := row3.cell 1
      (try simp only [List.getElem?_cons_succ] at s1); (try simp only [List.getElem?_cons_zero] at s1)
      clear row8 row3
      have x0 := row12.cell 0
      (try simp only [List.getElem?_cons_zero] at x0)
      have x1 := row12.cell 1
      (try simp only [List.getElem?_cons_succ] at x1); (try simp only [List.getElem?_cons_zero] at x1)
      have x2 := row12.cell 2
      (try simp only [List.getElem?_cons_succ] at x2); (try simp only [List.getElem?_cons_zero] at x2)
      have x3 := row12.cell 3
      (try simp only [List.getElem?_cons_succ] at x3); (try simp only [List.getElem?_cons_zero] at x3)
      have HC := Lib.hid (sHeld_c w14 (hF false s) _ _ rg3 rh)
      clear rg3 rh rs lk row12
      go_wp2_with fail
      go_fit HC.out
      rintro e w15 ⟨rfl, k⟩
      clear HC x0 x1 x2 x3
      clear y0 y1 y2 y3 s0 s1
      have hsq := k.size
      replace T5 := T5.nix k
      replace kz := kz.trans k.nix
      (try replace kg := kg.trans k.nix)
      clear k
      -- May(w)
      obtain ⟨rw', row11⟩ := HGG.out _ kg
      have z0 := row11.cell 0
      (try simp only [List.getElem?_cons_zero] at z0)
      have z1 := row11.cell 1
      (try simp only [List.getElem?_cons_succ] at z1); (try simp only [List.getElem?_cons_zero] at z1)
      have z2 := row11.cell 2
      (try simp only [List.getElem?_cons_succ] at z2); (try simp only [List.getElem?_cons_zero] at z2)
      have z3 := row11.cell 3
      (try simp only [List.getElem?_cons_succ] at z3); (try simp only [List.getElem?_cons_zero] at z3)
      clear row11
      have hw7 : ∀ b, (b < W.heap.size ∨ (w6.heap.size ≤ b ∧ b < w7.heap.size)) → b < w15.heap.size := fun b hb => by have := kg.size; have := hsw.out; rcases hb with h | h <;> omega
      have HC := may_c O5 g 1 [] (wF key) [.int .u64 2, .slice none 0 0, .slice none 0 0, .slice (some ⟨w6.heap.size, 0, none⟩) 1 1] w15 T5 rw' hw7
      rw [may_w0] at HC
      replace HC := Lib.hid HC
      go_wp2_with fail
      go_fit HC.out
      rintro e w16 ⟨rfl, k⟩
      clear HC rw'
      clear z0 z1 z2 z3
      have hsq := k.size
      replace T5 := T5.nix k
      replace kz := kz.trans k.nix
      (try replace kg := kg.trans k.nix)
      clear k
      -- Put(w)
      obtain ⟨rw', row11⟩ := HGG.out _ kg
      have z0 := row11.cell 0
      (try simp only [List.getElem?_cons_zero] at z0)
      have z1 := row11.cell 1
      (try simp only [List.getElem?_cons_succ] at z1); (try simp only [List.getElem?_cons_zero] at z1)
      have z2 := row11.cell 2
      (try simp only [List.getElem?_cons_succ] at z2); (try simp only [List.getElem?_cons_zero] at z2)
      have z3 := row11.cell 3
      (try simp only [List.getElem?_cons_succ] at z3); (try simp only [List.getElem?_cons_zero] at z3)
      clear row11
      have hw7b : ∀ b, (b < W.heap.size ∨ (w6.heap.size ≤ b ∧ b < w7.heap.size)) → b < w16.heap.size := fun b hb => by have := kg.size; have := hsw.out; rcases hb with h | h <;> omega
      have HC := put_c O5 g 1 [] (wF key) [.int .u64 2, .slice none 0 0, .slice none 0 0, .slice (some ⟨w6.heap.size, 0, none⟩) 1 1] w16 T5 (by decide) rw' (by unfold smallF wF; simp) hw7b
      unfold PutPost at HC
      rw [may_w0, put_w0] at HC
      replace HC := Lib.hid HC
      clear T5
      go_wp2_with fail
      go_fit HC.out
      rintro e w17 ⟨rfl, O6, T7, hO6, -, k6⟩
      clear HC rw'
      clear z0 z1 z2 z3
      replace kz := kz.trans (k6.mono (fun b hb => (hO5b.out b hb).1))
      replace kg := kg.trans (k6.mono (fun b hb => .inl hb))
      have T5 := T7
      clear k6 hO6 T7
      -- Free
      have lk := (HFF.out _ kz).2.2.2.2
      have HC := free_c O6 g (1 + 1) [wF key] a cp key w17 T5 (by decide) (by show 1 ≤ 12; decide) lk
      rw [free_w] at HC
      replace HC := Lib.hid HC
      clear lk
      go_wp2_with fail
      go_fit HC.out
      rintro e w18 ⟨rfl, k⟩
      clear HC
      have hsq := k.size
      replace T5 := T5.nix k
      replace kz := kz.trans k.nix
      (try replace kg := kg.trans k.nix)
      clear k
      -- May(h)
      obtain ⟨rh, row8, row3, rs, lk⟩ := HFF.out _ kz
      have y0 := row8.cell 0
      have s0 := row3.cell 0
      (try simp only [List.getElem?_cons_zero] at y0 s0)
      have y1 := row8.cell 1
      (try simp only [List.getElem?_cons_succ] at y1); (try simp only [List.getElem?_cons_zero] at y1)
      have y2 := row8.cell 2
      (try simp only [List.getElem?_cons_succ] at y2); (try simp only [List.getElem?_cons_zero] at y2)
      have y3 := row8.cell 3
      (try simp only [List.getElem?_cons_succ] at y3); (try simp only [List.getElem?_cons_zero] at y3)
      have s1 := row3.cell 1
      (try simp only [List.getElem?_cons_succ] at s1); (try simp only [List.getElem?_cons_zero] at s1)
      clear row8 row3
      have HC := may_c O6 g (1 + 1) [wF key] (hF false s) [.int .u64 1, .slice none 0 0, .slice (some ⟨w2.heap.size, 0, none⟩) 1 1, .slice none 0 0] w18 T5 rh (fun b hb => by have := kz.size; have := hsw.out; rcases hb with h | h <;> omega)
      rw [may_h, HV.out, if_neg (by decide)] at HC
      replace HC := Lib.hid HC
      clear rh rs lk
      go_wp2_with fail
      go_fit HC.out
      rintro e w19 ⟨rfl, k⟩
      clear HC
      clear y0 y1 y2 y3 s0 s1
      have hsq := k.size
      replace T5 := T5.nix k
      replace kz := kz.trans k.nix
      (try replace kg := kg.trans k.nix)
      clear k
      go_wp2_with fail
      go_ret
      have hob := hOb.out
      have hsw1 := hsw.out
      have hs00 := hS0.out
      exact ⟨rfl, k03.then kz (fun i hi h => by
        rcases h with h | h
        · have := hob i h; omega
        · omega)⟩
    | true =>
      have lk := (HFF.out _ kz).2.2.2.2
      have kW : Keep Nix w6 (((w6.alloc (.cells #[.slice a key.length cp, .slice none 0 0, .bool false] 48))).alloc (.cells #[.int .u64 2, .slice none 0 0, .slice none 0 0, .slice (some ⟨w6.heap.size, 0, none⟩) 1 1] 28)) := ((Keep.refl Nix w6).alloc _).alloc _
      have hS7 : Hid (((((w6.alloc (.cells #[.slice a key.length cp, .slice none 0 0, .bool false] 48))).alloc (.cells #[.int .u64 2, .slice none 0 0, .slice none 0 0, .slice (some ⟨w6.heap.size, 0, none⟩) 1 1] 28))).heap.size = w6.heap.size + 2) := by show _ = _; simp
      have lX : Lies (((w6.alloc (.cells #[.slice a key.length cp, .slice none 0 0, .bool false] 48))).alloc (.cells #[.int .u64 2, .slice none 0 0, .slice none 0 0, .slice (some ⟨w6.heap.size, 0, none⟩) 1 1] 28)) (fun b => b < W.heap.size ∨ (w6.heap.size ≤ b ∧ b < ((((w6.alloc (.cells #[.slice a key.length cp, .slice none 0 0, .bool false] 48))).alloc (.cells #[.int .u64 2, .slice none 0 0, .slice none 0 0, .slice (some ⟨w6.heap.size, 0, none⟩) 1 1] 28))).heap.size)) (some ⟨w6.heap.size, 0, none⟩) [.slice a key.length cp, .slice none 0 0, .bool false] := (Lies.block w6 #[.slice a key.length cp, .slice none 0 0, .bool false] 48 (fun b => b < W.heap.size ∨ (w6.heap.size ≤ b ∧ b < ((((w6.alloc (.cells #[.slice a key.length cp, .slice none 0 0, .bool false] 48))).alloc (.cells #[.int .u64 2, .slice none 0 0, .slice none 0 0, .slice (some ⟨w6.heap.size, 0, none⟩) 1 1] 28))).heap.size)) (.inr ⟨Nat.le_refl _, by have := hS7.out; omega⟩)).keep ((Keep.refl Nix _).alloc _) (fun _ _ h => h)
      have hwr : rGWrite (((w6.alloc (.cells #[.slice a key.length cp, .slice none 0 0, .bool false] 48))).alloc (.cells #[.int .u64 2, .slice none 0 0, .slice none 0 0, .slice (some ⟨w6.heap.size, 0, none⟩) 1 1] 28)) (fun b => b < W.heap.size ∨ (w6.heap.size ≤ b ∧ b < ((((w6.alloc (.cells #[.slice a key.length cp, .slice none 0 0, .bool false] 48))).alloc (.cells #[.int .u64 2, .slice none 0 0, .slice none 0 0, .slice (some ⟨w6.heap.size, 0, none⟩) 1 1] 28))).heap.size)) [.slice a key.length cp, .slice none 0 0, .bool false] ⟨key, [], false⟩ := rGWrite_mk _ _ (x := ⟨key, [], false⟩) ⟨(lk.keep kW (fun _ _ h => h)).mono (fun b hb => .inl hb), hlc, hlf⟩ (nil_B _ _)
      have rw7 : rGHeld (((w6.alloc (.cells #[.slice a key.length cp, .slice none 0 0, .bool false] 48))).alloc (.cells #[.int .u64 2, .slice none 0 0, .slice none 0 0, .slice (some ⟨w6.heap.size, 0, none⟩) 1 1] 28)) (fun b => b < W.heap.size ∨ (w6.heap.size ≤ b ∧ b < ((((w6.alloc (.cells #[.slice a key.length cp, .slice none 0 0, .bool false] 48))).alloc (.cells #[.int .u64 2, .slice none 0 0, .slice none 0 0, .slice (some ⟨w6.heap.size, 0, none⟩) 1 1] 28))).heap.size)) [.int .u64 2, .slice none 0 0, .slice none 0 0, .slice (some ⟨w6.heap.size, 0, none⟩) 1 1] (wF key) := rGHeld_mk _ _ (x := wF key) ⟨(by show (0 : Int) ≤ 2; decide), (by show (2 : Int) ≤ _; decide)⟩ (nil_R _ _) (nil_R _ _) (one_R lX hwr)
      have row11 : RowIs (((w6.alloc (.cells #[.slice a key.length cp, .slice none 0 0, .bool false] 48))).alloc (.cells #[.int .u64 2, .slice none 0 0, .slice none 0 0, .slice (some ⟨w6.heap.size, 0, none⟩) 1 1] 28)) (w6.heap.size + 1) 28 [.int .u64 2, .slice none 0 0, .slice none 0 0, .slice (some ⟨w6.heap.size, 0, none⟩) 1 1] := by
        have h := RowIs.alloc (w6.alloc (.cells #[.slice a key.length cp, .slice none 0 0, .bool false] 48)) #[.int .u64 2, .slice none 0 0, .slice none 0 0, .slice (some ⟨w6.heap.size, 0, none⟩) 1 1] 28
        simpa using h
      have RW7 := Lib.hid rw7
      have k := kW
      clear lX hwr kW lk rw7
      go_upto_region 16 with fail
      generalize (((w6.alloc (.cells #[.slice a key.length cp, .slice none 0 0, .bool false] 48))).alloc (.cells #[.int .u64 2, .slice none 0 0, .slice none 0 0, .slice (some ⟨w6.heap.size, 0, none⟩) 1 1] 28)) = w7 at *
      have hsq := k.size
      replace T5 := T5.nix k
      replace kz := kz.trans k.nix
      (try replace kg := kg.trans k.nix)
      clear k
      have hs67 := hS7.out
      have HGG : Hid (∀ w', Keep (fun b => O5 b ∨ w7.heap.size ≤ b) w7 w' → rGHeld w' (fun b => b < W.heap.size ∨ (w6.heap.size ≤ b ∧ b < w7.heap.size)) [.int .u64 2, .slice none 0 0, .slice none 0 0, .slice (some ⟨w6.heap.size, 0, none⟩) 1 1] (wF key) ∧ RowIs w' (w6.heap.size + 1) 28 [.int .u64 2, .slice none 0 0, .slice none 0 0, .slice (some ⟨w6.heap.size, 0, none⟩) 1 1]) := fun w' k => by
        have hdj : ∀ b, b < W.heap.size → ¬ (O5 b ∨ w7.heap.size ≤ b) := fun b hb h => by
          have := hS0.out
          have := hsw.out
          rcases h with h | h
          · rcases (hO5b.out b h).1 with h | h
            · have := hOb.out b h; omega
            · omega
          · omega
        have hdk : ∀ b, w6.heap.size ≤ b → b < w7.heap.size → ¬ (O5 b ∨ w7.heap.size ≤ b) := fun b h1 h2 h => by
          rcases h with h | h
          · have := (hO5b.out b h).2; omega
          · omega
        exact ⟨rGHeld_lawful.keep (RW7.out) k (fun b hb => hb.elim (hdj b) (fun h => hdk b h.1 h.2)), row11.keep k (hdk _ (by omega) (by omega))⟩
      have kg : Keep (fun b => O5 b ∨ w7.heap.size ≤ b) w7 w7 := Keep.refl _ _
      clear row11
      have kz7 := kz
      have hGF : Hid (∀ b, (O5 b ∨ w7.heap.size ≤ b) → (O b ∨ w3.heap.size ≤ b)) := fun b hb => hb.elim (fun h => (hO5b.out b h).1) (fun h => .inr (by omega))
      -- May(w)
      obtain ⟨rw', row11⟩ := HGG.out _ kg
      have z0 := row11.cell 0
      (try simp only [List.getElem?_cons_zero] at z0)
      have z1 := row11.cell 1
      (try simp only [List.getElem?_cons_succ] at z1); (try simp only [List.getElem?_cons_zero] at z1)
      have z2 := row11.cell 2
      (try simp only [List.getElem?_cons_succ] at z2); (try simp only [List.getElem?_cons_zero] at z2)
      have z3 := row11.cell 3
      (try simp only [List.getElem?_cons_succ] at z3); (try simp only [List.getElem?_cons_zero] at z3)
      clear row11
      have HC := may_c O5 g 1 [hF false s] (wF key) [.int .u64 2, .slice none 0 0, .slice none 0 0, .slice (some ⟨w6.heap.size, 0, none⟩) 1 1] w7 T5 rw' (fun b hb => hb.elim (fun h => by have := hsw.out; omega) (·.2))
      rw [may_w, HV.out, if_pos rfl] at HC
      replace HC := Lib.hid HC
      go_wp2_with fail
      go_fit HC.out
      rintro e w8 ⟨rfl, k⟩
      clear HC rw'
      clear z0 z1 z2 z3
      have hsq := k.size
      replace T5 := T5.nix k
      replace kz := kz.trans k.nix
      (try replace kg := kg.trans k.nix)
      clear k
      -- May(q)
      have lk := (HFF.out _ kz).2.2.2.2
      have kQ : Keep Nix w8 (w8.alloc (.cells #[.slice a key.length cp] 42)) := (Keep.refl Nix w8).alloc _
      have lQ : Lies (w8.alloc (.cells #[.slice a key.length cp] 42)) (fun b => b < ((w8.alloc (.cells #[.slice a key.length cp] 42))).heap.size) (some ⟨w8.heap.size, 0, none⟩) [.slice a key.length cp] := Lies.block w8 #[.slice a key.length cp] 42 (fun b => b < ((w8.alloc (.cells #[.slice a key.length cp] 42))).heap.size) (by simp)
      have hq7 : W.heap.size ≤ w8.heap.size := by have := kz.size; have := hsw.out; omega
      have rq : rGHeld (w8.alloc (.cells #[.slice a key.length cp] 42)) (fun b => b < ((w8.alloc (.cells #[.slice a key.length cp] 42))).heap.size) [.int .u64 2, .slice (some ⟨w8.heap.size, 0, none⟩) 1 1, .slice none 0 0, .slice none 0 0] (qF key) := rGHeld_mk _ _ (x := qF key) ⟨(by show (0 : Int) ≤ 2; decide), (by show (2 : Int) ≤ _; decide)⟩ (one_R lQ ⟨a, cp, rfl, (lk.keep kQ (fun _ _ h => h)).mono (fun b hb => Nat.lt_of_lt_of_le hb (Nat.le_trans hq7 kQ.size)), hlc, hlf⟩) (nil_R _ _) (nil_R _ _)
      have HC := may_c O5 g 1 [hF false s] (qF key) [.int .u64 2, .slice (some ⟨w8.heap.size, 0, none⟩) 1 1, .slice none 0 0, .slice none 0 0] (w8.alloc (.cells #[.slice a key.length cp] 42)) (T5.nix kQ) rq (fun b hb => hb)
      rw [may_q] at HC
      replace HC := Lib.hid HC
      clear lQ rq lk
      go_wp2_with fail
      go_fit HC.out
      rintro e w9 ⟨rfl, k9⟩
      have k := kQ.trans k9
      clear HC k9 kQ
      have hsq := k.size
      replace T5 := T5.nix k
      replace kz := kz.trans k.nix
      (try replace kg := kg.trans k.nix)
      clear k
      -- Free
      have lk := (HFF.out _ kz).2.2.2.2
      have HC := free_c O5 g 1 [hF false s] a cp key w9 T5 (by decide) (by show 1 ≤ 12; decide) lk
      rw [free_h] at HC
      replace HC := Lib.hid HC
      clear lk
      go_wp2_with fail
      go_fit HC.out
      rintro e w10 ⟨rfl, k⟩
      clear HC
      have hsq := k.size
      replace T5 := T5.nix k
      replace kz := kz.trans k.nix
      (try replace kg := kg.trans k.nix)
      clear k
      -- Clear
      obtain ⟨rh, row8, row3, rs, lk⟩ := HFF.out _ kz
      have y0 := row8.cell 0
      have s0 := row3.cell 0
      (try simp only [List.getElem?_cons_zero] at y0 s0)
      have y1 := row8.cell 1
      (try simp only [List.getElem?_cons_succ] at y1); (try simp only [List.getElem?_cons_zero] at y1)
      have y2 := row8.cell 2
      (try simp only [List.getElem?_cons_succ] at y2); (try simp only [List.getElem?_cons_zero] at y2)
      have y3 := row8.cell 3
      (try simp only [List.getElem?_cons_succ] at y3); (try simp only [List.getElem?_cons_zero] at y3)
      have s1 := row3.cell 1
      (try simp only [List.getElem?_cons_succ] at s1); (try simp only [List.getElem?_cons_zero] at s1)
      clear row8 row3
      have HC := clear_c O5 g 1 [hF false s] s [.slice aF s.fFrom.length cF, .slice aT s.fTo.length cT] w10 T5 (by decide) (by show 1 ≤ 12; decide) rs
      rw [clear_h] at HC
      replace HC := Lib.hid HC
      clear rh lk rs
      go_wp2_with fail
      go_fit HC.out
      rintro e w11 ⟨rfl, k⟩
      clear HC
      clear y0 y1 y2 y3 s0 s1
      have hsq := k.size
      replace T5 := T5.nix k
      replace kz := kz.trans k.nix
      (try replace kg := kg.trans k.nix)
      clear k
      have lk := (HFF.out _ kz).2.2.2.2
      have rsp : rGSpan w11 (· < W.heap.size) [.slice a key.length cp, .slice none 0 0] ⟨key, []⟩ := rGSpan_mk _ _ (x := ⟨key, []⟩) ⟨lk, hlc, hlf⟩ (nil_B _ _)
      have HC := touches_c O5 g 1 [hF false s] ⟨key, []⟩ [.slice a key.length cp, .slice none 0 0] w11 T5 (by decide) (by show 1 ≤ 12; decide) rsp
      rw [touch_h _ _ _ HV.out] at HC
      replace HC := Lib.hid HC
      clear lk rsp
      go_wp2_with fail
      go_fit HC.out
      rintro e w12 ⟨rfl, k⟩
      clear HC
      have hsq := k.size
      replace T5 := T5.nix k
      replace kz := kz.trans k.nix
      (try replace kg := kg.trans k.nix)
      clear k
      have HC := drop_c O5 g 1 [hF false s] 1 w12 T5 ⟨by decide, by decide⟩
      unfold DropPost at HC
      rw [find1 _ (h_txn _ _), drop1 _ (h_txn _ _)] at HC
      replace HC := Lib.hid HC
      clear T5
      go_wp2_with fail
      go_fit HC.out
      rintro e w13 ⟨cs, R, rfl, rg, hR, T6, k6⟩
      have rg : rGHeld w13 R cs (hF false s) := rg
      clear HC
      replace kz := kz.trans (k6.mono (fun b hb => (hO5b.out b hb).1))
      replace kg := kg.trans (k6.mono (fun b hb => .inl hb))
      have rg2 := rg
      obtain ⟨bK, dK, bS, dS, bW, dW, rfl, -⟩ := rGHeld_open rg
      clear rg k6
      have k : Keep Nix w13 (w13.alloc (.cells #[.int .u64 (hF false s).fTxn, .slice bK (hF false s).fKeys.length dK, .slice bS (hF false s).fSpans.length dS, .slice bW (hF false s).fWrites.length dW] 28)) := (Keep.refl Nix w13).alloc _
      have row12 := RowIs.alloc w13 #[.int .u64 (hF false s).fTxn, .slice bK (hF false s).fKeys.length dK, .slice bS (hF false s).fSpans.length dS, .slice bW (hF false s).fWrites.length dW] 28
      have rg3 := rGHeld_lawful.nix rg2 k
      have T5 := T6
      clear rg2 T6
      go_upto_region 19 with fail
      generalize w13.alloc (.cells #[.int .u64 (hF false s).fTxn, .slice bK (hF false s).fKeys.length dK, .slice bS (hF false s).fSpans.length dS, .slice bW (hF false s).fWrites.length dW] 28) = w14 at *
      have hsq := k.size
      replace T5 := T5.nix k
      replace kz := kz.trans k.nix
      (try replace kg := kg.trans k.nix)
      clear k
      -- Held(g, h)
      obtain ⟨rh, row8, row3, rs, lk⟩ := HFF.out _ kz
      have y0 := row8.cell 0
      have s0 := row3.cell 0
      (try simp only [List.getElem?_cons_zero] at y0 s0)
      have y1 := row8.cell 1
      (try simp only [List.getElem?_cons_succ] at y1); (try simp only [List.getElem?_cons_zero] at y1)
      have y2 := row8.cell 2
      (try simp only [List.getElem?_cons_succ] at y2); (try simp only [List.getElem?_cons_zero] at y2)
      have y3 := row8.cell 3
      (try simp only [List.getElem?_cons_succ] at y3); (try simp only [List.getElem?_cons_zero] at y3)
      have s1 := row3.cell 1
      (try simp only [List.getElem?_cons_succ] at s1); (try simp only [List.getElem?_cons_zero] at s1)
      clear row8 row3
      have x0 := row12.cell 0
      (try simp only [List.getElem?_cons_zero] at x0)
      have x1 := row12.cell 1
      (try simp only [List.getElem?_cons_succ] at x1); (try simp only [List.getElem?_cons_zero] at x1)
      have x2 := row12.cell 2
      (try simp only [List.getElem?_cons_succ] at x2); (try simp only [List.getElem?_cons_zero] at x2)
      have x3 := row12.cell 3
      (try simp only [List.getElem?_cons_succ] at x3); (try simp only [List.getElem?_cons_zero] at x3)
      have HC := Lib.hid (sHeld_c w14 (hF false s) _ _ rg3 rh)
      clear rg3 rh rs lk row12
      go_wp2_with fail
      go_fit HC.out
      rintro e w15 ⟨rfl, k⟩
      clear HC x0 x1 x2 x3
      clear y0 y1 y2 y3 s0 s1
      have hsq := k.size
      replace T5 := T5.nix k
      replace kz := kz.trans k.nix
      (try replace kg := kg.trans k.nix)
      clear k
      -- May(w)
      obtain ⟨rw', row11⟩ := HGG.out _ kg
      have z0 := row11.cell 0
      (try simp only [List.getElem?_cons_zero] at z0)
      have z1 := row11.cell 1
      (try simp only [List.getElem?_cons_succ] at z1); (try simp only [List.getElem?_cons_zero] at z1)
      have z2 := row11.cell 2
      (try simp only [List.getElem?_cons_succ] at z2); (try simp only [List.getElem?_cons_zero] at z2)
      have z3 := row11.cell 3
      (try simp only [List.getElem?_cons_succ] at z3); (try simp only [List.getElem?_cons_zero] at z3)
      clear row11
      have hw7 : ∀ b, (b < W.heap.size ∨ (w6.heap.size ≤ b ∧ b < w7.heap.size)) → b < w15.heap.size := fun b hb => by have := kg.size; have := hsw.out; rcases hb with h | h <;> omega
      have HC := may_c O5 g 1 [] (wF key) [.int .u64 2, .slice none 0 0, .slice none 0 0, .slice (some ⟨w6.heap.size, 0, none⟩) 1 1] w15 T5 rw' hw7
      rw [may_w0] at HC
      replace HC := Lib.hid HC
      go_wp2_with fail
      go_fit HC.out
      rintro e w16 ⟨rfl, k⟩
      clear HC rw'
      clear z0 z1 z2 z3
      have hsq := k.size
      replace T5 := T5.nix k
      replace kz := kz.trans k.nix
      (try replace kg := kg.trans k.nix)
      clear k
      -- Put(w)
      obtain ⟨rw', row11⟩ := HGG.out _ kg
      have z0 := row11.cell 0
      (try simp only [List.getElem?_cons_zero] at z0)
      have z1 := row11.cell 1
      (try simp only [List.getElem?_cons_succ] at z1); (try simp only [List.getElem?_cons_zero] at z1)
      have z2 := row11.cell 2
      (try simp only [List.getElem?_cons_succ] at z2); (try simp only [List.getElem?_cons_zero] at z2)
      have z3 := row11.cell 3
      (try simp only [List.getElem?_cons_succ] at z3); (try simp only [List.getElem?_cons_zero] at z3)
      clear row11
      have hw7b : ∀ b, (b < W.heap.size ∨ (w6.heap.size ≤ b ∧ b < w7.heap.size)) → b < w16.heap.size := fun b hb => by have := kg.size; have := hsw.out; rcases hb with h | h <;> omega
      have HC := put_c O5 g 1 [] (wF key) [.int .u64 2, .slice none 0 0, .slice none 0 0, .slice (some ⟨w6.heap.size, 0, none⟩) 1 1] w16 T5 (by decide) rw' (by unfold smallF wF; simp) hw7b
      unfold PutPost at HC
      rw [may_w0, put_w0] at HC
      replace HC := Lib.hid HC
      clear T5
      go_wp2_with fail
      go_fit HC.out
      rintro e w17 ⟨rfl, O6, T7, hO6, -, k6⟩
      clear HC rw'
      clear z0 z1 z2 z3
      replace kz := kz.trans (k6.mono (fun b hb => (hO5b.out b hb).1))
      replace kg := kg.trans (k6.mono (fun b hb => .inl hb))
      have T5 := T7
      clear k6 hO6 T7
      -- Free
      have lk := (HFF.out _ kz).2.2.2.2
      have HC := free_c O6 g (1 + 1) [wF key] a cp key w17 T5 (by decide) (by show 1 ≤ 12; decide) lk
      rw [free_w] at HC
      replace HC := Lib.hid HC
      clear lk
      go_wp2_with fail
      go_fit HC.out
      rintro e w18 ⟨rfl, k⟩
      clear HC
      have hsq := k.size
      replace T5 := T5.nix k
      replace kz := kz.trans k.nix
      (try replace kg := kg.trans k.nix)
      clear k
      -- May(h)
      obtain ⟨rh, row8, row3, rs, lk⟩ := HFF.out _ kz
      have y0 := row8.cell 0
      have s0 := row3.cell 0
      (try simp only [List.getElem?_cons_zero] at y0 s0)
      have y1 := row8.cell 1
      (try simp only [List.getElem?_cons_succ] at y1); (try simp only [List.getElem?_cons_zero] at y1)
      have y2 := row8.cell 2
      (try simp only [List.getElem?_cons_succ] at y2); (try simp only [List.getElem?_cons_zero] at y2)
      have y3 := row8.cell 3
      (try simp only [List.getElem?_cons_succ] at y3); (try simp only [List.getElem?_cons_zero] at y3)
      have s1 := row3.cell 1
      (try simp only [List.getElem?_cons_succ] at s1); (try simp only [List.getElem?_cons_zero] at s1)
      clear row8 row3
      have HC := may_c O6 g (1 + 1) [wF key] (hF false s) [.int .u64 1, .slice none 0 0, .slice (some ⟨w2.heap.size, 0, none⟩) 1 1, .slice none 0 0] w18 T5 rh (fun b hb => by have := kz.size; have := hsw.out; rcases hb with h | h <;> omega)
      rw [may_h, HV.out, if_pos rfl] at HC
      replace HC := Lib.hid HC
      clear rh rs lk
      go_wp2_with fail
      go_fit HC.out
      rintro e w19 ⟨rfl, k⟩
      clear HC
      clear y0 y1 y2 y3 s0 s1
      have hsq := k.size
      replace T5 := T5.nix k
      replace kz := kz.trans k.nix
      (try replace kg := kg.trans k.nix)
      clear k
      go_wp2_with fail
      go_ret
      have hob := hOb.out
      have hsw1 := hsw.out
      have hs00 := hS0.out
      exact ⟨rfl, k03.then kz (fun i hi h => by
        rcases h with h | h
        · have := hob i h; omega
        · omega)⟩
  | true =>
    have s0 := row3.cell 0
    have y0 := row8.cell 0
    (try simp only [List.getElem?_cons_zero] at s0 y0)
    have y1 := row8.cell 1
    (try simp only [List.getElem?_cons_succ] at y1); (try simp only [List.getElem?_cons_zero] at y1)
    have y2 := row8.cell 2
    (try simp only [List.getElem?_cons_succ] at y2); (try simp only [List.getElem?_cons_zero] at y2)
    have y3 := row8.cell 3
    (try simp only [List.getElem?_cons_succ] at y3); (try simp only [List.getElem?_cons_zero] at y3)
    have yf0 := row8.frozen 0
    have yf1 := row8.frozen 1
    have yf2 := row8.frozen 2
    have yf3 := row8.frozen 3
    have kS : Keep (· = w2.heap.size + 1) w3 ((((w3.setCell ⟨w2.heap.size + 1, 0, none⟩ (.int .u64 1)).setCell ⟨w2.heap.size + 1, 1, none⟩ (.slice (some ⟨w3.heap.size, 0, none⟩) 1 1)).setCell ⟨w2.heap.size + 1, 2, none⟩ (.slice none 0 0)).setCell ⟨w2.heap.size + 1, 3, none⟩ (.slice none 0 0)) := ((((Keep.refl (· = w2.heap.size + 1) w3).setCell (p := ⟨w2.heap.size + 1, 0, none⟩) (fun _ => rfl) _).setCell (p := ⟨w2.heap.size + 1, 1, none⟩) (fun _ => rfl) _).setCell (p := ⟨w2.heap.size + 1, 2, none⟩) (fun _ => rfl) _).setCell (p := ⟨w2.heap.size + 1, 3, none⟩) (fun _ => rfl) _
    have row8b : RowIs ((((w3.setCell ⟨w2.heap.size + 1, 0, none⟩ (.int .u64 1)).setCell ⟨w2.heap.size + 1, 1, none⟩ (.slice (some ⟨w3.heap.size, 0, none⟩) 1 1)).setCell ⟨w2.heap.size + 1, 2, none⟩ (.slice none 0 0)).setCell ⟨w2.heap.size + 1, 3, none⟩ (.slice none 0 0)) (w2.heap.size + 1) 28 [.int .u64 1, .slice (some ⟨w3.heap.size, 0, none⟩) 1 1, .slice none 0 0, .slice none 0 0] := (((row8.set 0 (.int .u64 1)).set 1 (.slice (some ⟨w3.heap.size, 0, none⟩) 1 1)).set 2 (.slice none 0 0)).set 3 (.slice none 0 0)
    have hz : (((((w3.setCell ⟨w2.heap.size + 1, 0, none⟩ (.int .u64 1)).setCell ⟨w2.heap.size + 1, 1, none⟩ (.slice (some ⟨w3.heap.size, 0, none⟩) 1 1)).setCell ⟨w2.heap.size + 1, 2, none⟩ (.slice none 0 0)).setCell ⟨w2.heap.size + 1, 3, none⟩ (.slice none 0 0))).heap.size = w3.heap.size := by simp [World.setCell]
    have kb : Keep Nix ((((w3.setCell ⟨w2.heap.size + 1, 0, none⟩ (.int .u64 1)).setCell ⟨w2.heap.size + 1, 1, none⟩ (.slice (some ⟨w3.heap.size, 0, none⟩) 1 1)).setCell ⟨w2.heap.size + 1, 2, none⟩ (.slice none 0 0)).setCell ⟨w2.heap.size + 1, 3, none⟩ (.slice none 0 0)) (((((w3.setCell ⟨w2.heap.size + 1, 0, none⟩ (.int .u64 1)).setCell ⟨w2.heap.size + 1, 1, none⟩ (.slice (some ⟨w3.heap.size, 0, none⟩) 1 1)).setCell ⟨w2.heap.size + 1, 2, none⟩ (.slice none 0 0)).setCell ⟨w2.heap.size + 1, 3, none⟩ (.slice none 0 0)).alloc (.cells #[.slice aF s.fFrom.length cF] 42)) := (Keep.refl Nix _).alloc _
    have hsz4 : Hid (((((((w3.setCell ⟨w2.heap.size + 1, 0, none⟩ (.int .u64 1)).setCell ⟨w2.heap.size + 1, 1, none⟩ (.slice (some ⟨w3.heap.size, 0, none⟩) 1 1)).setCell ⟨w2.heap.size + 1, 2, none⟩ (.slice none 0 0)).setCell ⟨w2.heap.size + 1, 3, none⟩ (.slice none 0 0)).alloc (.cells #[.slice aF s.fFrom.length cF] 42))).heap.size = w3.heap.size + 1) := by show _ = _; rw [World.size_alloc, hz]
    have lB : Lies (((((w3.setCell ⟨w2.heap.size + 1, 0, none⟩ (.int .u64 1)).setCell ⟨w2.heap.size + 1, 1, none⟩ (.slice (some ⟨w3.heap.size, 0, none⟩) 1 1)).setCell ⟨w2.heap.size + 1, 2, none⟩ (.slice none 0 0)).setCell ⟨w2.heap.size + 1, 3, none⟩ (.slice none 0 0)).alloc (.cells #[.slice aF s.fFrom.length cF] 42)) (fun b => b < W.heap.size ∨ (w2.heap.size ≤ b ∧ b < ((((((w3.setCell ⟨w2.heap.size + 1, 0, none⟩ (.int .u64 1)).setCell ⟨w2.heap.size + 1, 1, none⟩ (.slice (some ⟨w3.heap.size, 0, none⟩) 1 1)).setCell ⟨w2.heap.size + 1, 2, none⟩ (.slice none 0 0)).setCell ⟨w2.heap.size + 1, 3, none⟩ (.slice none 0 0)).alloc (.cells #[.slice aF s.fFrom.length cF] 42))).heap.size)) (some ⟨w3.heap.size, 0, none⟩) [.slice aF s.fFrom.length cF] := by
      have h := Lies.block ((((w3.setCell ⟨w2.heap.size + 1, 0, none⟩ (.int .u64 1)).setCell ⟨w2.heap.size + 1, 1, none⟩ (.slice (some ⟨w3.heap.size, 0, none⟩) 1 1)).setCell ⟨w2.heap.size + 1, 2, none⟩ (.slice none 0 0)).setCell ⟨w2.heap.size + 1, 3, none⟩ (.slice none 0 0)) #[.slice aF s.fFrom.length cF] 42 (fun b => b < W.heap.size ∨ (w2.heap.size ≤ b ∧ b < ((((((w3.setCell ⟨w2.heap.size + 1, 0, none⟩ (.int .u64 1)).setCell ⟨w2.heap.size + 1, 1, none⟩ (.slice (some ⟨w3.heap.size, 0, none⟩) 1 1)).setCell ⟨w2.heap.size + 1, 2, none⟩ (.slice none 0 0)).setCell ⟨w2.heap.size + 1, 3, none⟩ (.slice none 0 0)).alloc (.cells #[.slice aF s.fFrom.length cF] 42))).heap.size)) (.inr ⟨by rw [hz]; have := hS3.out; omega, by rw [hz]; have := hsz4.out; omega⟩)
      rw [hz] at h
      exact h
    have row8c := row8b.keep kb id
    have row3c := (row3.keep kS (by have := hS0.out; omega)).keep kb id
    have T4 := (T2.keep kS (fun b hb e => by have := hOb.out b hb; omega)).nix kb
    have k04 : Keep Nix W (((((w3.setCell ⟨w2.heap.size + 1, 0, none⟩ (.int .u64 1)).setCell ⟨w2.heap.size + 1, 1, none⟩ (.slice (some ⟨w3.heap.size, 0, none⟩) 1 1)).setCell ⟨w2.heap.size + 1, 2, none⟩ (.slice none 0 0)).setCell ⟨w2.heap.size + 1, 3, none⟩ (.slice none 0 0)).alloc (.cells #[.slice aF s.fFrom.length cF] 42)) := (k03.then kS (fun i hi e => by omega)).trans kb
    have h34 : w3.heap.size ≤ ((((((w3.setCell ⟨w2.heap.size + 1, 0, none⟩ (.int .u64 1)).setCell ⟨w2.heap.size + 1, 1, none⟩ (.slice (some ⟨w3.heap.size, 0, none⟩) 1 1)).setCell ⟨w2.heap.size + 1, 2, none⟩ (.slice none 0 0)).setCell ⟨w2.heap.size + 1, 3, none⟩ (.slice none 0 0)).alloc (.cells #[.slice aF s.fFrom.length cF] 42))).heap.size := by have := hsz4.out; omega
    have ROW8 := Lib.hid row8c
    have ROW3 := Lib.hid row3c
    have HT4 := Lib.hid T4
    have HK4 := Lib.hid k04
    have H34 := Lib.hid h34
    have HLB := Lib.hid lB
    clear row8b kS kb row8 row3 T2 k03 hz row8c row3c T4 k04 h34 lB
    have hlt8 : w2.heap.size + 1 < w3.heap.size := by have := hS3.out; omega
    go_upto_region 7 with fail
    clear s0 y0 y1 y2 y3 yf0 yf1 yf2 yf3
    generalize (((((w3.setCell ⟨w2.heap.size + 1, 0, none⟩ (.int .u64 1)).setCell ⟨w2.heap.size + 1, 1, none⟩ (.slice (some ⟨w3.heap.size, 0, none⟩) 1 1)).setCell ⟨w2.heap.size + 1, 2, none⟩ (.slice none 0 0)).setCell ⟨w2.heap.size + 1, 3, none⟩ (.slice none 0 0)).alloc (.cells #[.slice aF s.fFrom.length cF] 42)) = w4 at *
    have row8 := ROW8.out
    have row3 := ROW3.out
    have T2 := HT4.out
    have k03 := HK4.out
    have h34 := H34.out
    have lB := HLB.out
    clear ROW8 ROW3 HT4 HK4 H34 HLB
    have hsw : Hid (W.heap.size + 1 ≤ w2.heap.size ∧ w1.heap.size ≤ w2.heap.size ∧ w2.heap.size + 2 ≤ w4.heap.size ∧ w2.heap.size ≤ w4.heap.size) := by
      have := hS0.out; have := hS3.out
      show _ ∧ _ ∧ _ ∧ _
      omega
    have lF4 := Lib.hid (HF2.out.1.keep k03 (fun _ _ h => h))
    have rh : rGHeld w4 (fun b => b < W.heap.size ∨ (w2.heap.size ≤ b ∧ b < w4.heap.size)) [.int .u64 1, .slice (some ⟨w3.heap.size, 0, none⟩) 1 1, .slice none 0 0, .slice none 0 0] (hF true s) := by
      exact rGHeld_mk w4 (fun b => b < W.heap.size ∨ (w2.heap.size ≤ b ∧ b < w4.heap.size)) (x := hF true s) (aKeys := some ⟨w3.heap.size, 0, none⟩) (cKeys := 1) (aSpans := none) (cSpans := 0) (aWrites := none) (cWrites := 0) ⟨(by show (0 : Int) ≤ 1; decide), (by show (1 : Int) ≤ _; decide)⟩ (one_R lB ⟨aF, cF, rfl, lF4.out.mono (fun b hb => .inl hb), HF2.out.2⟩) (nil_R _ _) (nil_R _ _)
    clear lB
    have HFF : Hid (∀ w', Keep (fun b => O b ∨ w4.heap.size ≤ b) w4 w' → rGHeld w' (fun b => b < W.heap.size ∨ (w2.heap.size ≤ b ∧ b < w4.heap.size)) [.int .u64 1, .slice (some ⟨w3.heap.size, 0, none⟩) 1 1, .slice none 0 0, .slice none 0 0] (hF true s) ∧ RowIs w' (w2.heap.size + 1) 28 [.int .u64 1, .slice (some ⟨w3.heap.size, 0, none⟩) 1 1, .slice none 0 0, .slice none 0 0] ∧ RowIs w' W.heap.size 46 [.slice aF s.fFrom.length cF, .slice aT s.fTo.length cT] ∧ rGSpan w' (· < W.heap.size) [.slice aF s.fFrom.length cF, .slice aT s.fTo.length cT] s ∧ Lies w' (· < W.heap.size) a (key.map bv)) := fun w' k => by
      have hdj : ∀ b, b ≤ W.heap.size → ¬ (O b ∨ w4.heap.size ≤ b) := fun b hb h => by
        have := hS0.out
        have := hsw.out
        rcases h with h | h
        · have := hOb.out b h; omega
        · omega
      have hdk : ∀ b, w2.heap.size ≤ b → b < w4.heap.size → ¬ (O b ∨ w4.heap.size ≤ b) := fun b h1 h2 h => by
        rcases h with h | h
        · have := hOb.out b h; omega
        · omega
      exact ⟨rGHeld_lawful.keep rh k (fun b hb => hb.elim (fun h => hdj b (Nat.le_of_lt h)) (fun h => hdk b h.1 h.2)), row8.keep k (hdk _ (by omega) (by have := row8.lt; omega)), row3.keep k (hdj _ (Nat.le_refl _)), rGSpan_lawful.keep (rGSpan_lawful.nix HS2.out k03) k (fun b hb => hdj b (Nat.le_of_lt hb)), (HL2.out.keep k03 (fun _ _ h => h)).keep k (fun b hb => hdj b (Nat.le_of_lt hb))⟩
    have kz : Keep (fun b => O b ∨ w4.heap.size ≤ b) w4 w4 := Keep.refl _ _
    have HPUT := put_c O g 0 [] (hF true s) [.int .u64 1, .slice (some ⟨w3.heap.size, 0, none⟩) 1 1, .slice none 0 0, .slice none 0 0] w4 T2 (by decide) rh (h_small _ _) (fun b hb => hb.elim (fun h => by have := k03.size; omega) (·.2))
    unfold PutPost at HPUT
    rw [may1 _ (h_txn _ _), put1 _ (h_txn _ _)] at HPUT
    replace HPUT := Lib.hid HPUT
    clear rh row8 row3 T2
    obtain ⟨rh, row8, row3, rs, lk⟩ := HFF.out _ kz
    have y0 := row8.cell 0
    have s0 := row3.cell 0
    (try simp only [List.getElem?_cons_zero] at y0 s0)
    have y1 := row8.cell 1
    (try simp only [List.getElem?_cons_succ] at y1); (try simp only [List.getElem?_cons_zero] at y1)
    have y2 := row8.cell 2
    (try simp only [List.getElem?_cons_succ] at y2); (try simp only [List.getElem?_cons_zero] at y2)
    have y3 := row8.cell 3
    (try simp only [List.getElem?_cons_succ] at y3); (try simp only [List.getElem?_cons_zero] at y3)
    have s1 := row3.cell 1
    (try simp only [List.getElem?_cons_succ] at s1); (try simp only [List.getElem?_cons_zero] at s1)
    clear row8 row3
    go_wp2_with fail
    go_fit HPUT.out
    rintro e w5 ⟨rfl, O5, T5, hO5, -, k5⟩
    clear y0 y1 y2 y3 s0 s1
    clear HPUT rh rs lk
    replace kz := kz.trans (k5.mono (fun b hb => .inl hb))
    have hO5b : Hid (∀ b, O5 b → (O b ∨ w4.heap.size ≤ b) ∧ b < w5.heap.size) := fun b hb => ⟨hO5 b hb, T5.lt b hb⟩
    have hs5 : w4.heap.size ≤ w5.heap.size := k5.size
    clear k5 hO5
    obtain ⟨rh, row8, row3, rs, lk⟩ := HFF.out _ kz
    have y0 := row8.cell 0
    have s0 := row3.cell 0
    (try simp only [List.getElem?_cons_zero] at y0 s0)
    have y1 := row8.cell 1
    (try simp only [List.getElem?_cons_succ] at y1); (try simp only [List.getElem?_cons_zero] at y1)
    have y2 := row8.cell 2
    (try simp only [List.getElem?_cons_succ] at y2); (try simp only [List.getElem?_cons_zero] at y2)
    have y3 := row8.cell 3
    (try simp only [List.getElem?_cons_succ] at y3); (try simp only [List.getElem?_cons_zero] at y3)
    have s1 := row3.cell 1
    (try simp only [List.getElem?_cons_succ] at s1); (try simp only [List.getElem?_cons_zero] at s1)
    clear row8 row3
    have HWI := Lib.hid (within_c s [.slice aF s.fFrom.length cF, .slice aT s.fTo.length cT] a cp key w5 rs lk)
    obtain ⟨v, HV⟩ : ∃ v, Hid (inF true s key = v) := ⟨_, rfl⟩
    generalize withinF s key = u at HWI
    clear rh rs lk
    go_wp2_with fail
    go_fit HWI.out
    rintro e w6 ⟨rfl, k⟩
    clear HWI
    clear y0 y1 y2 y3 s0 s1
    have hsq := k.size
    replace T5 := T5.nix k
    replace kz := kz.trans k.nix
    (try replace kg := kg.trans k.nix)
    clear k
    obtain ⟨rh, row8, row3, rs, lk⟩ := HFF.out _ kz
    have y0 := row8.cell 0
    have s0 := row3.cell 0
    (try simp only [List.getElem?_cons_zero] at y0 s0)
    have y1 := row8.cell 1
    (try simp only [List.getElem?_cons_succ] at y1); (try simp only [List.getElem?_cons_zero] at y1)
    have y2 := row8.cell 2
    (try simp only [List.getElem?_cons_succ] at y2); (try simp only [List.getElem?_cons_zero] at y2)
    have y3 := row8.cell 3
    (try simp only [List.getElem?_cons_succ] at y3); (try simp only [List.getElem?_cons_zero] at y3)
    have s1 := row3.cell 1
    (try simp only [List.getElem?_cons_succ] at s1); (try simp only [List.getElem?_cons_zero] at s1)
    clear row8 row3
    have lF6 := HF2.out.1.keep ((k03.nix (S := fun b => O b ∨ w4.heap.size ≤ b)).trans kz) (fun b hb h => by
      have := hOb.out b
      have := hS0.out
      have := hsw.out
      have hb : b < W.heap.size := hb
      rcases h with h | h
      · have := hOb.out b h; omega
      · omega)
    have HC := bytes_c aF a s.fFrom.length cF key.length cp s.fFrom key w6 rfl rfl lF6 lk
    rw [show decide (s.fFrom = key) = v from by rw [← HV.out]; rfl] at HC
    replace HC := Lib.hid HC
    clear rh rs lk lF6
    go_wp2_with fail
    go_fit HC.out
    rintro e w6' ⟨rfl, rfl⟩
    clear HC
    clear y0 y1 y2 y3 s0 s1
    have hs6 : w5.heap.size ≤ w6.heap.size := by assumption
    cases v with
    | false =>
      have lk := (HFF.out _ kz).2.2.2.2
      have kW : Keep Nix w6 (((w6.alloc (.cells #[.slice a key.length cp, .slice none 0 0, .bool false] 48))).alloc (.cells #[.int .u64 2, .slice none 0 0, .slice none 0 0, .slice (some ⟨w6.heap.size, 0, none⟩) 1 1] 28)) := ((Keep.refl Nix w6).alloc _).alloc _
      have hS7 : Hid (((((w6.alloc (.cells #[.slice a key.length cp, .slice none 0 0, .bool false] 48))).alloc (.cells #[.int .u64 2, .slice none 0 0, .slice none 0 0, .slice (some ⟨w6.heap.size, 0, none⟩) 1 1] 28))).heap.size = w6.heap.size + 2) := by show _ = _; simp
      have lX : Lies (((w6.alloc (.cells #[.slice a key.length cp, .slice none 0 0, .bool false] 48))).alloc (.cells #[.int .u64 2, .slice none 0 0, .slice none 0 0, .slice (some ⟨w6.heap.size, 0, none⟩) 1 1] 28)) (fun b => b < W.heap.size ∨ (w6.heap.size ≤ b ∧ b < ((((w6.alloc (.cells #[.slice a key.length cp, .slice none 0 0, .bool false] 48))).alloc (.cells #[.int .u64 2, .slice none 0 0, .slice none 0 0, .slice (some ⟨w6.heap.size, 0, none⟩) 1 1] 28))).heap.size)) (some ⟨w6.heap.size, 0, none⟩) [.slice a key.length cp, .slice none 0 0, .bool false] := (Lies.block w6 #[.slice a key.length cp, .slice none 0 0, .bool false] 48 (fun b => b < W.heap.size ∨ (w6.heap.size ≤ b ∧ b < ((((w6.alloc (.cells #[.slice a key.length cp, .slice none 0 0, .bool false] 48))).alloc (.cells #[.int .u64 2, .slice none 0 0, .slice none 0 0, .slice (some ⟨w6.heap.size, 0, none⟩) 1 1] 28))).heap.size)) (.inr ⟨Nat.le_refl _, by have := hS7.out; omega⟩)).keep ((Keep.refl Nix _).alloc _) (fun _ _ h => h)
      have hwr : rGWrite (((w6.alloc (.cells #[.slice a key.length cp, .slice none 0 0, .bool false] 48))).alloc (.cells #[.int .u64 2, .slice none 0 0, .slice none 0 0, .slice (some ⟨w6.heap.size, 0, none⟩) 1 1] 28)) (fun b => b < W.heap.size ∨ (w6.heap.size ≤ b ∧ b < ((((w6.alloc (.cells #[.slice a key.length cp, .slice none 0 0, .bool false] 48))).alloc (.cells #[.int .u64 2, .slice none 0 0, .slice none 0 0, .slice (some ⟨w6.heap.size, 0, none⟩) 1 1] 28))).heap.size)) [.slice a key.length cp, .slice none 0 0, .bool false] ⟨key, [], false⟩ := rGWrite_mk _ _ (x := ⟨key, [], false⟩) ⟨(lk.keep kW (fun _ _ h => h)).mono (fun b hb => .inl hb), hlc, hlf⟩ (nil_B _ _)
      have rw7 : rGHeld (((w6.alloc (.cells #[.slice a key.length cp, .slice none 0 0, .bool false] 48))).alloc (.cells #[.int .u64 2, .slice none 0 0, .slice none 0 0, .slice (some ⟨w6.heap.size, 0, none⟩) 1 1] 28)) (fun b => b < W.heap.size ∨ (w6.heap.size ≤ b ∧ b < ((((w6.alloc (.cells #[.slice a key.length cp, .slice none 0 0, .bool false] 48))).alloc (.cells #[.int .u64 2, .slice none 0 0, .slice none 0 0, .slice (some ⟨w6.heap.size, 0, none⟩) 1 1] 28))).heap.size)) [.int .u64 2, .slice none 0 0, .slice none 0 0, .slice (some ⟨w6.heap.size, 0, none⟩) 1 1] (wF key) := rGHeld_mk _ _ (x := wF key) ⟨(by show (0 : Int) ≤ 2; decide), (by show (2 : Int) ≤ _; decide)⟩ (nil_R _ _) (nil_R _ _) (one_R lX hwr)
      have row11 : RowIs (((w6.alloc (.cells #[.slice a key.length cp, .slice none 0 0, .bool false] 48))).alloc (.cells #[.int .u64 2, .slice none 0 0, .slice none 0 0, .slice (some ⟨w6.heap.size, 0, none⟩) 1 1] 28)) (w6.heap.size + 1) 28 [.int .u64 2, .slice none 0 0, .slice none 0 0, .slice (some ⟨w6.heap.size, 0, none⟩) 1 1] := by
        have h := RowIs.alloc (w6.alloc (.cells #[.slice a key.length cp, .slice none 0 0, .bool false] 48)) #[.int .u64 2, .slice none 0 0, .slice none 0 0, .slice (some ⟨w6.heap.size, 0, none⟩) 1 1] 28
        simpa using h
      have RW7 := Lib.hid rw7
      have k := kW
      clear lX hwr kW lk rw7
      go_upto_region 16 with fail
      generalize (((w6.alloc (.cells #[.slice a key.length cp, .slice none 0 0, .bool false] 48))).alloc (.cells #[.int .u64 2, .slice none 0 0, .slice none 0 0, .slice (some ⟨w6.heap.size, 0, none⟩) 1 1] 28)) = w7 at *
      have hsq := k.size
      replace T5 := T5.nix k
      replace kz := kz.trans k.nix
      (try replace kg := kg.trans k.nix)
      clear k
      have hs67 := hS7.out
      have HGG : Hid (∀ w', Keep (fun b => O5 b ∨ w7.heap.size ≤ b) w7 w' → rGHeld w' (fun b => b < W.heap.size ∨ (w6.heap.size ≤ b ∧ b < w7.heap.size)) [.int .u64 2, .slice none 0 0, .slice none 0 0, .slice (some ⟨w6.heap.size, 0, none⟩) 1 1] (wF key) ∧ RowIs w' (w6.heap.size + 1) 28 [.int .u64 2, .slice none 0 0, .slice none 0 0, .slice (some ⟨w6.heap.size, 0, none⟩) 1 1]) := fun w' k => by
        have hdj : ∀ b, b < W.heap.size → ¬ (O5 b ∨ w7.heap.size ≤ b) := fun b hb h => by
          have := hS0.out
          have := hsw.out
          rcases h with h | h
          · rcases (hO5b.out b h).1 with h | h
            · have := hOb.out b h; omega
            · omega
          · omega
        have hdk : ∀ b, w6.heap.size ≤ b → b < w7.heap.size → ¬ (O5 b ∨ w7.heap.size ≤ b) := fun b h1 h2 h => by
          rcases h with h | h
          · have := (hO5b.out b h).2; omega
          · omega
        exact ⟨rGHeld_lawful.keep (RW7.out) k (fun b hb => hb.elim (hdj b) (fun h => hdk b h.1 h.2)), row11.keep k (hdk _ (by omega) (by omega))⟩
      have kg : Keep (fun b => O5 b ∨ w7.heap.size ≤ b) w7 w7 := Keep.refl _ _
      clear row11
      have kz7 := kz
      have hGF : Hid (∀ b, (O5 b ∨ w7.heap.size ≤ b) → (O b ∨ w4.heap.size ≤ b)) := fun b hb => hb.elim (fun h => (hO5b.out b h).1) (fun h => .inr (by omega))
      -- May(w)
      obtain ⟨rw', row11⟩ := HGG.out _ kg
      have z0 := row11.cell 0
      (try simp only [List.getElem?_cons_zero] at z0)
      have z1 := row11.cell 1
      (try simp only [List.getElem?_cons_succ] at z1); (try simp only [List.getElem?_cons_zero] at z1)
      have z2 := row11.cell 2
      (try simp only [List.getElem?_cons_succ] at z2); (try simp only [List.getElem?_cons_zero] at z2)
      have z3 := row11.cell 3
      (try simp only [List.getElem?_cons_succ] at z3); (try simp only [List.getElem?_cons_zero] at z3)
      clear row11
      have HC := may_c O5 g 1 [hF true s] (wF key) [.int .u64 2, .slice none 0 0, .slice none 0 0, .slice (some ⟨w6.heap.size, 0, none⟩) 1 1] w7 T5 rw' (fun b hb => hb.elim (fun h => by have := hsw.out; omega) (·.2))
      rw [may_w, HV.out, if_neg (by decide)] at HC
      replace HC := Lib.hid HC
      go_wp2_with fail
      go_fit HC.out
      rintro e w8 ⟨rfl, k⟩
      clear HC rw'
      clear z0 z1 z2 z3
      have hsq := k.size
      replace T5 := T5.nix k
      replace kz := kz.trans k.nix
      (try replace kg := kg.trans k.nix)
      clear k
      -- May(q)
      have lk := (HFF.out _ kz).2.2.2.2
      have kQ : Keep Nix w8 (w8.alloc (.cells #[.slice a key.length cp] 42)) := (Keep.refl Nix w8).alloc _
      have lQ : Lies (w8.alloc (.cells #[.slice a key.length cp] 42)) (fun b => b < ((w8.alloc (.cells #[.slice a key.length cp] 42))).heap.size) (some ⟨w8.heap.size, 0, none⟩) [.slice a key.length cp] := Lies.block w8 #[.slice a key.length cp] 42 (fun b => b < ((w8.alloc (.cells #[.slice a key.length cp] 42))).heap.size) (by simp)
      have hq7 : W.heap.size ≤ w8.heap.size := by have := kz.size; have := hsw.out; omega
      have rq : rGHeld (w8.alloc (.cells #[.slice a key.length cp] 42)) (fun b => b < ((w8.alloc (.cells #[.slice a key.length cp] 42))).heap.size) [.int .u64 2, .slice (some ⟨w8.heap.size, 0, none⟩) 1 1, .slice none 0 0, .slice none 0 0] (qF key) := rGHeld_mk _ _ (x := qF key) ⟨(by show (0 : Int) ≤ 2; decide), (by show (2 : Int) ≤ _; decide)⟩ (one_R lQ ⟨a, cp, rfl, (lk.keep kQ (fun _ _ h => h)).mono (fun b hb => Nat.lt_of_lt_of_le hb (Nat.le_trans hq7 kQ.size)), hlc, hlf⟩) (nil_R _ _) (nil_R _ _)
      have HC := may_c O5 g 1 [hF true s] (qF key) [.int .u64 2, .slice (some ⟨w8.heap.size, 0, none⟩) 1 1, .slice none 0 0, .slice none 0 0] (w8.alloc (.cells #[.slice a key.length cp] 42)) (T5.nix kQ) rq (fun b hb => hb)
      rw [may_q] at HC
      replace HC := Lib.hid HC
      clear lQ rq lk
      go_wp2_with fail
      go_fit HC.out
      rintro e w9 ⟨rfl, k9⟩
      have k := kQ.trans k9
      clear HC k9 kQ
      have hsq := k.size
      replace T5 := T5.nix k
      replace kz := kz.trans k.nix
      (try replace kg := kg.trans k.nix)
      clear k
      -- Free
      have lk := (HFF.out _ kz).2.2.2.2
      have HC := free_c O5 g 1 [hF true s] a cp key w9 T5 (by decide) (by show 1 ≤ 12; decide) lk
      rw [free_h] at HC
      replace HC := Lib.hid HC
      clear lk
      go_wp2_with fail
      go_fit HC.out
      rintro e w10 ⟨rfl, k⟩
      clear HC
      have hsq := k.size
      replace T5 := T5.nix k
      replace kz := kz.trans k.nix
      (try replace kg := kg.trans k.nix)
      clear k
      -- Clear
      obtain ⟨rh, row8, row3, rs, lk⟩ := HFF.out _ kz
      have y0 := row8.cell 0
      have s0 := row3.cell 0
      (try simp only [List.getElem?_cons_zero] at y0 s0)
      have y1 := row8.cell 1
      (try simp only [List.getElem?_cons_succ] at y1); (try simp only [List.getElem?_cons_zero] at y1)
      have y2 := row8.cell 2
      (try simp only [List.getElem?_cons_succ] at y2); (try simp only [List.getElem?_cons_zero] at y2)
      have y3 := row8.cell 3
      (try simp only [List.getElem?_cons_succ] at y3); (try simp only [List.getElem?_cons_zero] at y3)
      have s1 := row3.cell 1
      (try simp only [List.getElem?_cons_succ] at s1); (try simp only [List.getElem?_cons_zero] at s1)
      clear row8 row3
      have HC := clear_c O5 g 1 [hF true s] s [.slice aF s.fFrom.length cF, .slice aT s.fTo.length cT] w10 T5 (by decide) (by show 1 ≤ 12; decide) rs
      rw [clear_h] at HC
      replace HC := Lib.hid HC
      clear rh lk rs
      go_wp2_with fail
      go_fit HC.out
      rintro e w11 ⟨rfl, k⟩
      clear HC
      clear y0 y1 y2 y3 s0 s1
      have hsq := k.size
      replace T5 := T5.nix k
      replace kz := kz.trans k.nix
      (try replace kg := kg.trans k.nix)
      clear k
      have HC := drop_c O5 g 1 [hF true s] 1 w11 T5 ⟨by decide, by decide⟩
      unfold DropPost at HC
      rw [find1 _ (h_txn _ _), drop1 _ (h_txn _ _)] at HC
      replace HC := Lib.hid HC
      clear T5
      go_wp2_with fail
      go_fit HC.out
      rintro e w13 ⟨cs, R, rfl, rg, hR, T6, k6⟩
      have rg : rGHeld w13 R cs (hF true s) := rg
      clear HC
      replace kz := kz.trans (k6.mono (fun b hb => (hO5b.out b hb).1))
      replace kg := kg.trans (k6.mono (fun b hb => .inl hb))
      have rg2 := rg
      obtain ⟨bK, dK, bS, dS, bW, dW, rfl, -⟩ := rGHeld_open rg
      clear rg k6
      have k : Keep Nix w13 (w13.alloc (.cells #[.int .u64 (hF true s).fTxn, .slice bK (hF true s).fKeys.length dK, .slice bS (hF true s).fSpans.length dS, .slice bW (hF true s).fWrites.length dW] 28)) := (Keep.refl Nix w13).alloc _
      have row12 := RowIs.alloc w13 #[.int .u64 (hF true s).fTxn, .slice bK (hF true s).fKeys.length dK, .slice bS (hF true s).fSpans.length dS, .slice bW (hF true s).fWrites.length dW] 28
      have rg3 := rGHeld_lawful.nix rg2 k
      have T5 := T6
      clear rg2 T6
      go_upto_region 19 with fail
      generalize w13.alloc (.cells #[.int .u64 (hF true s).fTxn, .slice bK (hF true s).fKeys.length dK, .slice bS (hF true s).fSpans.length dS, .slice bW (hF true s).fWrites.length dW] 28) = w14 at *
      have hsq := k.size
      replace T5 := T5.nix k
      replace kz := kz.trans k.nix
      (try replace kg := kg.trans k.nix)
      clear k
      -- Held(g, h)
      obtain ⟨rh, row8, row3, rs, lk⟩ := HFF.out _ kz
      have y0 := row8.cell 0
      have s0 := row3.cell 0
      (try simp only [List.getElem?_cons_zero] at y0 s0)
      have y1 := row8.cell 1
      (try simp only [List.getElem?_cons_succ] at y1); (try simp only [List.getElem?_cons_zero] at y1)
      have y2 := row8.cell 2
      (try simp only [List.getElem?_cons_succ] at y2); (try simp only [List.getElem?_cons_zero] at y2)
      have y3 := row8.cell 3
      (try simp only [List.getElem?_cons_succ] at y3); (try simp only [List.getElem?_cons_zero] at y3)
      have s1 := row3.cell 1
      (try simp only [List.getElem?_cons_succ] at s1); (try simp only [List.getElem?_cons_zero] at s1)
      clear row8 row3
      have x0 := row12.cell 0
      (try simp only [List.getElem?_cons_zero] at x0)
      have x1 := row12.cell 1
      (try simp only [List.getElem?_cons_succ] at x1); (try simp only [List.getElem?_cons_zero] at x1)
      have x2 := row12.cell 2
      (try simp only [List.getElem?_cons_succ] at x2); (try simp only [List.getElem?_cons_zero] at x2)
      have x3 := row12.cell 3
      (try simp only [List.getElem?_cons_succ] at x3); (try simp only [List.getElem?_cons_zero] at x3)
      have HC := Lib.hid (sHeld_c w14 (hF true s) _ _ rg3 rh)
      clear rg3 rh rs lk row12
      go_wp2_with fail
      go_fit HC.out
      rintro e w15 ⟨rfl, k⟩
      clear HC x0 x1 x2 x3
      clear y0 y1 y2 y3 s0 s1
      have hsq := k.size
      replace T5 := T5.nix k
      replace kz := kz.trans k.nix
      (try replace kg := kg.trans k.nix)
      clear k
      -- May(w)
      obtain ⟨rw', row11⟩ := HGG.out _ kg
      have z0 := row11.cell 0
      (try simp only [List.getElem?_cons_zero] at z0)
      have z1 := row11.cell 1
      (try simp only [List.getElem?_cons_succ] at z1); (try simp only [List.getElem?_cons_zero] at z1)
      have z2 := row11.cell 2
      (try simp only [List.getElem?_cons_succ] at z2); (try simp only [List.getElem?_cons_zero] at z2)
      have z3 := row11.cell 3
      (try simp only [List.getElem?_cons_succ] at z3); (try simp only [List.getElem?_cons_zero] at z3)
      clear row11
      have hw7 : ∀ b, (b < W.heap.size ∨ (w6.heap.size ≤ b ∧ b < w7.heap.size)) → b < w15.heap.size := fun b hb => by have := kg.size; have := hsw.out; rcases hb with h | h <;> omega
      have HC := may_c O5 g 1 [] (wF key) [.int .u64 2, .slice none 0 0, .slice none 0 0, .slice (some ⟨w6.heap.size, 0, none⟩) 1 1] w15 T5 rw' hw7
      rw [may_w0] at HC
      replace HC := Lib.hid HC
      go_wp2_with fail
      go_fit HC.out
      rintro e w16 ⟨rfl, k⟩
      clear HC rw'
      clear z0 z1 z2 z3
      have hsq := k.size
      replace T5 := T5.nix k
      replace kz := kz.trans k.nix
      (try replace kg := kg.trans k.nix)
      clear k
      -- Put(w)
      obtain ⟨rw', row11⟩ := HGG.out _ kg
      have z0 := row11.cell 0
      (try simp only [List.getElem?_cons_zero] at z0)
      have z1 := row11.cell 1
      (try simp only [List.getElem?_cons_succ] at z1); (try simp only [List.getElem?_cons_zero] at z1)
      have z2 := row11.cell 2
      (try simp only [List.getElem?_cons_succ] at z2); (try simp only [List.getElem?_cons_zero] at z2)
      have z3 := row11.cell 3
      (try simp only [List.getElem?_cons_succ] at z3); (try simp only [List.getElem?_cons_zero] at z3)
      clear row11
      have hw7b : ∀ b, (b < W.heap.size ∨ (w6.heap.size ≤ b ∧ b < w7.heap.size)) → b < w16.heap.size := fun b hb => by have := kg.size; have := hsw.out; rcases hb with h | h <;> omega
      have HC := put_c O5 g 1 [] (wF key) [.int .u64 2, .slice none 0 0, .slice none 0 0, .slice (some ⟨w6.heap.size, 0, none⟩) 1 1] w16 T5 (by decide) rw' (by unfold smallF wF; simp) hw7b
      unfold PutPost at HC
      rw [may_w0, put_w0] at HC
      replace HC := Lib.hid HC
      clear T5
      go_wp2_with fail
      go_fit HC.out
      rintro e w17 ⟨rfl, O6, T7, hO6, -, k6⟩
      clear HC rw'
      clear z0 z1 z2 z3
      replace kz := kz.trans (k6.mono (fun b hb => (hO5b.out b hb).1))
      replace kg := kg.trans (k6.mono (fun b hb => .inl hb))
      have T5 := T7
      clear k6 hO6 T7
      -- Free
      have lk := (HFF.out _ kz).2.2.2.2
      have HC := free_c O6 g (1 + 1) [wF key] a cp key w17 T5 (by decide) (by show 1 ≤ 12; decide) lk
      rw [free_w] at HC
      replace HC := Lib.hid HC
      clear lk
      go_wp2_with fail
      go_fit HC.out
      rintro e w18 ⟨rfl, k⟩
      clear HC
      have hsq := k.size
      replace T5 := T5.nix k
      replace kz := kz.trans k.nix
      (try replace kg := kg.trans k.nix)
      clear k
      -- May(h)
      obtain ⟨rh, row8, row3, rs, lk⟩ := HFF.out _ kz
      have y0 := row8.cell 0
      have s0 := row3.cell 0
      (try simp only [List.getElem?_cons_zero] at y0 s0)
      have y1 := row8.cell 1
      (try simp only [List.getElem?_cons_succ] at y1); (try simp only [List.getElem?_cons_zero] at y1)
      have y2 := row8.cell 2
      (try simp only [List.getElem?_cons_succ] at y2); (try simp only [List.getElem?_cons_zero] at y2)
      have y3 := row8.cell 3
      (try simp only [List.getElem?_cons_succ] at y3); (try simp only [List.getElem?_cons_zero] at y3)
      have s1 := row3.cell 1
      (try simp only [List.getElem?_cons_succ] at s1); (try simp only [List.getElem?_cons_zero] at s1)
      clear row8 row3
      have HC := may_c O6 g (1 + 1) [wF key] (hF true s) [.int .u64 1, .slice (some ⟨w3.heap.size, 0, none⟩) 1 1, .slice none 0 0, .slice none 0 0] w18 T5 rh (fun b hb => by have := kz.size; have := hsw.out; rcases hb with h | h <;> omega)
      rw [may_h, HV.out, if_neg (by decide)] at HC
      replace HC := Lib.hid HC
      clear rh rs lk
      go_wp2_with fail
      go_fit HC.out
      rintro e w19 ⟨rfl, k⟩
      clear HC
      clear y0 y1 y2 y3 s0 s1
      have hsq := k.size
      replace T5 := T5.nix k
      replace kz := kz.trans k.nix
      (try replace kg := kg.trans k.nix)
      clear k
      go_wp2_with fail
      go_ret
      have hob := hOb.out
      have hsw1 := hsw.out
      have hs00 := hS0.out
      exact ⟨rfl, k03.then kz (fun i hi h => by
        rcases h with h | h
        · have := hob i h; omega
        · omega)⟩
    | true =>
      have lk := (HFF.out _ kz).2.2.2.2
      have kW : Keep Nix w6 (((w6.alloc (.cells #[.slice a key.length cp, .slice none 0 0, .bool false] 48))).alloc (.cells #[.int .u64 2, .slice none 0 0, .slice none 0 0, .slice (some ⟨w6.heap.size, 0, none⟩) 1 1] 28)) := ((Keep.refl Nix w6).alloc _).alloc _
      have hS7 : Hid (((((w6.alloc (.cells #[.slice a key.length cp, .slice none 0 0, .bool false] 48))).alloc (.cells #[.int .u64 2, .slice none 0 0, .slice none 0 0, .slice (some ⟨w6.heap.size, 0, none⟩) 1 1] 28))).heap.size = w6.heap.size + 2) := by show _ = _; simp
      have lX : Lies (((w6.alloc (.cells #[.slice a key.length cp, .slice none 0 0, .bool false] 48))).alloc (.cells #[.int .u64 2, .slice none 0 0, .slice none 0 0, .slice (some ⟨w6.heap.size, 0, none⟩) 1 1] 28)) (fun b => b < W.heap.size ∨ (w6.heap.size ≤ b ∧ b < ((((w6.alloc (.cells #[.slice a key.length cp, .slice none 0 0, .bool false] 48))).alloc (.cells #[.int .u64 2, .slice none 0 0, .slice none 0 0, .slice (some ⟨w6.heap.size, 0, none⟩) 1 1] 28))).heap.size)) (some ⟨w6.heap.size, 0, none⟩) [.slice a key.length cp, .slice none 0 0, .bool false] := (Lies.block w6 #[.slice a key.length cp, .slice none 0 0, .bool false] 48 (fun b => b < W.heap.size ∨ (w6.heap.size ≤ b ∧ b < ((((w6.alloc (.cells #[.slice a key.length cp, .slice none 0 0, .bool false] 48))).alloc (.cells #[.int .u64 2, .slice none 0 0, .slice none 0 0, .slice (some ⟨w6.heap.size, 0, none⟩) 1 1] 28))).heap.size)) (.inr ⟨Nat.le_refl _, by have := hS7.out; omega⟩)).keep ((Keep.refl Nix _).alloc _) (fun _ _ h => h)
      have hwr : rGWrite (((w6.alloc (.cells #[.slice a key.length cp, .slice none 0 0, .bool false] 48))).alloc (.cells #[.int .u64 2, .slice none 0 0, .slice none 0 0, .slice (some ⟨w6.heap.size, 0, none⟩) 1 1] 28)) (fun b => b < W.heap.size ∨ (w6.heap.size ≤ b ∧ b < ((((w6.alloc (.cells #[.slice a key.length cp, .slice none 0 0, .bool false] 48))).alloc (.cells #[.int .u64 2, .slice none 0 0, .slice none 0 0, .slice (some ⟨w6.heap.size, 0, none⟩) 1 1] 28))).heap.size)) [.slice a key.length cp, .slice none 0 0, .bool false] ⟨key, [], false⟩ := rGWrite_mk _ _ (x := ⟨key, [], false⟩) ⟨(lk.keep kW (fun _ _ h => h)).mono (fun b hb => .inl hb), hlc, hlf⟩ (nil_B _ _)
      have rw7 : rGHeld (((w6.alloc (.cells #[.slice a key.length cp, .slice none 0 0, .bool false] 48))).alloc (.cells #[.int .u64 2, .slice none 0 0, .slice none 0 0, .slice (some ⟨w6.heap.size, 0, none⟩) 1 1] 28)) (fun b => b < W.heap.size ∨ (w6.heap.size ≤ b ∧ b < ((((w6.alloc (.cells #[.slice a key.length cp, .slice none 0 0, .bool false] 48))).alloc (.cells #[.int .u64 2, .slice none 0 0, .slice none 0 0, .slice (some ⟨w6.heap.size, 0, none⟩) 1 1] 28))).heap.size)) [.int .u64 2, .slice none 0 0, .slice none 0 0, .slice (some ⟨w6.heap.size, 0, none⟩) 1 1] (wF key) := rGHeld_mk _ _ (x := wF key) ⟨(by show (0 : Int) ≤ 2; decide), (by show (2 : Int) ≤ _; decide)⟩ (nil_R _ _) (nil_R _ _) (one_R lX hwr)
      have row11 : RowIs (((w6.alloc (.cells #[.slice a key.length cp, .slice none 0 0, .bool false] 48))).alloc (.cells #[.int .u64 2, .slice none 0 0, .slice none 0 0, .slice (some ⟨w6.heap.size, 0, none⟩) 1 1] 28)) (w6.heap.size + 1) 28 [.int .u64 2, .slice none 0 0, .slice none 0 0, .slice (some ⟨w6.heap.size, 0, none⟩) 1 1] := by
        have h := RowIs.alloc (w6.alloc (.cells #[.slice a key.length cp, .slice none 0 0, .bool false] 48)) #[.int .u64 2, .slice none 0 0, .slice none 0 0, .slice (some ⟨w6.heap.size, 0, none⟩) 1 1] 28
        simpa using h
      have RW7 := Lib.hid rw7
      have k := kW
      clear lX hwr kW lk rw7
      go_upto_region 16 with fail
      generalize (((w6.alloc (.cells #[.slice a key.length cp, .slice none 0 0, .bool false] 48))).alloc (.cells #[.int .u64 2, .slice none 0 0, .slice none 0 0, .slice (some ⟨w6.heap.size, 0, none⟩) 1 1] 28)) = w7 at *
      have hsq := k.size
      replace T5 := T5.nix k
      replace kz := kz.trans k.nix
      (try replace kg := kg.trans k.nix)
      clear k
      have hs67 := hS7.out
      have HGG : Hid (∀ w', Keep (fun b => O5 b ∨ w7.heap.size ≤ b) w7 w' → rGHeld w' (fun b => b < W.heap.size ∨ (w6.heap.size ≤ b ∧ b < w7.heap.size)) [.int .u64 2, .slice none 0 0, .slice none 0 0, .slice (some ⟨w6.heap.size, 0, none⟩) 1 1] (wF key) ∧ RowIs w' (w6.heap.size + 1) 28 [.int .u64 2, .slice none 0 0, .slice none 0 0, .slice (some ⟨w6.heap.size, 0, none⟩) 1 1]) := fun w' k => by
        have hdj : ∀ b, b < W.heap.size → ¬ (O5 b ∨ w7.heap.size ≤ b) := fun b hb h => by
          have := hS0.out
          have := hsw.out
          rcases h with h | h
          · rcases (hO5b.out b h).1 with h | h
            · have := hOb.out b h; omega
            · omega
          · omega
        have hdk : ∀ b, w6.heap.size ≤ b → b < w7.heap.size → ¬ (O5 b ∨ w7.heap.size ≤ b) := fun b h1 h2 h => by
          rcases h with h | h
          · have := (hO5b.out b h).2; omega
          · omega
        exact ⟨rGHeld_lawful.keep (RW7.out) k (fun b hb => hb.elim (hdj b) (fun h => hdk b h.1 h.2)), row11.keep k (hdk _ (by omega) (by omega))⟩
      have kg : Keep (fun b => O5 b ∨ w7.heap.size ≤ b) w7 w7 := Keep.refl _ _
      clear row11
      have kz7 := kz
      have hGF : Hid (∀ b, (O5 b ∨ w7.heap.size ≤ b) → (O b ∨ w4.heap.size ≤ b)) := fun b hb => hb.elim (fun h => (hO5b.out b h).1) (fun h => .inr (by omega))
      -- May(w)
      obtain ⟨rw', row11⟩ := HGG.out _ kg
      have z0 := row11.cell 0
      (try simp only [List.getElem?_cons_zero] at z0)
      have z1 := row11.cell 1
      (try simp only [List.getElem?_cons_succ] at z1); (try simp only [List.getElem?_cons_zero] at z1)
      have z2 := row11.cell 2
      (try simp only [List.getElem?_cons_succ] at z2); (try simp only [List.getElem?_cons_zero] at z2)
      have z3 := row11.cell 3
      (try simp only [List.getElem?_cons_succ] at z3); (try simp only [List.getElem?_cons_zero] at z3)
      clear row11
      have HC := may_c O5 g 1 [hF true s] (wF key) [.int .u64 2, .slice none 0 0, .slice none 0 0, .slice (some ⟨w6.heap.size, 0, none⟩) 1 1] w7 T5 rw' (fun b hb => hb.elim (fun h => by have := hsw.out; omega) (·.2))
      rw [may_w, HV.out, if_pos rfl] at HC
      replace HC := Lib.hid HC
      go_wp2_with fail
      go_fit HC.out
      rintro e w8 ⟨rfl, k⟩
      clear HC rw'
      clear z0 z1 z2 z3
      have hsq := k.size
      replace T5 := T5.nix k
      replace kz := kz.trans k.nix
      (try replace kg := kg.trans k.nix)
      clear k
      -- May(q)
      have lk := (HFF.out _ kz).2.2.2.2
      have kQ : Keep Nix w8 (w8.alloc (.cells #[.slice a key.length cp] 42)) := (Keep.refl Nix w8).alloc _
      have lQ : Lies (w8.alloc (.cells #[.slice a key.length cp] 42)) (fun b => b < ((w8.alloc (.cells #[.slice a key.length cp] 42))).heap.size) (some ⟨w8.heap.size, 0, none⟩) [.slice a key.length cp] := Lies.block w8 #[.slice a key.length cp] 42 (fun b => b < ((w8.alloc (.cells #[.slice a key.length cp] 42))).heap.size) (by simp)
      have hq7 : W.heap.size ≤ w8.heap.size := by have := kz.size; have := hsw.out; omega
      have rq : rGHeld (w8.alloc (.cells #[.slice a key.length cp] 42)) (fun b => b < ((w8.alloc (.cells #[.slice a key.length cp] 42))).heap.size) [.int .u64 2, .slice (some ⟨w8.heap.size, 0, none⟩) 1 1, .slice none 0 0, .slice none 0 0] (qF key) := rGHeld_mk _ _ (x := qF key) ⟨(by show (0 : Int) ≤ 2; decide), (by show (2 : Int) ≤ _; decide)⟩ (one_R lQ ⟨a, cp, rfl, (lk.keep kQ (fun _ _ h => h)).mono (fun b hb => Nat.lt_of_lt_of_le hb (Nat.le_trans hq7 kQ.size)), hlc, hlf⟩) (nil_R _ _) (nil_R _ _)
      have HC := may_c O5 g 1 [hF true s] (qF key) [.int .u64 2, .slice (some ⟨w8.heap.size, 0, none⟩) 1 1, .slice none 0 0, .slice none 0 0] (w8.alloc (.cells #[.slice a key.length cp] 42)) (T5.nix kQ) rq (fun b hb => hb)
      rw [may_q] at HC
      replace HC := Lib.hid HC
      clear lQ rq lk
      go_wp2_with fail
      go_fit HC.out
      rintro e w9 ⟨rfl, k9⟩
      have k := kQ.trans k9
      clear HC k9 kQ
      have hsq := k.size
      replace T5 := T5.nix k
      replace kz := kz.trans k.nix
      (try replace kg := kg.trans k.nix)
      clear k
      -- Free
      have lk := (HFF.out _ kz).2.2.2.2
      have HC := free_c O5 g 1 [hF true s] a cp key w9 T5 (by decide) (by show 1 ≤ 12; decide) lk
      rw [free_h] at HC
      replace HC := Lib.hid HC
      clear lk
      go_wp2_with fail
      go_fit HC.out
      rintro e w10 ⟨rfl, k⟩
      clear HC
      have hsq := k.size
      replace T5 := T5.nix k
      replace kz := kz.trans k.nix
      (try replace kg := kg.trans k.nix)
      clear k
      -- Clear
      obtain ⟨rh, row8, row3, rs, lk⟩ := HFF.out _ kz
      have y0 := row8.cell 0
      have s0 := row3.cell 0
      (try simp only [List.getElem?_cons_zero] at y0 s0)
      have y1 := row8.cell 1
      (try simp only [List.getElem?_cons_succ] at y1); (try simp only [List.getElem?_cons_zero] at y1)
      have y2 := row8.cell 2
      (try simp only [List.getElem?_cons_succ] at y2); (try simp only [List.getElem?_cons_zero] at y2)
      have y3 := row8.cell 3
      (try simp only [List.getElem?_cons_succ] at y3); (try simp only [List.getElem?_cons_zero] at y3)
      have s1 := row3.cell 1
      (try simp only [List.getElem?_cons_succ] at s1); (try simp only [List.getElem?_cons_zero] at s1)
      clear row8 row3
      have HC := clear_c O5 g 1 [hF true s] s [.slice aF s.fFrom.length cF, .slice aT s.fTo.length cT] w10 T5 (by decide) (by show 1 ≤ 12; decide) rs
      rw [clear_h] at HC
      replace HC := Lib.hid HC
      clear rh lk rs
      go_wp2_with fail
      go_fit HC.out
      rintro e w11 ⟨rfl, k⟩
      clear HC
      clear y0 y1 y2 y3 s0 s1
      have hsq := k.size
      replace T5 := T5.nix k
      replace kz := kz.trans k.nix
      (try replace kg := kg.trans k.nix)
      clear k
      have lk := (HFF.out _ kz).2.2.2.2
      have rsp : rGSpan w11 (· < W.heap.size) [.slice a key.length cp, .slice none 0 0] ⟨key, []⟩ := rGSpan_mk _ _ (x := ⟨key, []⟩) ⟨lk, hlc, hlf⟩ (nil_B _ _)
      have HC := touches_c O5 g 1 [hF true s] ⟨key, []⟩ [.slice a key.length cp, .slice none 0 0] w11 T5 (by decide) (by show 1 ≤ 12; decide) rsp
      rw [touch_h _ _ _ HV.out] at HC
      replace HC := Lib.hid HC
      clear lk rsp
      go_wp2_with fail
      go_fit HC.out
      rintro e w12 ⟨rfl, k⟩
      clear HC
      have hsq := k.size
      replace T5 := T5.nix k
      replace kz := kz.trans k.nix
      (try replace kg := kg.trans k.nix)
      clear k
      have HC := drop_c O5 g 1 [hF true s] 1 w12 T5 ⟨by decide, by decide⟩
      unfold DropPost at HC
      rw [find1 _ (h_txn _ _), drop1 _ (h_txn _ _)] at HC
      replace HC := Lib.hid HC
      clear T5
      go_wp2_with fail
      go_fit HC.out
      rintro e w13 ⟨cs, R, rfl, rg, hR, T6, k6⟩
      have rg : rGHeld w13 R cs (hF true s) := rg
      clear HC
      replace kz := kz.trans (k6.mono (fun b hb => (hO5b.out b hb).1))
      replace kg := kg.trans (k6.mono (fun b hb => .inl hb))
      have rg2 := rg
      obtain ⟨bK, dK, bS, dS, bW, dW, rfl, -⟩ := rGHeld_open rg
      clear rg k6
      have k : Keep Nix w13 (w13.alloc (.cells #[.int .u64 (hF true s).fTxn, .slice bK (hF true s).fKeys.length dK, .slice bS (hF true s).fSpans.length dS, .slice bW (hF true s).fWrites.length dW] 28)) := (Keep.refl Nix w13).alloc _
      have row12 := RowIs.alloc w13 #[.int .u64 (hF true s).fTxn, .slice bK (hF true s).fKeys.length dK, .slice bS (hF true s).fSpans.length dS, .slice bW (hF true s).fWrites.length dW] 28
      have rg3 := rGHeld_lawful.nix rg2 k
      have T5 := T6
      clear rg2 T6
      go_upto_region 19 with fail
      generalize w13.alloc (.cells #[.int .u64 (hF true s).fTxn, .slice bK (hF true s).fKeys.length dK, .slice bS (hF true s).fSpans.length dS, .slice bW (hF true s).fWrites.length dW] 28) = w14 at *
      have hsq := k.size
      replace T5 := T5.nix k
      replace kz := kz.trans k.nix
      (try replace kg := kg.trans k.nix)
      clear k
      -- Held(g, h)
      obtain ⟨rh, row8, row3, rs, lk⟩ := HFF.out _ kz
      have y0 := row8.cell 0
      have s0 := row3.cell 0
      (try simp only [List.getElem?_cons_zero] at y0 s0)
      have y1 := row8.cell 1
      (try simp only [List.getElem?_cons_succ] at y1); (try simp only [List.getElem?_cons_zero] at y1)
      have y2 := row8.cell 2
      (try simp only [List.getElem?_cons_succ] at y2); (try simp only [List.getElem?_cons_zero] at y2)
      have y3 := row8.cell 3
      (try simp only [List.getElem?_cons_succ] at y3); (try simp only [List.getElem?_cons_zero] at y3)
      have s1 := row3.cell 1
      (try simp only [List.getElem?_cons_succ] at s1); (try simp only [List.getElem?_cons_zero] at s1)
      clear row8 row3
      have x0 := row12.cell 0
      (try simp only [List.getElem?_cons_zero] at x0)
      have x1 := row12.cell 1
      (try simp only [List.getElem?_cons_succ] at x1); (try simp only [List.getElem?_cons_zero] at x1)
      have x2 := row12.cell 2
      (try simp only [List.getElem?_cons_succ] at x2); (try simp only [List.getElem?_cons_zero] at x2)
      have x3 := row12.cell 3
      (try simp only [List.getElem?_cons_succ] at x3); (try simp only [List.getElem?_cons_zero] at x3)
      have HC := Lib.hid (sHeld_c w14 (hF true s) _ _ rg3 rh)
      clear rg3 rh rs lk row12
      go_wp2_with fail
      go_fit HC.out
      rintro e w15 ⟨rfl, k⟩
      clear HC x0 x1 x2 x3
      clear y0 y1 y2 y3 s0 s1
      have hsq := k.size
      replace T5 := T5.nix k
      replace kz := kz.trans k.nix
      (try replace kg := kg.trans k.nix)
      clear k
      -- May(w)
      obtain ⟨rw', row11⟩ := HGG.out _ kg
      have z0 := row11.cell 0
      (try simp only [List.getElem?_cons_zero] at z0)
      have z1 := row11.cell 1
      (try simp only [List.getElem?_cons_succ] at z1); (try simp only [List.getElem?_cons_zero] at z1)
      have z2 := row11.cell 2
      (try simp only [List.getElem?_cons_succ] at z2); (try simp only [List.getElem?_cons_zero] at z2)
      have z3 := row11.cell 3
      (try simp only [List.getElem?_cons_succ] at z3); (try simp only [List.getElem?_cons_zero] at z3)
      clear row11
      have hw7 : ∀ b, (b < W.heap.size ∨ (w6.heap.size ≤ b ∧ b < w7.heap.size)) → b < w15.heap.size := fun b hb => by have := kg.size; have := hsw.out; rcases hb with h | h <;> omega
      have HC := may_c O5 g 1 [] (wF key) [.int .u64 2, .slice none 0 0, .slice none 0 0, .slice (some ⟨w6.heap.size, 0, none⟩) 1 1] w15 T5 rw' hw7
      rw [may_w0] at HC
      replace HC := Lib.hid HC
      go_wp2_with fail
      go_fit HC.out
      rintro e w16 ⟨rfl, k⟩
      clear HC rw'
      clear z0 z1 z2 z3
      have hsq := k.size
      replace T5 := T5.nix k
      replace kz := kz.trans k.nix
      (try replace kg := kg.trans k.nix)
      clear k
      -- Put(w)
      obtain ⟨rw', row11⟩ := HGG.out _ kg
      have z0 := row11.cell 0
      (try simp only [List.getElem?_cons_zero] at z0)
      have z1 := row11.cell 1
      (try simp only [List.getElem?_cons_succ] at z1); (try simp only [List.getElem?_cons_zero] at z1)
      have z2 := row11.cell 2
      (try simp only [List.getElem?_cons_succ] at z2); (try simp only [List.getElem?_cons_zero] at z2)
      have z3 := row11.cell 3
      (try simp only [List.getElem?_cons_succ] at z3); (try simp only [List.getElem?_cons_zero] at z3)
      clear row11
      have hw7b : ∀ b, (b < W.heap.size ∨ (w6.heap.size ≤ b ∧ b < w7.heap.size)) → b < w16.heap.size := fun b hb => by have := kg.size; have := hsw.out; rcases hb with h | h <;> omega
      have HC := put_c O5 g 1 [] (wF key) [.int .u64 2, .slice none 0 0, .slice none 0 0, .slice (some ⟨w6.heap.size, 0, none⟩) 1 1] w16 T5 (by decide) rw' (by unfold smallF wF; simp) hw7b
      unfold PutPost at HC
      rw [may_w0, put_w0] at HC
      replace HC := Lib.hid HC
      clear T5
      go_wp2_with fail
      go_fit HC.out
      rintro e w17 ⟨rfl, O6, T7, hO6, -, k6⟩
      clear HC rw'
      clear z0 z1 z2 z3
      replace kz := kz.trans (k6.mono (fun b hb => (hO5b.out b hb).1))
      replace kg := kg.trans (k6.mono (fun b hb => .inl hb))
      have T5 := T7
      clear k6 hO6 T7
      -- Free
      have lk := (HFF.out _ kz).2.2.2.2
      have HC := free_c O6 g (1 + 1) [wF key] a cp key w17 T5 (by decide) (by show 1 ≤ 12; decide) lk
      rw [free_w] at HC
      replace HC := Lib.hid HC
      clear lk
      go_wp2_with fail
      go_fit HC.out
      rintro e w18 ⟨rfl, k⟩
      clear HC
      have hsq := k.size
      replace T5 := T5.nix k
      replace kz := kz.trans k.nix
      (try replace kg := kg.trans k.nix)
      clear k
      -- May(h)
      obtain ⟨rh, row8, row3, rs, lk⟩ := HFF.out _ kz
      have y0 := row8.cell 0
      have s0 := row3.cell 0
      (try simp only [List.getElem?_cons_zero] at y0 s0)
      have y1 := row8.cell 1
      (try simp only [List.getElem?_cons_succ] at y1); (try simp only [List.getElem?_cons_zero] at y1)
      have y2 := row8.cell 2
      (try simp only [List.getElem?_cons_succ] at y2); (try simp only [List.getElem?_cons_zero] at y2)
      have y3 := row8.cell 3
      (try simp only [List.getElem?_cons_succ] at y3); (try simp only [List.getElem?_cons_zero] at y3)
      have s1 := row3.cell 1
      (try simp only [List.getElem?_cons_succ] at s1); (try simp only [List.getElem?_cons_zero] at s1)
      clear row8 row3
      have HC := may_c O6 g (1 + 1) [wF key] (hF true s) [.int .u64 1, .slice (some ⟨w3.heap.size, 0, none⟩) 1 1, .slice none 0 0, .slice none 0 0] w18 T5 rh (fun b hb => by have := kz.size; have := hsw.out; rcases hb with h | h <;> omega)
      rw [may_h, HV.out, if_pos rfl] at HC
      replace HC := Lib.hid HC
      clear rh rs lk
      go_wp2_with fail
      go_fit HC.out
      rintro e w19 ⟨rfl, k⟩
      clear HC
      clear y0 y1 y2 y3 s0 s1
      have hsq := k.size
      replace T5 := T5.nix k
      replace kz := kz.trans k.nix
      (try replace kg := kg.trans k.nix)
      clear k
      go_wp2_with fail
      go_ret
      have hob := hOb.out
      have hsw1 := hsw.out
      have hs00 := hS0.out
      exact ⟨rfl, k03.then kz (fun i hi h => by
        rcases h with h | h
        · have := hob i h; omega
        · omega)⟩
end lockReads
end Go.Proofs.Ytfagejfcibgigaa
