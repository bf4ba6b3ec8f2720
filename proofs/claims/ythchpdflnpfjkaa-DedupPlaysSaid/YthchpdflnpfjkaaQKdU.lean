/- DEDUP: the tape: Load. Printed by mac.py. -/
import Derived.Test.YthchpdflnpfjkaaQKdT
namespace Go.Proofs.Ythchpdflnpfjkaa
open Go.RowKit

def tapeF : Nat → List UInt8 → Option (List (List UInt8))
  | _, [] => some []
  | 0, _ :: _ => none
  | _ + 1, [_] => none
  | f + 1, x :: y :: r => if x.toNat + 256 * y.toNat ≤ r.length then (tapeF f (r.drop (x.toNat + 256 * y.toNat))).map (fun L => r.take (x.toNat + 256 * y.toNat) :: L) else none
def tapeP (b : List UInt8) : Option (List (List UInt8)) := tapeF b.length b
theorem tapeF_more : ∀ (f g : Nat) (b : List UInt8), b.length ≤ f → b.length ≤ g → tapeF f b = tapeF g b
  | f, g, [], _, _ => by cases f <;> cases g <;> rfl
  | 0, _, _ :: _, h, _ => by simp at h
  | _, 0, _ :: _, _, h => by simp at h
  | f + 1, g + 1, [_], _, _ => rfl
  | f + 1, g + 1, x :: y :: r, h1, h2 => by
    simp only [tapeF]
    split
    · rw [tapeF_more f g]
      · simp at h1 ⊢; omega
      · simp at h2 ⊢; omega
    · rfl
theorem tapeP_nil : tapeP [] = some [] := rfl
theorem tapeP_one (x : UInt8) : tapeP [x] = none := rfl
theorem tapeP_cons (x y : UInt8) (r : List UInt8) : tapeP (x :: y :: r) = if x.toNat + 256 * y.toNat ≤ r.length then (tapeP (r.drop (x.toNat + 256 * y.toNat))).map (fun L => r.take (x.toNat + 256 * y.toNat) :: L) else none := by
  unfold tapeP
  show tapeF (r.length + 1 + 1) (x :: y :: r) = _
  simp only [tapeF]
  split
  · rw [tapeF_more (r.length + 1) (r.drop (x.toNat + 256 * y.toNat)).length]
    · simp; omega
    · exact Nat.le_refl _
  · rfl
/-- What Save told is taken: texts of less than 65536 bytes. -/
theorem tapeP_tapeB : ∀ (tp : List (List UInt8)), (∀ l ∈ tp, l.length < 65536) → tapeP (tapeB tp) = some tp
  | [], _ => rfl
  | l :: tp, h => by
    have hl := h l (by simp)
    rw [tapeB_cons]
    show tapeP (UInt8.ofNat l.length :: UInt8.ofNat (l.length / 256) :: (l ++ tapeB tp)) = _
    have e : (UInt8.ofNat l.length).toNat + 256 * (UInt8.ofNat (l.length / 256)).toNat = l.length := by
      simp only [UInt8.toNat_ofNat']; omega
    rw [tapeP_cons, e, if_pos (by simp), List.drop_left, List.take_left, tapeP_tapeB tp (fun x hx => h x (by simp [hx]))]
    rfl
theorem or_shift (x y : UInt8) : bits .or .i64 (x.toNat : Int) ((y.toNat : Int) * 256) = ((x.toNat + 256 * y.toNat : Nat) : Int) := by
  have hx := x.toNat_lt
  have hy := y.toNat_lt
  generalize x.toNat = a at *
  generalize y.toNat = b at *
  have ho : a ||| (b * 256) = a + 256 * b := by
    have h := Nat.shiftLeft_add_eq_or_of_lt (b := a) (i := 8) (by omega) b
    rw [Nat.shiftLeft_eq] at h
    rw [Nat.or_comm, show b * 256 = b * 2 ^ 8 from rfl, ← h]; omega
  have h1 : (BitVec.ofInt 64 (a : Int)).toNat = a := by
    rw [BitVec.ofInt_natCast, BitVec.toNat_ofNat]; exact Nat.mod_eq_of_lt (by omega)
  have h2 : (BitVec.ofInt 64 ((b : Int) * 256)).toNat = b * 256 := by
    rw [show (b : Int) * 256 = ((b * 256 : Nat) : Int) by omega, BitVec.ofInt_natCast, BitVec.toNat_ofNat]; exact Nat.mod_eq_of_lt (by omega)
  show IntKind.i64.wrap ((BitVec.ofInt 64 (a : Int) ||| BitVec.ofInt 64 ((b : Int) * 256)).toNat : Int) = _
  rw [BitVec.toNat_or, h1, h2, ho, IntKind.wrap_i64]
  omega
def LoadPost (w : World) (bT : Nat) (r : Option (List (List UInt8))) (e : Ending) (w' : World) : Prop :=
  match r with
  | none => e = .returned (.bool false) ∧ Keep Nix w w'
  | some L => e = .returned (.bool true) ∧ ∃ g, IsTape w' bT g L ∧ Keep (· = bT) w w' ∧ ∀ b, g = some b → w.heap.size ≤ b
set_option maxRecDepth 100000 in
set_option maxHeartbeats 2000000 in
theorem tLoad_c {p : Nat → Prop} (bT : Nat) (g : Option Nat) (tp : List (List UInt8)) (a : Option Addr) (n ca : Nat) (l : List UInt8) (w : World) (hn : l.length = n) (ha : Lies w p a (l.map bv)) (hp : ∀ b, p b → b < w.heap.size) (ht : IsTape w bT g tp) (hr : n ≤ 1000000000) (hca : n ≤ ca) (hcb : ca ≤ maxLen) :
    Calls Try.prog 105 #[.pointer (some ⟨bT, 0, none⟩), .slice a n ca] w (LoadPost w bT (tapeP l)) := by
  subst hn
  obtain ⟨aT, cT, row, -, -⟩ := ht.row
  have ROW := Lib.hid row
  have HA := Lib.hid ha
  have HP := Lib.hid hp
  clear row ha hp ht
  unfold maxLen at hcb
  go_enter Try.func105, Try.ntmps105
  go_wp2_with fail
  go_loopw [5, 6] (fun s i wr => ∃ (k : Nat) (L : List (List UInt8)) (aL : Option Addr) (cp : Nat), k ≤ l.length ∧ L.length ≤ k ∧ i = .int .i64 (k : Int) ∧ s = .slice aL L.length cp ∧ wr.ownsRow w.heap.size 9 1 (.slice aL L.length cp) L.length (L.map sv) ∧ Keep Nix w wr ∧ Hid (tapeP l = (tapeP (l.drop k)).map (L ++ ·))) (fun _ i _ => l.length - (intOf i).toNat)
  case atStart => exact ⟨0, [], none, 0, Nat.zero_le _, Nat.le_refl _, rfl, rfl, World.ownsRow_nil _ _ _ _, Keep.refl _ _, by show _ = _; rw [List.drop_zero]; cases tapeP l <;> rfl⟩
  case round =>
    obtain ⟨k, L, aL, cp, hk, hLk, rfl, rfl, ownL, kk, hq⟩ := hrel
    have hsw := kk.size
    have OWL := Lib.hid ownL
    have HKK := Lib.hid kk
    by_cases hlt : k < l.length
    · have hi0 : (0 : Int) ≤ (k : Int) := by omega
      have hi1 : (k : Int) < (l.length : Int) := by omega
      by_cases h2 : k + 2 ≤ l.length
      · have hi2 : ¬ (l.length : Int) < (k : Int) + 2 := by omega
        have hi3 : (k : Int) + 1 < (l.length : Int) := by omega
        have hi4 : (0 : Int) ≤ (k : Int) + 1 := by omega
        obtain ⟨b, o, e1, hpb, hb, hc⟩ := HA.out.keep kk (fun _ _ h => h) (by intro h; rw [List.map_eq_nil_iff] at h; rw [h] at hlt; simp at hlt)
        have x0 := hc k (bv l[k]) (by simp [hlt])
        have x1 := hc (k + 1) (bv l[k + 1]) (by simp [show k + 1 < l.length by omega])
        subst e1
        have hd : Hid (l.drop k = l[k] :: l[k + 1] :: l.drop (k + 2)) := by
          show _ = _
          rw [List.drop_eq_getElem_cons hlt, List.drop_eq_getElem_cons (show k + 1 < l.length by omega)]
        generalize l[k] = x at *
        generalize l[k + 1] = y at *
        have hsub : (l.drop (k + 2)).length = l.length - (k + 2) := by simp
        obtain ⟨N, hN⟩ : ∃ N, Hid (x.toNat + 256 * y.toNat = N) := ⟨_, rfl⟩
        have hor : bits .or .i64 (x.toNat : Int) ((y.toNat : Int) * 256) = (N : Int) := by rw [or_shift, hN.out]
        have hNb : N ≤ 65535 := by have := x.toNat_lt; have := y.toNat_lt; have := hN.out; omega
        have hsh : RowKit.wrap64 ((y.toNat : Int) * 256) = (y.toNat : Int) * 256 := by have := y.toNat_lt; unfold RowKit.wrap64; omega
        have hxw : RowKit.wrap64 (x.toNat : Int) = (x.toNat : Int) := by have := x.toNat_lt; unfold RowKit.wrap64; omega
        have hyw : RowKit.wrap64 (y.toNat : Int) = (y.toNat : Int) := by have := y.toNat_lt; unfold RowKit.wrap64; omega
        have y0 : wr.cell? ⟨b, o + k, none⟩ = some (.int .u8 (x.toNat : Int)) := x0
        have y1 : wr.cell? ⟨b, o + (k + 1), none⟩ = some (.int .u8 (y.toNat : Int)) := x1
        have hw1 : IntKind.i64.wrap ((k : Int) + 1) = (k : Int) + 1 := by rw [IntKind.wrap_i64]; omega
        have hw2 : IntKind.i64.wrap ((k : Int) + 2) = (k : Int) + 2 := by rw [IntKind.wrap_i64]; omega
        have hw3 : IntKind.i64.wrap ((k : Int) + 2 + (N : Int)) = (k : Int) + 2 + (N : Int) := by rw [IntKind.wrap_i64]; omega
        clear hc x0 x1 kk ownL
        by_cases hfit : k + 2 + N ≤ l.length
        · have hf1 : ¬ (l.length : Int) < (k : Int) + 2 + (N : Int) := by omega
          have hq2 : Hid (tapeP l = (tapeP (l.drop (k + 2 + N))).map ((L ++ [(l.drop (k + 2)).take N]) ++ ·)) := by
            show _ = _
            rw [hq.out, hd.out, tapeP_cons, hN.out, if_pos (by rw [hsub]; omega), List.drop_drop]
            cases tapeP (l.drop (k + 2 + N)) <;> simp
          have hlz : ((l.drop (k + 2)).take N).length = N := by rw [List.length_take, hsub]; omega
          have HSUB : Hid (∀ w', Keep Nix wr w' → Lies w' p (if ca = k + 2 then some (⟨b, o, none⟩ : Addr) else Option.map (fun x : Addr => x.add ((k + 2) * 1)) (some ⟨b, o, none⟩)) (((l.drop (k + 2)).take N).map bv)) := fun w' kq => by
            have h := ((HA.out.keep HKK.out (fun _ _ h => h)).keep kq (fun _ _ h => h)).cut ca (k + 2) 1 (by rw [List.length_map]; omega)
            have h := h.take N
            rw [List.map_take, List.map_drop]
            simpa using h
          go_wp2_with fail
          go_quiet (fail)
          have HSUB2 := HSUB.out (wr.drewN nq) ((Keep.refl Nix wr).drewN nq)
          have kd := HKK.out.drewN nq
          have OW2 := Lib.hid (owned_same OWL.out (w' := wr.drewN nq))
          generalize wr.drewN nq = w2 at *
          have hsz2 : w.heap.size ≤ w2.heap.size := kd.size
          have KD := Lib.hid kd
          clear kd
          by_cases hcc : ca = k + 2
          · rw [if_pos hcc] at HSUB2
            have hcv := fun c' => conv_bytes (P := Try.prog) (cap := c') (l := (l.drop (k + 2)).take N) (n := N) Try.underlying31 Try.underlying5 Try.underlying9 hlz HSUB2
            clear HSUB2
            subst hcc
            generalize (l.drop (k + 2)).take N = sb at *
            go_wp2_with (at_builtin; refine wpl_append1 T_strs rfl (.tmp 37) (.tmp 47) rfl w.heap.size rfl OW2.out rfl rfl ?c1 ?c2 ?c3 hsz2 ?_)
            case c1 => simp [Value.oneCell']
            case c2 => unfold maxLen; omega
            case c3 => omega
            intro a' c' wB ownB kB
            have hoB : ∀ b', OwnB (.slice aL L.length cp) b' → w.heap.size ≤ b' := fun b' hb' => (OW2.out.lt b' hb').1
            have kkB := Lib.hid (KD.out.then kB (fun i hi h => by have := hoB i h; omega))
            have OWB := Lib.hid ownB
            clear ownB kB hoB OW2 hcv KD
            go_wp2_with fail
            go_roundw
            case rel => exact ⟨k + 2 + N, L ++ [sb], a', c', by omega, by rw [List.length_append, List.length_singleton]; omega, by go_num, by rw [List.length_append, List.length_singleton], by rw [List.length_append, List.length_singleton]; simpa [sv] using OWB.out, kkB.out, hq2⟩
            case measure => simp [intOf]; omega
          · rw [if_neg hcc, Option.map_some, Addr.add_lit, Nat.mul_one] at HSUB2
            have hcv := fun c' => conv_bytes (P := Try.prog) (cap := c') (l := (l.drop (k + 2)).take N) (n := N) Try.underlying31 Try.underlying5 Try.underlying9 hlz HSUB2
            clear HSUB2
            generalize (l.drop (k + 2)).take N = sb at *
            go_wp2_with (at_builtin; refine wpl_append1 T_strs rfl (.tmp 37) (.tmp 47) rfl w.heap.size rfl OW2.out rfl rfl ?c1 ?c2 ?c3 hsz2 ?_)
            case c1 => simp [Value.oneCell']
            case c2 => unfold maxLen; omega
            case c3 => omega
            intro a' c' wB ownB kB
            have hoB : ∀ b', OwnB (.slice aL L.length cp) b' → w.heap.size ≤ b' := fun b' hb' => (OW2.out.lt b' hb').1
            have kkB := Lib.hid (KD.out.then kB (fun i hi h => by have := hoB i h; omega))
            have OWB := Lib.hid ownB
            clear ownB kB hoB OW2 hcv KD
            go_wp2_with fail
            go_roundw
            case rel => exact ⟨k + 2 + N, L ++ [sb], a', c', by omega, by rw [List.length_append, List.length_singleton]; omega, by go_num, by rw [List.length_append, List.length_singleton], by rw [List.length_append, List.length_singleton]; simpa [sv] using OWB.out, kkB.out, hq2⟩
            case measure => simp [intOf]; omega
        · have hf1 : (l.length : Int) < (k : Int) + 2 + (N : Int) := by omega
          have hno : Hid (tapeP l = none) := by
            show _ = _
            rw [hq.out, hd.out, tapeP_cons, hN.out, if_neg (by rw [hsub]; omega)]; rfl
          go_wp2_with fail
          go_quiet (fail)
          go_wp2_with fail
          go_ret
          rw [hno.out]
          exact ⟨rfl, HKK.out.drewN _⟩
      · have hi2 : (l.length : Int) < (k : Int) + 2 := by omega
        have hno : Hid (tapeP l = none) := by
          show _ = _
          rw [hq.out, show l.drop k = [l[k]] from by rw [List.drop_eq_getElem_cons hlt, List.drop_eq_nil_of_le (by omega)], tapeP_one]; rfl
        have hw2 : IntKind.i64.wrap ((k : Int) + 2) = (k : Int) + 2 := by rw [IntKind.wrap_i64]; omega
        clear kk ownL
        go_wp2_with fail
        go_ret
        rw [hno.out]
        exact ⟨rfl, HKK.out⟩
    · obtain rfl : k = l.length := by omega
      have hyes : Hid (tapeP l = some L) := by
        show _ = _
        rw [hq.out, List.drop_length, tapeP_nil]; simp
      have row := ROW.out.keep kk id
      have x0 := row.cell 0
      have f0 := row.frozen 0
      (try simp only [List.getElem?_cons_zero] at x0)
      have RW := Lib.hid row
      clear kk ownL row
      go_wp2_with fail
      go_ret
      rw [hyes.out]
      have hbt := RW.out.lt
      have hb0 := ROW.out.lt
      have kS : Keep (· = bT) wr (wr.setCell ⟨bT, 0, none⟩ (.slice aL L.length cp)) := (Keep.refl (· = bT) wr).setCell (p := ⟨bT, 0, none⟩) (fun _ => rfl) _
      have hge : ∀ b, (Value.slice aL L.length cp).ownBlock = some b → w.heap.size ≤ b ∧ b < wr.heap.size := fun b hb => OWL.out.lt b hb
      refine ⟨rfl, (Value.slice aL L.length cp).ownBlock, ⟨⟨aL, cp, RW.out.set 0 _, owned_base (owned_keep OWL.out kS (fun b hb e => by have := (hge b hb).1; omega)) (Nat.zero_le _), rfl⟩, fun h => by have := (hge _ h).1; omega, fun b hb => Nat.lt_of_lt_of_le (hge b hb).2 kS.size⟩, HKK.out.nix.trans kS, fun b hb => (hge b hb).1⟩
end Go.Proofs.Ythchpdflnpfjkaa
