/- DISK: Read of the program's disk. Printed by mac.py. -/
import Derived.Test.YtdnbpfohmhhmkaaDk4
namespace Go.Proofs.Ytdnbpfohmhhmkaa
open Go.RowKit

theorem AggT.rowStore {P : Program} {T n : Nat} (A : AggT P T n) {w : World} {T' b : Nat} {old cs : List Value} (hr : RowIs w b T' old) (ho : old.length = n) (hn : cs.length = n) (h1 : ones cs = true) :
    (storeSem T (.pointer (some ⟨b, 0, none⟩)) (.agg cs.toArray)).run P w = .ok .skip (w.setRow b cs.toArray) := by
  have := run_storeVar_row (P := P) w b T' T old.toArray cs.toArray hr (by simpa [hn] using A.info) (by simp; omega) (by simpa [ones] using h1)
  unfold storeSem
  simp [Instr.storeAt, Instr.sureAddr, this]
theorem AggT.rowLoad {P : Program} {T n : Nat} (A : AggT P T n) {w : World} {T' b : Nat} {cs : List Value} (hr : RowIs w b T' cs) (hn : cs.length = n) : (wholeSem T (.pointer (some ⟨b, 0, none⟩))).run P w = .ok (.value (.agg cs.toArray)) w :=
  A.load hn fun j v hv => by rw [Nat.zero_add, hr.cell]; exact hv
theorem AggT.boxed {P : Program} {T n : Nat} {zs cs : List Value} (A : AggT P T n) (w : World) (hz : zs.length = n) (hc : cs.length = n) (ho : ones cs = true) :
    (storeSem T (.pointer (some ⟨w.heap.size, 0, none⟩)) (.agg cs.toArray)).run P (w.alloc (.cells zs.toArray T)) = .ok .skip ((w.alloc (.cells zs.toArray T)).setRow w.heap.size cs.toArray) ∧ RowIs ((w.alloc (.cells zs.toArray T)).setRow w.heap.size cs.toArray) w.heap.size T cs ∧ Keep Nix w ((w.alloc (.cells zs.toArray T)).setRow w.heap.size cs.toArray) :=
  ⟨A.rowStore (RowIs.alloc w _ _) (by simpa using hz) hc ho, (RowIs.alloc w _ _).setRow cs, ((Keep.refl Nix w).alloc _).setRow (fun h => absurd h (Nat.lt_irrefl _)) _⟩
/-- A sector's cells in the row of all. -/
theorem secs_at {S : List (List UInt8)} (h : ∀ b ∈ S, b.length = 64) {k : Nat} (hk : k < S.length) (j : Nat) (u : Value) (hu : (S[k].map bv)[j]? = some u) : (secs S)[k * 64 + j]? = some u :=
  flat_at (sz := 64) (S.map (fun b : List UInt8 => b.map bv)) (fun c hc => by obtain ⟨b, hb, rfl⟩ := List.mem_map.1 hc; rw [List.length_map]; exact h b hb) k (S[k].map bv) (by simp [hk]) j u hu
theorem wrts_at {Q : List (Int × List UInt8)} (h : ∀ q ∈ Q, q.2.length = 64) {k : Nat} (hk : k < Q.length) (j : Nat) (u : Value) (hu : (wcells Q[k])[j]? = some u) : (wrts Q)[k * 65 + j]? = some u :=
  flat_at (sz := 65) (Q.map wcells) (fun c hc => by obtain ⟨q, hq, rfl⟩ := List.mem_map.1 hc; simp [wcells, h q hq]) k (wcells Q[k]) (by simp [hk]) j u hu
def seen (n : Int) (s : List UInt8) (q : Int × List UInt8) : List UInt8 := if q.1 = n then q.2 else s
def showF (S : List (List UInt8)) (Q : List (Int × List UInt8)) (n : Int) : List UInt8 := Q.foldl (seen n) (S.getD n.toNat [])
theorem seen_len {S : List (List UInt8)} {Q : List (Int × List UInt8)} {ar : Int} (ok : DiskOk S Q ar) {n : Int} (h0 : 0 ≤ n) (h1 : n < S.length) (k : Nat) : ((Q.take k).foldl (seen n) (S.getD n.toNat [])).length = 64 := by
  have hb : (S.getD n.toNat []).length = 64 := by
    have : n.toNat < S.length := by omega
    rw [List.getD_eq_getElem?_getD, List.getElem?_eq_getElem this]; exact ok.s64 _ (List.getElem_mem this)
  generalize S.getD n.toNat [] = s at hb
  have hq : ∀ q ∈ Q.take k, q.2.length = 64 := fun q hq => (ok.q64 q (List.mem_of_mem_take hq)).1
  generalize Q.take k = R at hq
  induction R generalizing s with
  | nil => exact hb
  | cons q R ih =>
    refine ih (seen n s q) ?_ (fun r hr => hq r (List.mem_cons_of_mem _ hr))
    unfold seen; split
    · exact hq q (by simp)
    · exact hb
def zS : List Value := List.replicate 64 (bv 0)
def zQ : List Value := .int .i64 0 :: List.replicate 64 (bv 0)
def ReadPost (w : World) (l : List UInt8) (e : Ending) (w' : World) : Prop := ∃ g, e = .returned (.tuple #[.slice (some ⟨g, 0, none⟩) 64 64, .int .i64 0]) ∧ w.heap.size ≤ g ∧ RowIs w' g 65 (l.map bv) ∧ Keep Nix w w'
section
attribute [local go_sem ↓] ldz_sector stz_sector ldz_write stz_write
set_option maxRecDepth 100000 in
set_option maxHeartbeats 4000000 in
theorem read_c {p : Nat → Prop} (g : Nat) (S : List (List UInt8)) (Q : List (Int × List UInt8)) (ar n : Int) (w : World) (hd : IsDisk w p g S Q false ar) (ok : DiskOk S Q ar) (hQ : Q.length ≤ 1000) (h0 : 0 ≤ n) (h1 : n < S.length) :
    Calls Try.prog 15 #[.pointer (some ⟨g, 0, none⟩), .int .i64 n] w (ReadPost w (showF S Q n)) := by
  obtain ⟨aS, cS, aQ, cQ, row, hown, howq, hp, hap, haq⟩ := hd
  have hnS : S.length ≤ 65536 := ok.n
  obtain ⟨k0, rfl⟩ : ∃ k : Nat, n = (k : Int) := ⟨n.toNat, by omega⟩
  have hk0 : k0 < S.length := by omega
  have x0 := row.cell 0
  (try simp only [List.getElem?_cons_succ] at x0); (try simp only [List.getElem?_cons_zero] at x0)
  have hLS := Lies.of_owned hown
  obtain ⟨bS, oS, rfl, -, hbS, hcS⟩ := hLS (by
    intro e
    have := secs_len ok.s64
    rw [e] at this; simp at this; omega)
  have hl64 : (S[k0].map bv).length = 64 := by rw [List.length_map]; exact ok.s64 _ (List.getElem_mem hk0)
  have ldS := A_sector.load (P := Try.prog) (w := w) (b := bS) (o := oS + k0 * 64) hl64 (fun j v hv => by rw [Nat.add_assoc]; exact hcS _ v (secs_at ok.s64 hk0 j v hv))
  obtain ⟨hst, row7, kV⟩ := A_sector.boxed (P := Try.prog) (zs := zS) w rfl hl64 (by
    rw [ones, List.all_eq_true]; exact fun u hu => bv_one _ u hu)
  have rowB := row.keep kV id
  have y1 := rowB.cell 1
  (try simp only [List.getElem?_cons_succ] at y1); (try simp only [List.getElem?_cons_zero] at y1)
  have hz65 : ∀ w' : World, (zeroValue 65).run Try.prog w' = .ok (.agg zS.toArray) w' := fun w' => by kernel_rfl
  have hz67 : ∀ w' : World, (zeroValue 67).run Try.prog w' = .ok (.agg zQ.toArray) w' := fun w' => by kernel_rfl
  go_enter Try.func15, Try.ntmps15
  go_wp2_with fail
  go_fit (up_c g _ _ _ false _ row)
  rintro e w1 ⟨rfl, rfl⟩
  go_wp2_with fail
  go_fit (fine_c 0 _)
  rintro e w1 ⟨rfl, rfl⟩
  go_wp2_with fail
  clear hst
  generalize (w.alloc (.cells zS.toArray 65)).setRow w.heap.size (S[k0].map bv).toArray = w2 at *
  have hg7 : Hid (w.heap.size < w2.heap.size) := row7.lt
  have hn0 : Q.length ≤ 140737488351232 := by omega
  have hstart : RowIs w2 w.heap.size 65 (((Q.take 0).foldl (seen k0) (S.getD (k0 : Int).toNat [])).map bv) := by
    have e : ((Q.take 0).foldl (seen k0) (S.getD (k0 : Int).toNat [])) = S[k0] := by
      rw [List.take_zero, List.foldl_nil, Int.toNat_natCast, List.getD_eq_getElem?_getD, List.getElem?_eq_getElem hk0]; rfl
    rw [e]; exact row7
  clear ldS hcS hl64 row7
  go_loopw [40] (fun i wr => ∃ k : Nat, k ≤ Q.length ∧ i = .int .i64 k ∧ RowIs wr w.heap.size 65 (((Q.take k).foldl (seen k0) (S.getD (k0 : Int).toNat [])).map bv) ∧ Keep Nix w wr) (fun i _ => Q.length - (intOf i).toNat)
  case atStart => exact ⟨0, by omega, rfl, hstart, kV⟩
  case round =>
    clear hstart kV
    obtain ⟨k, hk, rfl, row7, kk⟩ := hrel
    have hfl := seen_len ok (n := (k0 : Int)) (by omega) (by omega) k
    by_cases hlt : k < Q.length
    · have hi0 : (0 : Int) ≤ (k : Int) := by omega
      have hi1 : (k : Int) < (Q.length : Int) := by omega
      have hnx : Hid ((Q.take (k + 1)).foldl (seen k0) (S.getD (k0 : Int).toNat []) = seen k0 ((Q.take k).foldl (seen k0) (S.getD (k0 : Int).toNat [])) Q[k]) := (by
        rw [List.take_succ_eq_append_getElem hlt, List.foldl_append]; rfl)
      have hLQ := Lies.of_owned (owned_keep howq kk (fun _ _ h => h))
      obtain ⟨bQ, oQ, rfl, -, hbQ, hcQ⟩ := hLQ (by
        intro e
        have := wrts_at (fun q hq => (ok.q64 q hq).1) hlt 0 _ rfl
        rw [e] at this; simp at this)
      have hq64 := (ok.q64 _ (List.getElem_mem hlt)).1
      have hl65 : (wcells Q[k]).length = 65 := by simp [wcells, hq64]
      have ho65 : ones (wcells Q[k]) = true := by
        rw [ones, List.all_eq_true]
        intro u hu
        rcases List.mem_cons.1 (show u ∈ Value.int .i64 Q[k].1 :: Q[k].2.map bv from hu) with rfl | hu
        · rfl
        · exact bv_one _ u hu
      have ldQ := A_write.load (P := Try.prog) (w := wr) (b := bQ) (o := oQ + k * 65) hl65 (fun j v hv => by rw [Nat.add_assoc]; exact hcQ _ v (wrts_at (fun q hq => (ok.q64 q hq).1) hlt j v hv))
      obtain ⟨hst, rowW, kW⟩ := A_write.boxed (P := Try.prog) (zs := zQ) wr rfl hl65 ho65
      have hgw : w.heap.size < wr.heap.size := row7.lt
      replace row7 := row7.keep kW id
      have hsw : Hid (wr.heap.size < _) := rowW.lt
      generalize hq : Q[k] = q at *
      clear hq hcQ hl65 ho65 hLQ
      have ldW : (wholeSem 65 (.pointer (some ⟨wr.heap.size, 1, none⟩))).run Try.prog _ = .ok (.value (.agg (q.2.map bv).toArray)) _ := A_sector.load (by rw [List.length_map]; exact hq64) (fun j v hv => by rw [rowW.cell, Nat.add_comm]; exact hv)
      have z0 := (rowW.cell 0).trans (show (wcells q)[0]? = some (.int .i64 q.1) from rfl)
      replace kk := kk.trans kW
      rcases test_eq q.1 (k0 : Int) with ⟨t1, t2⟩ | ⟨t1, t2⟩
      · have HN : Hid (seen k0 ((Q.take k).foldl (seen k0) (S.getD (k0 : Int).toNat [])) q = q.2) := by show seen _ _ _ = _; unfold seen; rw [if_pos t2.out]
        have hst2 := A_sector.rowStore (P := Try.prog) (cs := q.2.map bv) row7 (by rw [List.length_map]; exact hfl) (by rw [List.length_map]; exact hq64) (by
          rw [ones, List.all_eq_true]; exact fun u hu => bv_one _ u hu)
        have HR := Lib.hid (row7.setRow (q.2.map bv))
        have HK := Lib.hid (kk.setRow (g := w.heap.size) (fun h => absurd h (Nat.lt_irrefl _)) (q.2.map bv).toArray)
        clear row7 kk kW rowW t2
        go_wp2_with fail
        go_roundw
        case rel => exact ⟨k + 1, by omega, by go_num, by rw [hnx.out, HN.out]; exact HR.out, HK.out⟩
        case measure => simp [intOf]; omega
      · have HN : Hid (seen k0 ((Q.take k).foldl (seen k0) (S.getD (k0 : Int).toNat [])) q = (Q.take k).foldl (seen k0) (S.getD (k0 : Int).toNat [])) := by show seen _ _ _ = _; unfold seen; rw [if_neg t2]
        have HR := Lib.hid row7
        have HK := Lib.hid kk
        clear row7 kk kW rowW t2
        go_wp2_with fail
        go_roundw
        case rel => exact ⟨k + 1, by omega, by go_num, by rw [hnx.out, HN.out]; exact HR.out, HK.out⟩
        case measure => simp [intOf]; omega
    · obtain rfl : k = Q.length := by omega
      have HF : Hid ((Q.take Q.length).foldl (seen k0) (S.getD (k0 : Int).toNat []) = showF S Q k0) := (by rw [List.take_length]; rfl)
      go_wp2_with fail
      go_ret2
      exact ⟨w.heap.size, rfl, Nat.le_refl _, by rw [← HF.out]; exact row7, kk⟩
end
end Go.Proofs.Ytdnbpfohmhhmkaa
