/- DISK: the law DiskPlays. Printed by mac.py. -/
import Derived.Test.YtdnbpfohmhhmkaaDkL
import Derived.Deep.DeepCutAuto
import Derived.Deep.CutBlock
namespace Go.Proofs.Ytdnbpfohmhhmkaa
open Go.RowKit

theorem mem_sum : ∀ {l : List Nat} {x : Nat}, x ∈ l → x ≤ l.sum
  | y :: l, x, h => by
    rcases List.mem_cons.1 h with rfl | h
    · simp
    · have := mem_sum h; simp; omega
theorem ones_sum : ∀ l : List Int, (l.map (fun _ => 1)).sum = l.length
  | [] => rfl
  | _ :: l => by rw [List.map_cons, List.sum_cons, ones_sum l, List.length_cons]; omega
theorem op_size {l : List GOp} (h : sumOf GOp.size l ≤ 1048576) {x : GOp} (hx : x ∈ l) : x.fB.length ≤ 1048576 ∧ x.fKeep.length ≤ 1048576 := by
  have h1 : x.size ≤ (l.map GOp.size).sum := mem_sum (List.mem_map.2 ⟨x, hx, rfl⟩)
  have h2 := ones_sum x.fKeep
  have h3 : x.size = 1 + 1 + (x.fB.length + 1) + ((x.fKeep.map (fun _ => 1)).sum + 1) + 1 := rfl
  have h4 : sumOf GOp.size l = (l.map GOp.size).sum + 1 := rfl
  constructor <;> omega
theorem ints_lies {w : World} {p : Nat → Prop} {a : Option Addr} {n cap : Nat} {l : List Int} (h : rList (rInt .i64) w p [.slice a n cap] l) : Lies w p a (l.map iv) := by
  intro hne
  have hl : 0 < l.length := by
    cases l with
    | nil => exact absurd rfl hne
    | cons _ _ => simp
  obtain ⟨b, off, c1, cs, e1, h1, h2, -, -⟩ := rList_at (rInt_lawful _) (by decide) h 0 hl
  simp only [List.cons.injEq, Value.slice.injEq, and_true] at e1
  obtain ⟨rfl, -, -⟩ := e1
  refine ⟨b, off, rfl, h1, h2, fun j u hu => ?_⟩
  have hj : j < l.length := by
    have := (List.getElem?_eq_some_iff.1 hu).1
    simpa using this
  obtain ⟨b', off', c1', cs', e1', -, -, r, hc⟩ := rList_at (rInt_lawful _) (by decide) h j hj
  simp only [List.cons.injEq, Value.slice.injEq, Option.some.injEq, Addr.mk.injEq, and_true] at e1'
  obtain ⟨⟨rfl, rfl⟩, -, -⟩ := e1'
  obtain ⟨rfl, -⟩ := r
  have := hc 0 _ rfl
  rw [List.getElem?_map, List.getElem?_eq_getElem hj] at hu
  simp only [Option.map_some, Option.some.injEq] at hu
  subst hu
  simpa [iv] using this
/-- What stands behind an op: the disk's pointer, the world. -/
def Rnd (W : World) (n r k : Nat) (v : Value) (w : World) : Prop :=
  ∃ (g : Nat) (s : St), v = .pointer (some ⟨g, 0, none⟩) ∧ Duo W w g r s s ∧ DiskOk s.1 s.2.1 s.2.2.2 ∧ s.1.length = n ∧ s.2.1.length ≤ k
theorem write_okF {S : List (List UInt8)} {Q : List (Int × List UInt8)} {ar : Int} (ok : DiskOk S Q ar) (dn : Bool) (n : Int) (l : List UInt8) : DiskOk S (writeF S Q dn ar n l).2.1 (writeF S Q dn ar n l).2.2.2 ∧ (writeF S Q dn ar n l).2.1.length ≤ Q.length + 1 := by
  have ha : 0 ≤ (hitF dn ar).2.1 ∧ (hitF dn ar).2.1 ≤ 9223372036854775807 := by
    have h0 := ok.a0; have h1 := ok.a1
    unfold hitF; split
    · exact ⟨by show (0 : Int) ≤ 0; decide, by show (0 : Int) ≤ _; decide⟩
    · rename_i h; constructor <;> (show _ ≤ _; simp only; omega)
  unfold writeF
  split
  · exact ⟨ok, by show Q.length ≤ Q.length + 1; omega⟩
  · split
    · exact ⟨ok, by show Q.length ≤ Q.length + 1; omega⟩
    · rename_i h1 h2
      refine ⟨⟨ok.s64, fun q hq => ?_, ok.n, ha.1, ha.2⟩, by simp⟩
      rcases List.mem_append.1 hq with h | h
      · exact ok.q64 q h
      · rw [List.mem_singleton] at h; subst h
        exact ⟨by show l.length = 64; omega, by show 0 ≤ n; omega, by show n < _; omega⟩
theorem start_ok {S : List (List UInt8)} {Q : List (Int × List UInt8)} {ar : Int} (ok : DiskOk S Q ar) (b : Bool) : DiskOk S (if b then [] else Q) 0 := by
  cases b with
  | true => exact ⟨ok.s64, fun q hq => (List.not_mem_nil hq).elim, ok.n, by decide, by decide⟩
  | false => exact ⟨ok.s64, ok.q64, ok.n, by decide, by decide⟩
theorem flush_ok {S : List (List UInt8)} {Q : List (Int × List UInt8)} {dn : Bool} {ar : Int} (ok : DiskOk S Q ar) : DiskOk (flushF S Q dn ar).2.1 (flushF S Q dn ar).2.2.1 (flushF S Q dn ar).2.2.2.2 ∧ (flushF S Q dn ar).2.1.length = S.length ∧ (flushF S Q dn ar).2.2.1.length ≤ Q.length := by
  have ha : 0 ≤ (hitF dn ar).2.1 ∧ (hitF dn ar).2.1 ≤ 9223372036854775807 := by
    have h0 := ok.a0; have h1 := ok.a1
    unfold hitF; split
    · exact ⟨by show (0 : Int) ≤ 0; decide, by show (0 : Int) ≤ _; decide⟩
    · rename_i h; constructor <;> (show _ ≤ _; simp only; omega)
  unfold flushF
  split
  · exact ⟨ok, rfl, Nat.le_refl _⟩
  · split
    · exact ⟨⟨ok.s64, ok.q64, ok.n, ha.1, ha.2⟩, rfl, Nat.le_refl _⟩
    · exact ⟨⟨puts_64 ok.s64 (fun q hq => (ok.q64 q hq).1), fun q hq => (List.not_mem_nil hq).elim, by rw [puts_len]; exact ok.n, ha.1, ha.2⟩, puts_len _ _, Nat.zero_le _⟩
namespace diskPlays
set_option maxRecDepth 100000 in
set_option maxHeartbeats 8000000 in
theorem walk (W : World) (v0 v1 : Value) (h0 : Arg Try.prog W 1048576 3 v0) (h1 : Arg Try.prog W 1048576 40 v1) :
    Calls Try.prog 5 #[v0, v1] W fun e w' => e = .returned (.bool true) ∧ Keep Nix W w' := by
  obtain ⟨n', rfl, -⟩ := h0.int Try.underlying3
  obtain ⟨aX, nX, cX, rfl, rX⟩ := h1.slice Try.underlying40
  obtain ⟨l, hX, hsz⟩ := Red.toList (sz := 4) (by' := 64) GOp.size Try.underlying40 (by kernel_rfl) (by kernel_rfl) (by decide) (by decide) (fun h => redGOp h) rX
  obtain ⟨rfl, -, hfl⟩ := rList_len hX
  have hfar := far_len
  have mL : l.length ≤ 140737488351232 := Nat.le_trans hfl hfar.1
  have HX := Lib.hid hX
  have HSZ : Hid (∀ x ∈ l, x.fB.length ≤ 1048576 ∧ x.fKeep.length ≤ 1048576) := fun x hx => op_size hsz hx
  clear h0 h1 rX hX hfl hsz hfar
  by_cases hn : n' < 1 ∨ 65536 < n'
  · have HN := Lib.hid hn
    go_enter Try.func5, Try.ntmps5
    go_wp2_with fail
    go_fit (new_no n' HN.out W)
    rintro e w1 ⟨rfl, rfl⟩
    rcases HN.out with h | h
    · go_wp2_with fail
      go_fit (dkawake_c W)
      rintro e w1 ⟨rfl, kk⟩
      go_wp2_with fail
      go_ret
      exact ⟨rfl, kk⟩
    · have h' : 1 ≤ n' := by omega
      go_wp2_with fail
      go_fit (dkawake_c W)
      rintro e w1 ⟨rfl, kk⟩
      go_wp2_with fail
      go_ret
      exact ⟨rfl, kk⟩
  · obtain ⟨n, rfl⟩ : ∃ n : Nat, n' = (n : Int) := ⟨n'.toNat, by omega⟩
    have hn1 : (1 : Int) ≤ (n : Int) := by omega
    have hn2 : (n : Int) ≤ 65536 := by omega
    have hn1' : 1 ≤ n := by omega
    have hn2' : n ≤ 65536 := by omega
    clear hn
    go_enter Try.func5, Try.ntmps5
    go_wp2_with fail
    go_fit (new_c n hn1' hn2' W)
    rintro e w1 ⟨g, rfl, hd, k1⟩
    go_wp2_with fail
    go_fit (dkawake_c w1)
    rintro e w2 ⟨rfl, k2⟩
    replace hd := (hd.tight).keep k2 (fun _ _ h => h)
    go_wp2_with fail
    go_fit (rnew_c n hn1' hn2' w2)
    rintro e w3 ⟨r, rfl, hr, k3⟩
    have hz2 := k2.size
    have hz1 := k1.size
    have hduo : Duo W w3 g r (List.replicate n zero64, [], false, 0) (List.replicate n zero64, [], false, 0) := by
      refine ⟨_, _, hd.keep k3 (fun _ _ h => h), hr.tight, fun b hb => ⟨hb.1, ?_⟩, fun b hb => ⟨?_, hb.2⟩, fun b hb h => ?_, (k1.trans k2).trans k3⟩
      · have h1 := hb.2; have h2 := k3.size; omega
      · have h1 := hb.1; omega
      · have h1 := hb.2; have h2 := h.1; omega
    have HR : Hid (Rnd W n r 0 (.pointer (some ⟨g, 0, none⟩)) w3) := ⟨g, _, rfl, hduo, ok_nil (zero_64 n) (by rw [List.length_replicate]; exact hn2'), List.length_replicate, Nat.le_refl _⟩
    clear hd hr k1 k2 k3 hz1 hz2 hduo
    go_wp2_with fail
    go_loopw [5, 8] (fun v i wr => ∃ k : Nat, k ≤ l.length ∧ k ≤ 120 ∧ i = .int .i64 k ∧ Rnd W n r k v wr) (fun _ i _ => l.length - (intOf i).toNat)
    case atStart => exact ⟨0, by omega, by omega, rfl, HR.out⟩
    case round =>
      clear HR
      obtain ⟨k, hk, hk120, rfl, g, s, rfl, hduo, ok, hSn, hQk⟩ := hrel
      by_cases hlt : k < l.length ∧ k < 120
      · obtain ⟨hlt, h120⟩ := hlt
        have hi0 : (0 : Int) ≤ (k : Int) := by omega
        have hi1 : (k : Int) < (l.length : Int) := by omega
        have hi2 : (k : Int) < 120 := by omega
        obtain ⟨bX, oX, cc, cs, e1, hbW, hbX, ro, hcl⟩ := rList_at rGOp_lawful (by decide) HX.out k hlt
        simp only [List.cons.injEq, Value.slice.injEq, and_true] at e1
        obtain ⟨rfl, -, -⟩ := e1
        obtain ⟨hszB, hszK⟩ := HSZ.out _ (List.getElem_mem hlt)
        generalize l[k] = op at ro hszB hszK
        obtain ⟨fKind, fAt, fB, fKeep⟩ := op
        obtain ⟨c0, c1, c2, c3, rfl, ⟨rfl, wk⟩, ⟨rfl, wa⟩, rB, rK⟩ := ro
        obtain ⟨aB, cB, rfl, lB, hcB, hfB⟩ := rB
        obtain ⟨aK, cK, rfl, rK⟩ := rList_open rK
        have lK := ints_lies rK
        obtain ⟨D, R, hd, hr, hD, hR, hDR, kk⟩ := hduo
        have x0 := (kk.cell (p := ⟨bX, oX + k * 4 + 0, none⟩) hbX id).trans (hcl 0 _ rfl)
        have x1 := (kk.cell (p := ⟨bX, oX + k * 4 + 1, none⟩) hbX id).trans (hcl 1 _ rfl)
        have x2 := (kk.cell (p := ⟨bX, oX + k * 4 + 2, none⟩) hbX id).trans (hcl 2 _ rfl)
        have x3 := (kk.cell (p := ⟨bX, oX + k * 4 + 3, none⟩) hbX id).trans (hcl 3 _ rfl)
        rw [Nat.add_zero] at x0
        have kA : Keep Nix wr (wr.alloc (.cells #[.int .i64 fKind, .int .i64 fAt, .slice aB fB.length cB, .slice aK fKeep.length cK] 44)) := (Keep.refl Nix wr).alloc _
        have rowO := RowIs.alloc wr #[.int .i64 fKind, .int .i64 fAt, .slice aB fB.length cB, .slice aK fKeep.length cK] 44
        replace hd := hd.keep kA (fun _ _ h => h)
        replace hr := hr.keep kA (fun _ _ h => h)
        have hDO : ∀ b, D b → b < wr.heap.size := fun b hb => (hD b hb).2
        have hRO : ∀ b, R b → b < wr.heap.size := fun b hb => (hR b hb).2
        have hbo : W.heap.size ≤ wr.heap.size := kk.size
        have hW1 : W.heap.size ≤ (wr.alloc (.cells #[.int .i64 fKind, .int .i64 fAt, .slice aB fB.length cB, .slice aK fKeep.length cK] 44)).heap.size := (kk.trans kA).size
        have hszA := kA.size
        replace hD : ∀ b, D b → W.heap.size ≤ b ∧ b < (wr.alloc (.cells #[.int .i64 fKind, .int .i64 fAt, .slice aB fB.length cB, .slice aK fKeep.length cK] 44)).heap.size := fun b hb => ⟨(hD b hb).1, Nat.lt_of_lt_of_le (hD b hb).2 hszA⟩
        replace hR : ∀ b, R b → W.heap.size ≤ b ∧ b < (wr.alloc (.cells #[.int .i64 fKind, .int .i64 fAt, .slice aB fB.length cB, .slice aK fKeep.length cK] 44)).heap.size := fun b hb => ⟨(hR b hb).1, Nat.lt_of_lt_of_le (hR b hb).2 hszA⟩
        replace kk := kk.trans kA
        have ll := Lib.hid lB
        clear hcl hbW kA rK hszA ll
        go_upto_block 2 with fail
        clear x0 x1 x2 x3
        generalize hbO : wr.heap.size = bO at *
        generalize wr.alloc (.cells #[.int .i64 fKind, .int .i64 fAt, .slice aB fB.length cB, .slice aK fKeep.length cK] 44) = w1 at *
        go_cut [5, 10] from 55 to 216 (fun s5 s10 wx => s10 = .bool true ∧ Rnd W n r (k + 1) s5 wx)
        case first =>
          have o0 := rowO.cell 0
          (try simp only [List.getElem?_cons_zero] at o0)
          have o1 := rowO.cell 1
          (try simp only [List.getElem?_cons_succ] at o1); (try simp only [List.getElem?_cons_zero] at o1)
          have o2 := rowO.cell 2
          (try simp only [List.getElem?_cons_succ] at o2); (try simp only [List.getElem?_cons_zero] at o2)
          have o3 := rowO.cell 3
          (try simp only [List.getElem?_cons_succ] at o3); (try simp only [List.getElem?_cons_zero] at o3)
          rcases test_eq fKind 1 with ⟨t1, -⟩ | ⟨t1, -⟩
          · as_aux_lemma =>
            obtain ⟨S, Q, dn, ar⟩ := s
            replace hd : IsDisk w1 D g S Q dn ar := hd
            replace hr : IsRef w1 R r S Q dn ar := hr
            replace ok : DiskOk S Q ar := ok
            replace hQk : Q.length ≤ k := hQk
            have HR0 : Hid (Rnd W n r (k + 1) (.pointer (some ⟨g, 0, none⟩)) w1) :=
              ⟨g, (S, Q, dn, ar), rfl, Duo.mk' hd hr hD hR hDR (Nat.le_refl _) kk, ok, hSn, by show Q.length ≤ _; omega⟩
            obtain ⟨aS, cS, aQ, cQ, rowD, -⟩ := id hd
            obtain ⟨aS', cS', aQ', cQ', rowR, -⟩ := id hr
            cases dn with
            | true =>
              clear hd hr
              go_wp2_with fail
              go_fit (read_down g _ _ _ fAt w1 rowD)
              rintro e w' ⟨rfl, rfl⟩
              go_wp2_with fail
              go_fit (rread_down r _ _ _ fAt w1 rowR)
              rintro e w' ⟨rfl, rfl⟩
              clear rowD rowR
              go_wp2_with fail
              go_fit (bytes_c (p := fun _ => True) (q := fun _ => True) none none 0 0 0 0 [] [] w1 rfl rfl (Lies.nil _ _ _) (Lies.nil _ _ _))
              rintro e w' ⟨rfl, rfl⟩
              rw [show decide (([] : List UInt8) = []) = true from rfl]
              go_wp2_with fail
              go_fit (spoil_nil w1)
              rintro e w' ⟨rfl, rfl⟩
              go_wp2_with fail
              go_meet
              exact ⟨rfl, HR0.out⟩
            | false =>
              by_cases hin : 0 ≤ fAt ∧ fAt < (S.length : Int)
              · obtain ⟨hin0, hin1⟩ := hin
                clear rowD rowR HR0
                have hlen := show_len ok hin0 hin1
                go_wp2_with fail
                go_fit (read_c g S Q ar fAt w1 hd ok (by omega) hin0 hin1)
                rintro e w2 ⟨g6, rfl, hg6, row6, k6⟩
                have o1' := (k6.cell (p := ⟨bO, 1, none⟩) rowO.lt id).trans o1
                go_wp2_with fail
                go_fit (rread_c r S Q ar fAt w2 (hr.keep k6 (fun _ _ h => h)) ok (by omega) hin0 hin1)
                rintro e w3 ⟨a7, c7, rfl, lie7, k7⟩
                replace row6 := row6.keep k7 id
                have k67 := k6.trans k7
                replace hd := hd.keep k67 (fun _ _ h => h)
                replace hr := hr.keep k67 (fun _ _ h => h)
                replace kk := kk.trans k67
                have hs67 := k67.size
                clear k6 k7 k67 o1'
                generalize showF S Q fAt = lS at *
                go_wp2_with fail
                go_fit (bytes_c (some ⟨g6, 0, none⟩) a7 64 64 64 c7 lS lS w3 hlen hlen (row6.lies (fun _ => True) trivial (off := 0) (fun j u hu => by rw [Nat.zero_add]; exact hu)) lie7)
                rintro e w' ⟨rfl, rfl⟩
                rw [show decide (lS = lS) = true from decide_eq_true rfl]
                go_wp2_with fail
                go_fit (spoilT_c _ g6 64 64 (lS.map bv) lS w3 hlen row6 (fun j u h => h) (by decide))
                rintro e w4 ⟨rfl, k8⟩
                have HR : Hid (Rnd W n r (k + 1) (.pointer (some ⟨g, 0, none⟩)) w4) :=
                  ⟨g, (S, Q, false, ar), rfl, Duo.mk' (w1 := w1) (hd.keep k8 (fun b hb e => by have := (hD b hb).2; omega)) (hr.keep k8 (fun b hb e => by have := (hR b hb).2; omega)) hD hR hDR (Nat.le_trans hs67 k8.size) (kk.then k8 (fun i hi e => by have := (hD g (by obtain ⟨_, _, _, _, -, -, -, h, -⟩ := hd; exact h)).1; have := (hD g (by obtain ⟨_, _, _, _, -, -, -, h, -⟩ := hd; exact h)).2; omega)), ok, hSn, by show Q.length ≤ _; omega⟩
                clear hd hr k8 row6 lie7
                go_wp2_with fail
                go_meet
                exact ⟨rfl, HR.out⟩
              · have hout : fAt < 0 ∨ (S.length : Int) ≤ fAt := by omega
                clear hd hr hin
                have HO := Lib.hid hout
                clear hout
                go_wp2_with fail
                go_fit (read_out g _ _ _ _ _ fAt w1 rowD HO.out)
                rintro e w' ⟨rfl, rfl⟩
                go_wp2_with fail
                go_fit (rread_out r _ _ _ _ _ fAt w1 rowR HO.out)
                rintro e w' ⟨rfl, rfl⟩
                clear rowD rowR
                go_wp2_with fail
                go_fit (bytes_c (p := fun _ => True) (q := fun _ => True) none none 0 0 0 0 [] [] w1 rfl rfl (Lies.nil _ _ _) (Lies.nil _ _ _))
                rintro e w' ⟨rfl, rfl⟩
                rw [show decide (([] : List UInt8) = []) = true from rfl]
                go_wp2_with fail
                go_fit (spoil_nil w1)
                rintro e w' ⟨rfl, rfl⟩
                go_wp2_with fail
                go_meet
                exact ⟨rfl, HR0.out⟩
          rcases test_eq fKind 2 with ⟨t2, -⟩ | ⟨t2, -⟩
          · as_aux_lemma =>
            go_wp2_with fail
            go_fit (flush_c g s.1 s.2.1 s.2.2.1 s.2.2.2 w1 hd ok (by omega))
            rintro e w2 ⟨rfl, hd2, k2⟩
            go_wp2_with fail
            go_fit (rflush_c r s.1 s.2.1 s.2.2.1 s.2.2.2 w2 (hr.keep k2 (fun b hb h => hDR b h hb)) ok (by omega))
            rintro e w3 ⟨rfl, hr3, k3⟩
            have HR : Hid (Rnd W n r (k + 1) (.pointer (some ⟨g, 0, none⟩)) w3) := by
              obtain ⟨ok', hl', hq'⟩ := flush_ok ok
              refine ⟨g, (flushF s.1 s.2.1 s.2.2.1 s.2.2.2).2, rfl, Duo.both hd2 k2 hr3 k3 hD hR hDR kk, ok', hl'.trans hSn, by omega⟩
            clear hd2 k2 hr3 k3 hd hr
            generalize (flushF s.1 s.2.1 s.2.2.1 s.2.2.2).1 = fe
            go_wp2_with fail
            go_meet
            exact ⟨rfl, HR.out⟩
          rcases test_eq fKind 3 with ⟨t3, -⟩ | ⟨t3, -⟩
          · as_aux_lemma =>
            obtain ⟨m, hm, hm'⟩ : ∃ m, (if 0 < fAt then fAt else 0) = m ∧ max fAt 0 = m := ⟨_, rfl, by omega⟩
            obtain ⟨hr2, k2, xr, fr⟩ := hr.armed m
            have hra : R r := by
              obtain ⟨_, _, _, _, -, -, -, h, -⟩ := hr
              exact h
            have o1' := (k2.cell (p := ⟨bO, 1, none⟩) rowO.lt (fun h => by have := hRO bO h; omega)).trans o1
            have hfa : fAt ≤ 9223372036854775807 := i64_le wa
            have hma : 0 ≤ m ∧ m ≤ 9223372036854775807 := by omega
            go_wp2_with fail
            have HC := armI g s.1 s.2.1 s.2.2.1 s.2.2.2 fAt _ (hd.keep k2 (fun b hb h => hDR b hb h))
            rw [hm'] at HC
            have HCC := Lib.hid HC
            clear HC
            go_fit HCC.out
            rintro e w3 ⟨rfl, hd3, k3⟩
            have HR : Hid (Rnd W n r (k + 1) (.pointer (some ⟨g, 0, none⟩)) w3) :=
              ⟨g, (s.1, s.2.1, s.2.2.1, m), rfl, Duo.mk' hd3 (hr2.keep k3 (fun b hb h => hDR b h hb)) hD hR hDR (Nat.le_trans k2.size k3.size) ((kk.then k2 (fun i hi h => by have := (hR i h).1; omega)).then k3 (fun i hi h => by have := (hD i h).1; omega)), ⟨ok.s64, ok.q64, ok.n, hma.1, hma.2⟩, hSn, by show s.2.1.length ≤ _; omega⟩
            clear hd3 k2 hr2 k3 hd hr HCC o1' xr fr
            go_wp2_with fail
            go_meet
            exact ⟨rfl, HR.out⟩
          rcases test_eq fKind 4 with ⟨t4, -⟩ | ⟨t4, -⟩
          · as_aux_lemma =>
            obtain ⟨S, Q, dn, ar⟩ := s
            replace hd : IsDisk w1 D g S Q dn ar := hd
            replace hr : IsRef w1 R r S Q dn ar := hr
            replace ok : DiskOk S Q ar := ok
            replace hQk : Q.length ≤ k := hQk
            replace hSn : S.length = n := hSn
            have lK1 : Lies w1 (· < W.heap.size) aK (fKeep.map iv) := lK.keep kk (fun _ _ h => h)
            replace hszK : fKeep.length ≤ 1048576 := hszK
            have hR1 : ∀ b, b < W.heap.size → ¬ R b := fun b hb h => by have := (hR b h).1; omega
            have hD1 : ∀ b, b < W.heap.size → ¬ D b := fun b hb h => by have := (hD b h).1; omega
            go_wp2_with fail
            go_fit (ownI_c aK fKeep.length cK fKeep 71 w1 rfl lK1 hszK)
            rintro e w2 ⟨bI, rfl, hbI, rowI, k2⟩
            have o3' := (k2.cell (p := ⟨bO, 3, none⟩) rowO.lt id).trans o3
            replace hd := hd.keep k2 (fun _ _ h => h)
            replace hr := hr.keep k2 (fun _ _ h => h)
            have lK2 := lK1.keep k2 (fun _ _ h => h)
            have rowO2 := rowO.keep k2 id
            replace kk := kk.trans k2
            have hs2 := k2.size
            have hbI2 := rowI.lt
            have hOI := rowO.lt
            clear k2 lK1 rowO
            go_wp2_with fail
            go_fit (rcrash_c (q := (· < W.heap.size)) r S Q dn ar aK cK fKeep w2 hr ok (by omega) lK2 hR1 (by omega))
            rintro e w3 ⟨rfl, hr3, k3⟩
            have hIR : ¬ R bI := fun h => by have := (hR bI h).2; omega
            have hID : ¬ D bI := fun h => by have := (hD bI h).2; omega
            have hOR : ¬ R bO := fun h => by have := hRO bO h; omega
            have hOD : ¬ D bO := fun h => by have := hDO bO h; omega
            have rowI3 := rowI.keep k3 hIR
            have rowO3 := rowO2.keep k3 hOR
            have lK3 := lK2.keep k3 hR1
            replace hd := hd.keep k3 (fun b hb h => hDR b hb h)
            replace hr3 := hr3.tight
            have kk3 := kk.then k3 (fun i hi h => hR1 i hi h)
            have hs3 := k3.size
            have lI3 := rowI3.lies (fun b => b = bI) rfl (xs := fKeep.map (Value.int .i64)) (off := 0) (fun j u hu => by
              rw [Nat.zero_add, List.map_append, List.getElem?_append_left (by have := (List.getElem?_eq_some_iff.1 hu).1; simpa using this)]; exact hu)
            clear k3 rowI rowO2 lK2 kk o3'
            go_wp2_with fail
            go_fit (crash_c (q := fun b => b = bI) g S Q dn ar (some ⟨bI, 0, none⟩) (fKeep.length + 3) fKeep w3 hd ok (by omega) lI3 (fun b hb h => hID (hb ▸ h)) (by omega))
            rintro e w4 ⟨rfl, hd4, k4⟩
            replace hd4 : IsDisk w4 (fun b => D b ∨ w3.heap.size ≤ b) g (fallF S Q fKeep Q.length) [] true ar := hd4
            have rowI4 := rowI3.keep k4 hID
            have rowO4 := rowO3.keep k4 hOD
            have lK4 := lK3.keep k4 hD1
            have hr4 := hr3.keep k4 (fun b hb h => by rcases hb.1 with h' | h'; exact hDR b h h'; have := (hD b h).2; omega)
            have kk4 := kk3.then k4 (fun i hi h => hD1 i hi h)
            have hs4 := k4.size
            have p3 := rowO4.cell 3
            (try simp only [List.getElem?_cons_succ] at p3); (try simp only [List.getElem?_cons_zero] at p3)
            have hfl : (fallF S Q fKeep Q.length).length = n := by rw [fall_len]; exact hSn
            have okF : DiskOk (fallF S Q fKeep Q.length) [] ar := ⟨fall_64 ok fKeep _ (Nat.le_refl _), fun q hq => (List.not_mem_nil hq).elim, by rw [fall_len]; exact ok.n, ok.a0, ok.a1⟩
            have hDuo : Duo W w4 g r (fallF S Q fKeep Q.length, [], true, ar) (fallF S Q fKeep Q.length, [], true, ar) :=
              ⟨_, _, hd4.tight, hr4, fun b hb => ⟨by rcases hb.1 with h | h; exact (hD b h).1; omega, hb.2⟩, fun b hb => ⟨by rcases hb.1 with h | h; exact (hR b h).1; omega, by have := hb.2; omega⟩, fun b hb h => by
                rcases hb.1 with h1 | h1
                · rcases h.1 with h2 | h2
                  · exact hDR b h1 h2
                  · have := (hD b h1).2; omega
                · have := h.2; omega, kk4⟩
            clear k4 hr3 hd4 hr4 hd rowI3 rowO3 lK3 lI3 kk3 rowO4
            go_wp2_with fail
            go_fit (keptI_c bI aK fKeep.length cK fKeep 71 w4 rfl lK4 hszK rowI4)
            rintro e w5 ⟨rfl, k5⟩
            have HR : Hid (Rnd W n r (k + 1) (.pointer (some ⟨g, 0, none⟩)) w5) := ⟨g, _, rfl, hDuo.nix k5, okF, hfl, Nat.zero_le _⟩
            clear hDuo k5 rowI4 lK4 p3
            go_wp2_with fail
            go_meet
            exact ⟨rfl, HR.out⟩
          rcases test_eq fKind 5 with ⟨t5, -⟩ | ⟨t5, -⟩
          · as_aux_lemma =>
            go_wp2_with fail
            go_fit (rstartI r s.1 s.2.1 s.2.2.1 s.2.2.2 w1 hr)
            rintro e w2 ⟨rfl, hr2, k2⟩
            go_wp2_with fail
            go_fit (startI g s.1 s.2.1 s.2.2.1 s.2.2.2 w2 (hd.keep k2 (fun b hb h => hDR b hb h)))
            rintro e w3 ⟨rfl, hd3, k3⟩
            have HR : Hid (Rnd W n r (k + 1) (.pointer (some ⟨g, 0, none⟩)) w3) :=
              ⟨g, (s.1, if s.2.2.1 then [] else s.2.1, false, 0), rfl, Duo.mk' hd3 (hr2.keep k3 (fun b hb h => hDR b h hb)) hD hR hDR (Nat.le_trans k2.size k3.size) ((kk.then k2 (fun i hi h => by have := (hR i h).1; omega)).then k3 (fun i hi h => by have := (hD i h).1; omega)), start_ok ok s.2.2.1, hSn, by show (if s.2.2.1 then [] else s.2.1).length ≤ _; split; exact Nat.zero_le _; omega⟩
            clear hd3 k2 hr2 k3 hd hr
            go_wp2_with fail
            go_meet
            exact ⟨rfl, HR.out⟩
          rcases test_eq fKind 6 with ⟨t6, -⟩ | ⟨t6, -⟩
          · as_aux_lemma =>
            obtain ⟨S, Q, dn, ar⟩ := s
            replace hd : IsDisk w1 D g S Q dn ar := hd
            replace hr : IsRef w1 R r S Q dn ar := hr
            replace ok : DiskOk S Q ar := ok
            replace hQk : Q.length ≤ k := hQk
            replace hSn : S.length = n := hSn
            go_wp2_with fail
            go_fit (fork_c g S Q dn ar w1 hd ok (by omega))
            rintro e w2 ⟨gF, rfl, hF, k2⟩
            replace hF := hF.tight
            replace hd := hd.keep k2 (fun _ _ h => h)
            replace hr := hr.keep k2 (fun _ _ h => h)
            have hs2 := k2.size
            have row9 := RowIs.alloc w2 #[.int .u8 9] 5
            have k9 : Keep Nix w2 (w2.alloc (.cells #[.int .u8 9] 5)) := (Keep.refl Nix w2).alloc _
            have hs9 := k9.size
            go_wp2_with fail
            go_fit (sector_c (p := fun b => b = w2.heap.size) (some ⟨w2.heap.size, 0, none⟩) 1 [9] _ (row9.lies (fun b => b = w2.heap.size) rfl (xs := [9].map bv) (off := 0) (fun j u hu => by rw [Nat.zero_add]; exact hu)) (by decide))
            rintro e w3 ⟨rfl, rowB, k3⟩
            have k23 := k9.trans k3
            replace hF := hF.keep k23 (fun _ _ h => h)
            replace hd := hd.keep k23 (fun _ _ h => h)
            replace hr := hr.keep k23 (fun _ _ h => h)
            replace kk := (kk.trans k2).trans k23
            have hs3 := k3.size
            clear row9 k9 k3 k23 k2
            generalize (w2.alloc (.cells #[.int .u8 9] 5)).heap.size = B2 at *
            have HC := write_c (q := fun b => b = B2) g S Q dn ar 0 (some ⟨B2, 0, none⟩) 64 (secF [9]) w3 hd ok (by omega) (rowB.lies (fun b => b = B2) rfl (xs := (secF [9]).map bv) (off := 0) (fun j u hu => by rw [Nat.zero_add]; exact hu)) (fun b hb h => by have := (hD b h).2; omega) (by rw [secF_len]; decide) (by decide)
            rw [secF_len] at HC
            have HCC := Lib.hid HC
            clear HC
            obtain ⟨ok4, hq4⟩ := write_okF ok dn 0 (secF [9])
            go_wp2_with fail
            go_fit HCC.out
            rintro e w4 ⟨rfl, hd4, k4⟩
            replace hF := hF.keep k4 (fun b hb h => by have := hb.1; have := (hD b h).2; omega)
            replace hr := hr.keep k4 (fun b hb h => hDR b h hb)
            replace kk := kk.then k4 (fun i hi h => by have := (hD i h).1; omega)
            have hs4 := k4.size
            clear HCC k4 rowB hd
            go_wp2_with fail
            go_fit (flush_c g S _ _ _ w4 hd4 ok4 (by omega))
            rintro e w5 ⟨rfl, hd5, k5⟩
            replace hF := hF.keep k5 (fun b hb h => by have := hb.1; have := hb.2; rcases h with h | h; have := (hD b h).2; omega; omega)
            replace hr := hr.keep k5 (fun b hb h => by rcases h with h | h; exact hDR b h hb; have := (hR b hb).2; omega)
            have hs5 := k5.size
            have hsW := kk.size
            have HR : Hid (Rnd W n r (k + 1) (.pointer (some ⟨gF, 0, none⟩)) w5) :=
              ⟨gF, (S, Q, dn, ar), rfl, ⟨_, R, hF, hr, fun b hb => ⟨by have := hb.1; have := hW1; omega, by have := hb.2; omega⟩, fun b hb => ⟨(hR b hb).1, by have := (hR b hb).2; omega⟩, fun b hb h => by have := hb.1; have := (hR b h).2; omega, kk.then k5 (fun i hi h => by rcases h with h | h; have := (hD i h).1; omega; omega)⟩, ok, hSn, by show Q.length ≤ _; omega⟩
            clear hd4 hd5 k5 hF hr
            go_wp2_with fail
            go_meet
            exact ⟨rfl, HR.out⟩
          · as_aux_lemma =>
            obtain ⟨S, Q, dn, ar⟩ := s
            replace hd : IsDisk w1 D g S Q dn ar := hd
            replace hr : IsRef w1 R r S Q dn ar := hr
            replace ok : DiskOk S Q ar := ok
            replace hQk : Q.length ≤ k := hQk
            replace hSn : S.length = n := hSn
            replace hszB : fB.length ≤ 1048576 := hszB
            have lB1 := lB.keep kk (fun _ _ h => h)
            have hR1 : ∀ b, b < W.heap.size → ¬ R b := fun b hb h => by have := (hR b h).1; omega
            have hD1 : ∀ b, b < W.heap.size → ¬ D b := fun b hb h => by have := (hD b h).1; omega
            have hRS : ∀ b, b = w1.heap.size → ¬ R b := fun b hb h => by have := (hR b h).2; omega
            have hDS : ∀ b, b = w1.heap.size → ¬ D b := fun b hb h => by have := (hD b h).2; omega
            go_wp2_with fail
            go_fit (sector_c (p := (· < W.heap.size)) aB cB fB w1 lB1 (by omega))
            rintro e w2 ⟨rfl, row17, k2⟩
            have lS17 := row17.lies (fun b => b = w1.heap.size) rfl (xs := (secF fB).map bv) (off := 0) (fun j u hu => by rw [Nat.zero_add]; exact hu)
            have hs2 := k2.size
            have hSlt := row17.lt
            replace hd := hd.keep k2 (fun _ _ h => h)
            replace hr := hr.keep k2 (fun _ _ h => h)
            have lB2 := lB1.keep k2 (fun _ _ h => h)
            replace rowO := rowO.keep k2 id
            replace kk := kk.trans k2
            clear o0 o1 o2 o3 row17 lB1 k2
            have o0 := rowO.cell 0
            (try simp only [List.getElem?_cons_zero] at o0)
            have o1 := rowO.cell 1
            (try simp only [List.getElem?_cons_succ] at o1); (try simp only [List.getElem?_cons_zero] at o1)
            have o2 := rowO.cell 2
            (try simp only [List.getElem?_cons_succ] at o2); (try simp only [List.getElem?_cons_zero] at o2)
            have o3 := rowO.cell 3
            (try simp only [List.getElem?_cons_succ] at o3); (try simp only [List.getElem?_cons_zero] at o3)
            rcases test_eq fKind 7 with ⟨t7, -⟩ | ⟨t7, -⟩
            · rcases Nat.lt_or_ge fB.length 200 with h200 | h200
              · have h200' : (fB.length : Int) < 200 := by omega
                go_wp2_with fail
                go_fit (ownB_c aB fB.length cB (fB) 71 w2 (rfl : fB.length = fB.length) lB2 (by omega))
                rintro e w3 ⟨bI, rfl, hbI, rowI, k3⟩
                replace hd := hd.keep k3 (fun _ _ h => h)
                replace hr := hr.keep k3 (fun _ _ h => h)
                have lA3 := lB2.keep k3 (fun _ _ h => h)
                replace rowO := rowO.keep k3 id
                replace kk := kk.trans k3
                have hbI3 := rowI.lt
                have hs3 := k3.size
                have hIR : ¬ R bI := fun h => by have := (hR bI h).2; omega
                have hID : ¬ D bI := fun h => by have := (hD bI h).2; omega
                have hOI := rowO.lt
                have hOR : ¬ R bO := fun h => by have := hRO bO h; omega
                have hOD : ¬ D bO := fun h => by have := hDO bO h; omega
                clear k3
                go_upto_region 17 with fail
                have kD : Keep Nix w3 w3.drew := (Keep.refl Nix w3).drew
                replace hd := hd.keep kD (fun _ _ h => h)
                replace hr := hr.keep kD (fun _ _ h => h)
                replace lA3 := lA3.keep kD (fun _ _ h => h)
                replace rowO := rowO.keep kD id
                replace rowI := rowI.keep kD id
                replace kk := kk.trans kD
                clear o0 o1 o2 o3
                have z1 := rowO.cell 1
                (try simp only [List.getElem?_cons_succ] at z1); (try simp only [List.getElem?_cons_zero] at z1)
                refine wp_region_held_drew (S := (fun w' => w'.cell? ⟨bO, 1, none⟩ = some (.int .i64 fAt))) (by kernel_rfl) (z1) (fun hHeld => ?_)
                have hsD := kD.size
                generalize w3.drew = wd at *
                clear kD
                refine wpAnyH_take (i := 0) (v := ?_) rfl (by kernel_rfl) (by kernel_rfl) (by kernel_rfl) (fun _ _ _ h => h) (Or.inl ⟨by kernel_rfl, ?_⟩) hHeld ?_
                rotate_left
                · intro w' hSw
                  (try dsimp only at hSw)
                  (try simp only [List.getElem_toArray]); (try simp only [List.getElem_cons_succ]); (try simp only [List.getElem_cons_zero])
                  go_simp
                  try with_reducible rfl
                (try simp only [Act.put]); (try simp only [List.getElem_toArray]); (try simp only [List.getElem_cons_succ]); (try simp only [List.getElem_cons_zero]); (try simp only [List.setIfInBounds_toArray]); (try simp only [List.set_cons_succ]); (try simp only [List.set_cons_zero])
                refine wpAnyH_take (i := 1) (v := ?_) rfl (by kernel_rfl) (by kernel_rfl) (by kernel_rfl) (fun _ _ _ h => h) (Or.inl ⟨by kernel_rfl, ?_⟩) hHeld ?_
                rotate_left
                · intro w' hSw
                  (try dsimp only at hSw)
                  (try simp only [List.getElem_toArray]); (try simp only [List.getElem_cons_succ]); (try simp only [List.getElem_cons_zero])
                  go_simp
                  try with_reducible rfl
                (try simp only [Act.put]); (try simp only [List.getElem_toArray]); (try simp only [List.getElem_cons_succ]); (try simp only [List.getElem_cons_zero]); (try simp only [List.setIfInBounds_toArray]); (try simp only [List.set_cons_succ]); (try simp only [List.set_cons_zero])
                refine wpAnyH_take (i := 2) (v := ?_) rfl (by kernel_rfl) (by kernel_rfl) (by kernel_rfl) (fun _ _ _ h => h) (Or.inl ⟨by kernel_rfl, ?_⟩) hHeld ?_
                rotate_left
                · intro w' hSw
                  (try dsimp only at hSw)
                  (try simp only [List.getElem_toArray]); (try simp only [List.getElem_cons_succ]); (try simp only [List.getElem_cons_zero])
                  go_simp
                  try with_reducible rfl
                (try simp only [Act.put]); (try simp only [List.getElem_toArray]); (try simp only [List.getElem_cons_succ]); (try simp only [List.getElem_cons_zero]); (try simp only [List.setIfInBounds_toArray]); (try simp only [List.set_cons_succ]); (try simp only [List.set_cons_zero])
                refine wpAnyH_take (i := 3) (v := ?_) rfl (by kernel_rfl) (by kernel_rfl) (by kernel_rfl) (fun _ _ _ h => h) (Or.inl ⟨by kernel_rfl, ?_⟩) hHeld ?_
                rotate_left
                · intro w' hSw
                  (try dsimp only at hSw)
                  (try simp only [List.getElem_toArray]); (try simp only [List.getElem_cons_succ]); (try simp only [List.getElem_cons_zero])
                  go_simp
                  try with_reducible rfl
                (try simp only [Act.put]); (try simp only [List.getElem_toArray]); (try simp only [List.getElem_cons_succ]); (try simp only [List.getElem_cons_zero]); (try simp only [List.setIfInBounds_toArray]); (try simp only [List.set_cons_succ]); (try simp only [List.set_cons_zero])
                refine wpAnyH_take (i := 5) (v := ?_) rfl (by kernel_rfl) (by kernel_rfl) (by kernel_rfl) (fun _ _ _ h => h) (Or.inl ⟨by kernel_rfl, ?_⟩) hHeld ?_
                rotate_left
                · intro w' hSw
                  (try dsimp only at hSw)
                  (try simp only [List.getElem_toArray]); (try simp only [List.getElem_cons_succ]); (try simp only [List.getElem_cons_zero])
                  go_simp
                  try with_reducible rfl
                (try simp only [Act.put]); (try simp only [List.getElem_toArray]); (try simp only [List.getElem_cons_succ]); (try simp only [List.getElem_cons_zero]); (try simp only [List.setIfInBounds_toArray]); (try simp only [List.set_cons_succ]); (try simp only [List.set_cons_zero])
                refine wpAnyH_take (i := 6) (v := ?_) rfl (by kernel_rfl) (by kernel_rfl) (by kernel_rfl) (fun _ _ _ h => h) (Or.inl ⟨by kernel_rfl, ?_⟩) hHeld ?_
                rotate_left
                · intro w' hSw
                  (try dsimp only at hSw)
                  (try simp only [List.getElem_toArray]); (try simp only [List.getElem_cons_succ]); (try simp only [List.getElem_cons_zero])
                  go_simp
                  try with_reducible rfl
                (try simp only [Act.put]); (try simp only [List.getElem_toArray]); (try simp only [List.getElem_cons_succ]); (try simp only [List.getElem_cons_zero]); (try simp only [List.setIfInBounds_toArray]); (try simp only [List.set_cons_succ]); (try simp only [List.set_cons_zero])
                refine wpAnyH_take (i := 7) (v := ?_) rfl (by kernel_rfl) (by kernel_rfl) (by kernel_rfl) (fun _ _ _ h => h) (Or.inl ⟨by kernel_rfl, ?_⟩) hHeld ?_
                rotate_left
                · intro w' hSw
                  (try dsimp only at hSw)
                  (try simp only [List.getElem_toArray]); (try simp only [List.getElem_cons_succ]); (try simp only [List.getElem_cons_zero])
                  go_simp
                  try with_reducible rfl
                (try simp only [Act.put]); (try simp only [List.getElem_toArray]); (try simp only [List.getElem_cons_succ]); (try simp only [List.getElem_cons_zero]); (try simp only [List.setIfInBounds_toArray]); (try simp only [List.set_cons_succ]); (try simp only [List.set_cons_zero])
                refine wpAnyH_take (i := 8) (v := ?_) rfl (by kernel_rfl) (by kernel_rfl) (by kernel_rfl) (fun _ _ _ h => h) (Or.inl ⟨by kernel_rfl, ?_⟩) hHeld ?_
                rotate_left
                · intro w' hSw
                  (try dsimp only at hSw)
                  (try simp only [List.getElem_toArray]); (try simp only [List.getElem_cons_succ]); (try simp only [List.getElem_cons_zero])
                  go_simp
                  try with_reducible rfl
                (try simp only [Act.put]); (try simp only [List.getElem_toArray]); (try simp only [List.getElem_cons_succ]); (try simp only [List.getElem_cons_zero]); (try simp only [List.setIfInBounds_toArray]); (try simp only [List.set_cons_succ]); (try simp only [List.set_cons_zero])
                have lI := rowI.lies (fun b => b = bI) rfl (xs := (fB).map bv) (off := 0) (fun j u hu => by
                  rw [Nat.zero_add, List.map_append, List.getElem?_append_left (List.getElem?_eq_some_iff.1 hu).1]; exact hu)
                have HC := write_c (q := fun b => b = bI) g S Q dn ar fAt (some ⟨bI, 0, none⟩) (fB.length + 3) (fB) wd hd ok (by omega) lI (fun b hb h => hID (hb ▸ h)) (by have := (rfl : fB.length = fB.length); omega) (by omega)
                skip
                have HCC := Lib.hid HC
                clear HC
                obtain ⟨ok4, hq4⟩ := write_okF ok dn fAt (fB)
                refine wpAnyH_ready (rs := [4]) (by kernel_rfl) (by simp) ?_
                refine AllReadyH.cons rfl (fun K hK => ?_) AllReadyH.nil
                go_simp
                go_fit HCC.out
                rintro e w4 ⟨rfl, hd4, k4⟩
                clear HCC
                replace hr := hr.keep k4 (fun b hb h => hDR b h hb)
                replace lA3 := lA3.keep k4 hD1
                replace rowO := rowO.keep k4 hOD
                replace rowI := rowI.keep k4 hID
                have kk4 := kk.then k4 (fun i hi h => by have := (hD i h).1; omega)
                have hs4 := k4.size
                clear z1
                have z1 := rowO.cell 1
                (try simp only [List.getElem?_cons_succ] at z1); (try simp only [List.getElem?_cons_zero] at z1)
                go_wp2_with fail
                refine hK.out _ _ (z1) (fun hHeld => ?_)
                clear hK K
                (try simp only [Act.put]); (try simp only [List.getElem_toArray]); (try simp only [List.getElem_cons_succ]); (try simp only [List.getElem_cons_zero]); (try simp only [List.setIfInBounds_toArray]); (try simp only [List.set_cons_succ]); (try simp only [List.set_cons_zero])
                have HC := rwrite_c (q := (· < W.heap.size)) r S Q dn ar fAt aB cB (fB) w4 hr ok (by omega) lA3 hR1 (by have := (rfl : fB.length = fB.length); omega)
                skip
                have HCC := Lib.hid HC
                clear HC
                refine wpAnyH_ready (rs := [9]) (by kernel_rfl) (by simp) ?_
                refine AllReadyH.cons rfl (fun K hK => ?_) AllReadyH.nil
                go_simp
                go_fit HCC.out
                rintro e w5 ⟨rfl, hr5, k5⟩
                clear HCC
                have hduo := DuoX.both (x := bI) (s := (S, (writeF S Q dn ar fAt (fB)).2)) (t := (S, (writeF S Q dn ar fAt (fB)).2)) hd4 k4 hr5 k5 (fun b hb => ⟨(hD b hb).1, by have := (hD b hb).2; omega⟩) (fun b hb => ⟨(hR b hb).1, by have := (hR b hb).2; omega⟩) hDR kk (by omega) hID hIR
                replace lA3 := lA3.keep k5 hR1
                replace rowO := rowO.keep k5 hOR
                replace rowI := rowI.keep k5 hIR
                have hs5 := k5.size
                clear z1 k4 k5 hd4 hr5 hd hr
                generalize (writeF S Q dn ar fAt (fB)).1 = we
                have z1 := rowO.cell 1
                (try simp only [List.getElem?_cons_succ] at z1); (try simp only [List.getElem?_cons_zero] at z1)
                go_wp2_with fail
                refine hK.out _ _ (z1) (fun hHeld => ?_)
                clear hK K
                (try simp only [Act.put]); (try simp only [List.getElem_toArray]); (try simp only [List.getElem_cons_succ]); (try simp only [List.getElem_cons_zero]); (try simp only [List.setIfInBounds_toArray]); (try simp only [List.set_cons_succ]); (try simp only [List.set_cons_zero])
                refine wpAnyH_take (i := 10) (v := ?_) rfl (by kernel_rfl) (by kernel_rfl) (by kernel_rfl) (fun _ _ _ h => h) (Or.inl ⟨by kernel_rfl, ?_⟩) hHeld ?_
                rotate_left
                · intro w' hSw
                  (try dsimp only at hSw)
                  (try simp only [List.getElem_toArray]); (try simp only [List.getElem_cons_succ]); (try simp only [List.getElem_cons_zero])
                  go_simp
                  try with_reducible rfl
                (try simp only [Act.put]); (try simp only [List.getElem_toArray]); (try simp only [List.getElem_cons_succ]); (try simp only [List.getElem_cons_zero]); (try simp only [List.setIfInBounds_toArray]); (try simp only [List.set_cons_succ]); (try simp only [List.set_cons_zero])
                refine wpAnyH_take (i := 11) (v := ?_) rfl (by kernel_rfl) (by kernel_rfl) (by kernel_rfl) (fun _ _ _ h => h) (Or.inl ⟨by kernel_rfl, ?_⟩) hHeld ?_
                rotate_left
                · intro w' hSw
                  (try dsimp only at hSw)
                  (try simp only [List.getElem_toArray]); (try simp only [List.getElem_cons_succ]); (try simp only [List.getElem_cons_zero])
                  go_simp
                  try with_reducible rfl
                (try simp only [Act.put]); (try simp only [List.getElem_toArray]); (try simp only [List.getElem_cons_succ]); (try simp only [List.getElem_cons_zero]); (try simp only [List.setIfInBounds_toArray]); (try simp only [List.set_cons_succ]); (try simp only [List.set_cons_zero])
                refine wpAnyH_take (i := 12) (v := ?_) rfl (by kernel_rfl) (by kernel_rfl) (by kernel_rfl) (fun _ _ _ h => h) (Or.inl ⟨by kernel_rfl, ?_⟩) hHeld ?_
                rotate_left
                · intro w' hSw
                  (try dsimp only at hSw)
                  (try simp only [List.getElem_toArray]); (try simp only [List.getElem_cons_succ]); (try simp only [List.getElem_cons_zero])
                  go_simp
                  try with_reducible rfl
                (try simp only [Act.put]); (try simp only [List.getElem_toArray]); (try simp only [List.getElem_cons_succ]); (try simp only [List.getElem_cons_zero]); (try simp only [List.setIfInBounds_toArray]); (try simp only [List.set_cons_succ]); (try simp only [List.set_cons_zero])
                refine wpAnyH_take (i := 13) (v := ?_) rfl (by kernel_rfl) (by kernel_rfl) (by kernel_rfl) (fun _ _ _ h => h) (Or.inl ⟨by kernel_rfl, ?_⟩) hHeld ?_
                rotate_left
                · intro w' hSw
                  (try dsimp only at hSw)
                  (try simp only [List.getElem_toArray]); (try simp only [List.getElem_cons_succ]); (try simp only [List.getElem_cons_zero])
                  go_simp
                  try with_reducible rfl
                (try simp only [Act.put]); (try simp only [List.getElem_toArray]); (try simp only [List.getElem_cons_succ]); (try simp only [List.getElem_cons_zero]); (try simp only [List.setIfInBounds_toArray]); (try simp only [List.set_cons_succ]); (try simp only [List.set_cons_zero])
                refine wpAnyH_ready (rs := [14]) (by kernel_rfl) (by simp) ?_
                refine AllReadyH.cons rfl (fun K hK => ?_) AllReadyH.nil
                rw [if_pos (by kernel_rfl)]
                go_simp
                go_fit (keptB_c bI aB fB.length cB (fB) 71 w5 (rfl : fB.length = fB.length) lA3 (by omega) rowI)
                rintro e w6 ⟨rfl, k6⟩
                replace hduo := hduo.nix k6
                replace rowI := rowI.keep k6 id
                replace rowO := rowO.keep k6 id
                clear z1 lA3
                have z1 := rowO.cell 1
                (try simp only [List.getElem?_cons_succ] at z1); (try simp only [List.getElem?_cons_zero] at z1)
                go_wp2_with fail
                refine hK.out _ _ (z1) (fun hHeld => ?_)
                clear hK K
                (try simp only [Act.put]); (try simp only [List.getElem_toArray]); (try simp only [List.getElem_cons_succ]); (try simp only [List.getElem_cons_zero]); (try simp only [List.setIfInBounds_toArray]); (try simp only [List.set_cons_succ]); (try simp only [List.set_cons_zero])
                refine wpAnyH_take (i := 15) (v := ?_) rfl (by kernel_rfl) (by kernel_rfl) (by kernel_rfl) (fun _ _ _ h => h) (Or.inl ⟨by kernel_rfl, ?_⟩) hHeld ?_
                rotate_left
                · intro w' hSw
                  (try dsimp only at hSw)
                  (try simp only [List.getElem_toArray]); (try simp only [List.getElem_cons_succ]); (try simp only [List.getElem_cons_zero])
                  go_simp
                  try with_reducible rfl
                (try simp only [Act.put]); (try simp only [List.getElem_toArray]); (try simp only [List.getElem_cons_succ]); (try simp only [List.getElem_cons_zero]); (try simp only [List.setIfInBounds_toArray]); (try simp only [List.set_cons_succ]); (try simp only [List.set_cons_zero])
                refine wpAnyH_take (i := 16) (v := ?_) rfl (by kernel_rfl) (by kernel_rfl) (by kernel_rfl) (fun _ _ _ h => h) (Or.inl ⟨by kernel_rfl, ?_⟩) hHeld ?_
                rotate_left
                · intro w' hSw
                  (try dsimp only at hSw)
                  (try simp only [List.getElem_toArray]); (try simp only [List.getElem_cons_succ]); (try simp only [List.getElem_cons_zero])
                  go_simp
                  try with_reducible rfl
                (try simp only [Act.put]); (try simp only [List.getElem_toArray]); (try simp only [List.getElem_cons_succ]); (try simp only [List.getElem_cons_zero]); (try simp only [List.setIfInBounds_toArray]); (try simp only [List.set_cons_succ]); (try simp only [List.set_cons_zero])
                refine wpAnyH_done (by kernel_rfl) ?_ _
                clear hHeld z1
                go_wp2_with fail
                go_fit (spoil_c bI fB.length (fB.length + 3) (((fB) ++ [71, 71, 71]).map bv) (fB) w6 (rfl : fB.length = fB.length) rowI (fun j u hu => by
                  rw [List.map_append, List.getElem?_append_left (List.getElem?_eq_some_iff.1 hu).1]; exact hu) (by unfold maxLen; omega))
                rintro e w7 ⟨rfl, k7⟩
                have HR : Hid (Rnd W n r (k + 1) (.pointer (some ⟨g, 0, none⟩)) w7) := ⟨g, _, rfl, hduo.store k7 (by omega), ok4, hSn, by show (writeF S Q dn ar fAt (fB)).2.1.length ≤ _; omega⟩
                clear hduo k7 rowI rowO
                go_wp2_with fail
                go_meet
                exact ⟨rfl, HR.out⟩
              · have h200' : (200 : Int) ≤ (fB.length : Int) := by omega
                go_wp2_with fail
                go_fit (ownB_c (some ⟨w1.heap.size, 0, none⟩) 64 64 (secF fB) 71 w2 (secF_len fB) lS17 (by omega))
                rintro e w3 ⟨bI, rfl, hbI, rowI, k3⟩
                replace hd := hd.keep k3 (fun _ _ h => h)
                replace hr := hr.keep k3 (fun _ _ h => h)
                have lA3 := lS17.keep k3 (fun _ _ h => h)
                replace rowO := rowO.keep k3 id
                replace kk := kk.trans k3
                have hbI3 := rowI.lt
                have hs3 := k3.size
                have hIR : ¬ R bI := fun h => by have := (hR bI h).2; omega
                have hID : ¬ D bI := fun h => by have := (hD bI h).2; omega
                have hOI := rowO.lt
                have hOR : ¬ R bO := fun h => by have := hRO bO h; omega
                have hOD : ¬ D bO := fun h => by have := hDO bO h; omega
                clear k3
                go_upto_region 17 with fail
                have kD : Keep Nix w3 w3.drew := (Keep.refl Nix w3).drew
                replace hd := hd.keep kD (fun _ _ h => h)
                replace hr := hr.keep kD (fun _ _ h => h)
                replace lA3 := lA3.keep kD (fun _ _ h => h)
                replace rowO := rowO.keep kD id
                replace rowI := rowI.keep kD id
                replace kk := kk.trans kD
                clear o0 o1 o2 o3
                have z1 := rowO.cell 1
                (try simp only [List.getElem?_cons_succ] at z1); (try simp only [List.getElem?_cons_zero] at z1)
                refine wp_region_held_drew (S := (fun w' => w'.cell? ⟨bO, 1, none⟩ = some (.int .i64 fAt))) (by kernel_rfl) (z1) (fun hHeld => ?_)
                have hsD := kD.size
                generalize w3.drew = wd at *
                clear kD
                refine wpAnyH_take (i := 0) (v := ?_) rfl (by kernel_rfl) (by kernel_rfl) (by kernel_rfl) (fun _ _ _ h => h) (Or.inl ⟨by kernel_rfl, ?_⟩) hHeld ?_
                rotate_left
                · intro w' hSw
                  (try dsimp only at hSw)
                  (try simp only [List.getElem_toArray]); (try simp only [List.getElem_cons_succ]); (try simp only [List.getElem_cons_zero])
                  go_simp
                  try with_reducible rfl
                (try simp only [Act.put]); (try simp only [List.getElem_toArray]); (try simp only [List.getElem_cons_succ]); (try simp only [List.getElem_cons_zero]); (try simp only [List.setIfInBounds_toArray]); (try simp only [List.set_cons_succ]); (try simp only [List.set_cons_zero])
                refine wpAnyH_take (i := 1) (v := ?_) rfl (by kernel_rfl) (by kernel_rfl) (by kernel_rfl) (fun _ _ _ h => h) (Or.inl ⟨by kernel_rfl, ?_⟩) hHeld ?_
                rotate_left
                · intro w' hSw
                  (try dsimp only at hSw)
                  (try simp only [List.getElem_toArray]); (try simp only [List.getElem_cons_succ]); (try simp only [List.getElem_cons_zero])
                  go_simp
                  try with_reducible rfl
                (try simp only [Act.put]); (try simp only [List.getElem_toArray]); (try simp only [List.getElem_cons_succ]); (try simp only [List.getElem_cons_zero]); (try simp only [List.setIfInBounds_toArray]); (try simp only [List.set_cons_succ]); (try simp only [List.set_cons_zero])
                refine wpAnyH_take (i := 2) (v := ?_) rfl (by kernel_rfl) (by kernel_rfl) (by kernel_rfl) (fun _ _ _ h => h) (Or.inl ⟨by kernel_rfl, ?_⟩) hHeld ?_
                rotate_left
                · intro w' hSw
                  (try dsimp only at hSw)
                  (try simp only [List.getElem_toArray]); (try simp only [List.getElem_cons_succ]); (try simp only [List.getElem_cons_zero])
                  go_simp
                  try with_reducible rfl
                (try simp only [Act.put]); (try simp only [List.getElem_toArray]); (try simp only [List.getElem_cons_succ]); (try simp only [List.getElem_cons_zero]); (try simp only [List.setIfInBounds_toArray]); (try simp only [List.set_cons_succ]); (try simp only [List.set_cons_zero])
                refine wpAnyH_take (i := 3) (v := ?_) rfl (by kernel_rfl) (by kernel_rfl) (by kernel_rfl) (fun _ _ _ h => h) (Or.inl ⟨by kernel_rfl, ?_⟩) hHeld ?_
                rotate_left
                · intro w' hSw
                  (try dsimp only at hSw)
                  (try simp only [List.getElem_toArray]); (try simp only [List.getElem_cons_succ]); (try simp only [List.getElem_cons_zero])
                  go_simp
                  try with_reducible rfl
                (try simp only [Act.put]); (try simp only [List.getElem_toArray]); (try simp only [List.getElem_cons_succ]); (try simp only [List.getElem_cons_zero]); (try simp only [List.setIfInBounds_toArray]); (try simp only [List.set_cons_succ]); (try simp only [List.set_cons_zero])
                refine wpAnyH_take (i := 5) (v := ?_) rfl (by kernel_rfl) (by kernel_rfl) (by kernel_rfl) (fun _ _ _ h => h) (Or.inl ⟨by kernel_rfl, ?_⟩) hHeld ?_
                rotate_left
                · intro w' hSw
                  (try dsimp only at hSw)
                  (try simp only [List.getElem_toArray]); (try simp only [List.getElem_cons_succ]); (try simp only [List.getElem_cons_zero])
                  go_simp
                  try with_reducible rfl
                (try simp only [Act.put]); (try simp only [List.getElem_toArray]); (try simp only [List.getElem_cons_succ]); (try simp only [List.getElem_cons_zero]); (try simp only [List.setIfInBounds_toArray]); (try simp only [List.set_cons_succ]); (try simp only [List.set_cons_zero])
                refine wpAnyH_take (i := 6) (v := ?_) rfl (by kernel_rfl) (by kernel_rfl) (by kernel_rfl) (fun _ _ _ h => h) (Or.inl ⟨by kernel_rfl, ?_⟩) hHeld ?_
                rotate_left
                · intro w' hSw
                  (try dsimp only at hSw)
                  (try simp only [List.getElem_toArray]); (try simp only [List.getElem_cons_succ]); (try simp only [List.getElem_cons_zero])
                  go_simp
                  try with_reducible rfl
                (try simp only [Act.put]); (try simp only [List.getElem_toArray]); (try simp only [List.getElem_cons_succ]); (try simp only [List.getElem_cons_zero]); (try simp only [List.setIfInBounds_toArray]); (try simp only [List.set_cons_succ]); (try simp only [List.set_cons_zero])
                refine wpAnyH_take (i := 7) (v := ?_) rfl (by kernel_rfl) (by kernel_rfl) (by kernel_rfl) (fun _ _ _ h => h) (Or.inl ⟨by kernel_rfl, ?_⟩) hHeld ?_
                rotate_left
                · intro w' hSw
                  (try dsimp only at hSw)
                  (try simp only [List.getElem_toArray]); (try simp only [List.getElem_cons_succ]); (try simp only [List.getElem_cons_zero])
                  go_simp
                  try with_reducible rfl
                (try simp only [Act.put]); (try simp only [List.getElem_toArray]); (try simp only [List.getElem_cons_succ]); (try simp only [List.getElem_cons_zero]); (try simp only [List.setIfInBounds_toArray]); (try simp only [List.set_cons_succ]); (try simp only [List.set_cons_zero])
                refine wpAnyH_take (i := 8) (v := ?_) rfl (by kernel_rfl) (by kernel_rfl) (by kernel_rfl) (fun _ _ _ h => h) (Or.inl ⟨by kernel_rfl, ?_⟩) hHeld ?_
                rotate_left
                · intro w' hSw
                  (try dsimp only at hSw)
                  (try simp only [List.getElem_toArray]); (try simp only [List.getElem_cons_succ]); (try simp only [List.getElem_cons_zero])
                  go_simp
                  try with_reducible rfl
                (try simp only [Act.put]); (try simp only [List.getElem_toArray]); (try simp only [List.getElem_cons_succ]); (try simp only [List.getElem_cons_zero]); (try simp only [List.setIfInBounds_toArray]); (try simp only [List.set_cons_succ]); (try simp only [List.set_cons_zero])
                have lI := rowI.lies (fun b => b = bI) rfl (xs := (secF fB).map bv) (off := 0) (fun j u hu => by
                  rw [Nat.zero_add, List.map_append, List.getElem?_append_left (List.getElem?_eq_some_iff.1 hu).1]; exact hu)
                have HC := write_c (q := fun b => b = bI) g S Q dn ar fAt (some ⟨bI, 0, none⟩) (64 + 3) (secF fB) wd hd ok (by omega) lI (fun b hb h => hID (hb ▸ h)) (by have := (secF_len fB); omega) (by omega)
                rw [secF_len fB] at HC
                have HCC := Lib.hid HC
                clear HC
                obtain ⟨ok4, hq4⟩ := write_okF ok dn fAt (secF fB)
                refine wpAnyH_ready (rs := [4]) (by kernel_rfl) (by simp) ?_
                refine AllReadyH.cons rfl (fun K hK => ?_) AllReadyH.nil
                go_simp
                go_fit HCC.out
                rintro e w4 ⟨rfl, hd4, k4⟩
                clear HCC
                replace hr := hr.keep k4 (fun b hb h => hDR b h hb)
                replace lA3 := lA3.keep k4 hDS
                replace rowO := rowO.keep k4 hOD
                replace rowI := rowI.keep k4 hID
                have kk4 := kk.then k4 (fun i hi h => by have := (hD i h).1; omega)
                have hs4 := k4.size
                clear z1
                have z1 := rowO.cell 1
                (try simp only [List.getElem?_cons_succ] at z1); (try simp only [List.getElem?_cons_zero] at z1)
                go_wp2_with fail
                refine hK.out _ _ (z1) (fun hHeld => ?_)
                clear hK K
                (try simp only [Act.put]); (try simp only [List.getElem_toArray]); (try simp only [List.getElem_cons_succ]); (try simp only [List.getElem_cons_zero]); (try simp only [List.setIfInBounds_toArray]); (try simp only [List.set_cons_succ]); (try simp only [List.set_cons_zero])
                have HC := rwrite_c (q := fun b => b = w1.heap.size) r S Q dn ar fAt (some ⟨w1.heap.size, 0, none⟩) 64 (secF fB) w4 hr ok (by omega) lA3 hRS (by have := (secF_len fB); omega)
                rw [secF_len fB] at HC
                have HCC := Lib.hid HC
                clear HC
                refine wpAnyH_ready (rs := [9]) (by kernel_rfl) (by simp) ?_
                refine AllReadyH.cons rfl (fun K hK => ?_) AllReadyH.nil
                go_simp
                go_fit HCC.out
                rintro e w5 ⟨rfl, hr5, k5⟩
                clear HCC
                have hduo := DuoX.both (x := bI) (s := (S, (writeF S Q dn ar fAt (secF fB)).2)) (t := (S, (writeF S Q dn ar fAt (secF fB)).2)) hd4 k4 hr5 k5 (fun b hb => ⟨(hD b hb).1, by have := (hD b hb).2; omega⟩) (fun b hb => ⟨(hR b hb).1, by have := (hR b hb).2; omega⟩) hDR kk (by omega) hID hIR
                replace lA3 := lA3.keep k5 hRS
                replace rowO := rowO.keep k5 hOR
                replace rowI := rowI.keep k5 hIR
                have hs5 := k5.size
                clear z1 k4 k5 hd4 hr5 hd hr
                generalize (writeF S Q dn ar fAt (secF fB)).1 = we
                have z1 := rowO.cell 1
                (try simp only [List.getElem?_cons_succ] at z1); (try simp only [List.getElem?_cons_zero] at z1)
                go_wp2_with fail
                refine hK.out _ _ (z1) (fun hHeld => ?_)
                clear hK K
                (try simp only [Act.put]); (try simp only [List.getElem_toArray]); (try simp only [List.getElem_cons_succ]); (try simp only [List.getElem_cons_zero]); (try simp only [List.setIfInBounds_toArray]); (try simp only [List.set_cons_succ]); (try simp only [List.set_cons_zero])
                refine wpAnyH_take (i := 10) (v := ?_) rfl (by kernel_rfl) (by kernel_rfl) (by kernel_rfl) (fun _ _ _ h => h) (Or.inl ⟨by kernel_rfl, ?_⟩) hHeld ?_
                rotate_left
                · intro w' hSw
                  (try dsimp only at hSw)
                  (try simp only [List.getElem_toArray]); (try simp only [List.getElem_cons_succ]); (try simp only [List.getElem_cons_zero])
                  go_simp
                  try with_reducible rfl
                (try simp only [Act.put]); (try simp only [List.getElem_toArray]); (try simp only [List.getElem_cons_succ]); (try simp only [List.getElem_cons_zero]); (try simp only [List.setIfInBounds_toArray]); (try simp only [List.set_cons_succ]); (try simp only [List.set_cons_zero])
                refine wpAnyH_take (i := 11) (v := ?_) rfl (by kernel_rfl) (by kernel_rfl) (by kernel_rfl) (fun _ _ _ h => h) (Or.inl ⟨by kernel_rfl, ?_⟩) hHeld ?_
                rotate_left
                · intro w' hSw
                  (try dsimp only at hSw)
                  (try simp only [List.getElem_toArray]); (try simp only [List.getElem_cons_succ]); (try simp only [List.getElem_cons_zero])
                  go_simp
                  try with_reducible rfl
                (try simp only [Act.put]); (try simp only [List.getElem_toArray]); (try simp only [List.getElem_cons_succ]); (try simp only [List.getElem_cons_zero]); (try simp only [List.setIfInBounds_toArray]); (try simp only [List.set_cons_succ]); (try simp only [List.set_cons_zero])
                refine wpAnyH_take (i := 12) (v := ?_) rfl (by kernel_rfl) (by kernel_rfl) (by kernel_rfl) (fun _ _ _ h => h) (Or.inl ⟨by kernel_rfl, ?_⟩) hHeld ?_
                rotate_left
                · intro w' hSw
                  (try dsimp only at hSw)
                  (try simp only [List.getElem_toArray]); (try simp only [List.getElem_cons_succ]); (try simp only [List.getElem_cons_zero])
                  go_simp
                  try with_reducible rfl
                (try simp only [Act.put]); (try simp only [List.getElem_toArray]); (try simp only [List.getElem_cons_succ]); (try simp only [List.getElem_cons_zero]); (try simp only [List.setIfInBounds_toArray]); (try simp only [List.set_cons_succ]); (try simp only [List.set_cons_zero])
                refine wpAnyH_take (i := 13) (v := ?_) rfl (by kernel_rfl) (by kernel_rfl) (by kernel_rfl) (fun _ _ _ h => h) (Or.inl ⟨by kernel_rfl, ?_⟩) hHeld ?_
                rotate_left
                · intro w' hSw
                  (try dsimp only at hSw)
                  (try simp only [List.getElem_toArray]); (try simp only [List.getElem_cons_succ]); (try simp only [List.getElem_cons_zero])
                  go_simp
                  try with_reducible rfl
                (try simp only [Act.put]); (try simp only [List.getElem_toArray]); (try simp only [List.getElem_cons_succ]); (try simp only [List.getElem_cons_zero]); (try simp only [List.setIfInBounds_toArray]); (try simp only [List.set_cons_succ]); (try simp only [List.set_cons_zero])
                refine wpAnyH_ready (rs := [14]) (by kernel_rfl) (by simp) ?_
                refine AllReadyH.cons rfl (fun K hK => ?_) AllReadyH.nil
                rw [if_pos (by kernel_rfl)]
                go_simp
                go_fit (keptB_c bI (some ⟨w1.heap.size, 0, none⟩) 64 64 (secF fB) 71 w5 (secF_len fB) lA3 (by omega) rowI)
                rintro e w6 ⟨rfl, k6⟩
                replace hduo := hduo.nix k6
                replace rowI := rowI.keep k6 id
                replace rowO := rowO.keep k6 id
                clear z1 lA3
                have z1 := rowO.cell 1
                (try simp only [List.getElem?_cons_succ] at z1); (try simp only [List.getElem?_cons_zero] at z1)
                go_wp2_with fail
                refine hK.out _ _ (z1) (fun hHeld => ?_)
                clear hK K
                (try simp only [Act.put]); (try simp only [List.getElem_toArray]); (try simp only [List.getElem_cons_succ]); (try simp only [List.getElem_cons_zero]); (try simp only [List.setIfInBounds_toArray]); (try simp only [List.set_cons_succ]); (try simp only [List.set_cons_zero])
                refine wpAnyH_take (i := 15) (v := ?_) rfl (by kernel_rfl) (by kernel_rfl) (by kernel_rfl) (fun _ _ _ h => h) (Or.inl ⟨by kernel_rfl, ?_⟩) hHeld ?_
                rotate_left
                · intro w' hSw
                  (try dsimp only at hSw)
                  (try simp only [List.getElem_toArray]); (try simp only [List.getElem_cons_succ]); (try simp only [List.getElem_cons_zero])
                  go_simp
                  try with_reducible rfl
                (try simp only [Act.put]); (try simp only [List.getElem_toArray]); (try simp only [List.getElem_cons_succ]); (try simp only [List.getElem_cons_zero]); (try simp only [List.setIfInBounds_toArray]); (try simp only [List.set_cons_succ]); (try simp only [List.set_cons_zero])
                refine wpAnyH_take (i := 16) (v := ?_) rfl (by kernel_rfl) (by kernel_rfl) (by kernel_rfl) (fun _ _ _ h => h) (Or.inl ⟨by kernel_rfl, ?_⟩) hHeld ?_
                rotate_left
                · intro w' hSw
                  (try dsimp only at hSw)
                  (try simp only [List.getElem_toArray]); (try simp only [List.getElem_cons_succ]); (try simp only [List.getElem_cons_zero])
                  go_simp
                  try with_reducible rfl
                (try simp only [Act.put]); (try simp only [List.getElem_toArray]); (try simp only [List.getElem_cons_succ]); (try simp only [List.getElem_cons_zero]); (try simp only [List.setIfInBounds_toArray]); (try simp only [List.set_cons_succ]); (try simp only [List.set_cons_zero])
                refine wpAnyH_done (by kernel_rfl) ?_ _
                clear hHeld z1
                go_wp2_with fail
                go_fit (spoil_c bI 64 (64 + 3) (((secF fB) ++ [71, 71, 71]).map bv) (secF fB) w6 (secF_len fB) rowI (fun j u hu => by
                  rw [List.map_append, List.getElem?_append_left (List.getElem?_eq_some_iff.1 hu).1]; exact hu) (by unfold maxLen; omega))
                rintro e w7 ⟨rfl, k7⟩
                have HR : Hid (Rnd W n r (k + 1) (.pointer (some ⟨g, 0, none⟩)) w7) := ⟨g, _, rfl, hduo.store k7 (by omega), ok4, hSn, by show (writeF S Q dn ar fAt (secF fB)).2.1.length ≤ _; omega⟩
                clear hduo k7 rowI rowO
                go_wp2_with fail
                go_meet
                exact ⟨rfl, HR.out⟩
            · go_wp2_with fail
              go_fit (ownB_c (some ⟨w1.heap.size, 0, none⟩) 64 64 (secF fB) 71 w2 (secF_len fB) lS17 (by omega))
              rintro e w3 ⟨bI, rfl, hbI, rowI, k3⟩
              replace hd := hd.keep k3 (fun _ _ h => h)
              replace hr := hr.keep k3 (fun _ _ h => h)
              have lA3 := lS17.keep k3 (fun _ _ h => h)
              replace rowO := rowO.keep k3 id
              replace kk := kk.trans k3
              have hbI3 := rowI.lt
              have hs3 := k3.size
              have hIR : ¬ R bI := fun h => by have := (hR bI h).2; omega
              have hID : ¬ D bI := fun h => by have := (hD bI h).2; omega
              have hOI := rowO.lt
              have hOR : ¬ R bO := fun h => by have := hRO bO h; omega
              have hOD : ¬ D bO := fun h => by have := hDO bO h; omega
              clear k3
              go_upto_region 17 with fail
              have kD : Keep Nix w3 w3.drew := (Keep.refl Nix w3).drew
              replace hd := hd.keep kD (fun _ _ h => h)
              replace hr := hr.keep kD (fun _ _ h => h)
              replace lA3 := lA3.keep kD (fun _ _ h => h)
              replace rowO := rowO.keep kD id
              replace rowI := rowI.keep kD id
              replace kk := kk.trans kD
              clear o0 o1 o2 o3
              have z1 := rowO.cell 1
              (try simp only [List.getElem?_cons_succ] at z1); (try simp only [List.getElem?_cons_zero] at z1)
              refine wp_region_held_drew (S := (fun w' => w'.cell? ⟨bO, 1, none⟩ = some (.int .i64 fAt))) (by kernel_rfl) (z1) (fun hHeld => ?_)
              have hsD := kD.size
              generalize w3.drew = wd at *
              clear kD
              refine wpAnyH_take (i := 0) (v := ?_) rfl (by kernel_rfl) (by kernel_rfl) (by kernel_rfl) (fun _ _ _ h => h) (Or.inl ⟨by kernel_rfl, ?_⟩) hHeld ?_
              rotate_left
              · intro w' hSw
                (try dsimp only at hSw)
                (try simp only [List.getElem_toArray]); (try simp only [List.getElem_cons_succ]); (try simp only [List.getElem_cons_zero])
                go_simp
                try with_reducible rfl
              (try simp only [Act.put]); (try simp only [List.getElem_toArray]); (try simp only [List.getElem_cons_succ]); (try simp only [List.getElem_cons_zero]); (try simp only [List.setIfInBounds_toArray]); (try simp only [List.set_cons_succ]); (try simp only [List.set_cons_zero])
              refine wpAnyH_take (i := 1) (v := ?_) rfl (by kernel_rfl) (by kernel_rfl) (by kernel_rfl) (fun _ _ _ h => h) (Or.inl ⟨by kernel_rfl, ?_⟩) hHeld ?_
              rotate_left
              · intro w' hSw
                (try dsimp only at hSw)
                (try simp only [List.getElem_toArray]); (try simp only [List.getElem_cons_succ]); (try simp only [List.getElem_cons_zero])
                go_simp
                try with_reducible rfl
              (try simp only [Act.put]); (try simp only [List.getElem_toArray]); (try simp only [List.getElem_cons_succ]); (try simp only [List.getElem_cons_zero]); (try simp only [List.setIfInBounds_toArray]); (try simp only [List.set_cons_succ]); (try simp only [List.set_cons_zero])
              refine wpAnyH_take (i := 2) (v := ?_) rfl (by kernel_rfl) (by kernel_rfl) (by kernel_rfl) (fun _ _ _ h => h) (Or.inl ⟨by kernel_rfl, ?_⟩) hHeld ?_
              rotate_left
              · intro w' hSw
                (try dsimp only at hSw)
                (try simp only [List.getElem_toArray]); (try simp only [List.getElem_cons_succ]); (try simp only [List.getElem_cons_zero])
                go_simp
                try with_reducible rfl
              (try simp only [Act.put]); (try simp only [List.getElem_toArray]); (try simp only [List.getElem_cons_succ]); (try simp only [List.getElem_cons_zero]); (try simp only [List.setIfInBounds_toArray]); (try simp only [List.set_cons_succ]); (try simp only [List.set_cons_zero])
              refine wpAnyH_take (i := 3) (v := ?_) rfl (by kernel_rfl) (by kernel_rfl) (by kernel_rfl) (fun _ _ _ h => h) (Or.inl ⟨by kernel_rfl, ?_⟩) hHeld ?_
              rotate_left
              · intro w' hSw
                (try dsimp only at hSw)
                (try simp only [List.getElem_toArray]); (try simp only [List.getElem_cons_succ]); (try simp only [List.getElem_cons_zero])
                go_simp
                try with_reducible rfl
              (try simp only [Act.put]); (try simp only [List.getElem_toArray]); (try simp only [List.getElem_cons_succ]); (try simp only [List.getElem_cons_zero]); (try simp only [List.setIfInBounds_toArray]); (try simp only [List.set_cons_succ]); (try simp only [List.set_cons_zero])
              refine wpAnyH_take (i := 5) (v := ?_) rfl (by kernel_rfl) (by kernel_rfl) (by kernel_rfl) (fun _ _ _ h => h) (Or.inl ⟨by kernel_rfl, ?_⟩) hHeld ?_
              rotate_left
              · intro w' hSw
                (try dsimp only at hSw)
                (try simp only [List.getElem_toArray]); (try simp only [List.getElem_cons_succ]); (try simp only [List.getElem_cons_zero])
                go_simp
                try with_reducible rfl
              (try simp only [Act.put]); (try simp only [List.getElem_toArray]); (try simp only [List.getElem_cons_succ]); (try simp only [List.getElem_cons_zero]); (try simp only [List.setIfInBounds_toArray]); (try simp only [List.set_cons_succ]); (try simp only [List.set_cons_zero])
              refine wpAnyH_take (i := 6) (v := ?_) rfl (by kernel_rfl) (by kernel_rfl) (by kernel_rfl) (fun _ _ _ h => h) (Or.inl ⟨by kernel_rfl, ?_⟩) hHeld ?_
              rotate_left
              · intro w' hSw
                (try dsimp only at hSw)
                (try simp only [List.getElem_toArray]); (try simp only [List.getElem_cons_succ]); (try simp only [List.getElem_cons_zero])
                go_simp
                try with_reducible rfl
              (try simp only [Act.put]); (try simp only [List.getElem_toArray]); (try simp only [List.getElem_cons_succ]); (try simp only [List.getElem_cons_zero]); (try simp only [List.setIfInBounds_toArray]); (try simp only [List.set_cons_succ]); (try simp only [List.set_cons_zero])
              refine wpAnyH_take (i := 7) (v := ?_) rfl (by kernel_rfl) (by kernel_rfl) (by kernel_rfl) (fun _ _ _ h => h) (Or.inl ⟨by kernel_rfl, ?_⟩) hHeld ?_
              rotate_left
              · intro w' hSw
                (try dsimp only at hSw)
                (try simp only [List.getElem_toArray]); (try simp only [List.getElem_cons_succ]); (try simp only [List.getElem_cons_zero])
                go_simp
                try with_reducible rfl
              (try simp only [Act.put]); (try simp only [List.getElem_toArray]); (try simp only [List.getElem_cons_succ]); (try simp only [List.getElem_cons_zero]); (try simp only [List.setIfInBounds_toArray]); (try simp only [List.set_cons_succ]); (try simp only [List.set_cons_zero])
              refine wpAnyH_take (i := 8) (v := ?_) rfl (by kernel_rfl) (by kernel_rfl) (by kernel_rfl) (fun _ _ _ h => h) (Or.inl ⟨by kernel_rfl, ?_⟩) hHeld ?_
              rotate_left
              · intro w' hSw
                (try dsimp only at hSw)
                (try simp only [List.getElem_toArray]); (try simp only [List.getElem_cons_succ]); (try simp only [List.getElem_cons_zero])
                go_simp
                try with_reducible rfl
              (try simp only [Act.put]); (try simp only [List.getElem_toArray]); (try simp only [List.getElem_cons_succ]); (try simp only [List.getElem_cons_zero]); (try simp only [List.setIfInBounds_toArray]); (try simp only [List.set_cons_succ]); (try simp only [List.set_cons_zero])
              have lI := rowI.lies (fun b => b = bI) rfl (xs := (secF fB).map bv) (off := 0) (fun j u hu => by
                rw [Nat.zero_add, List.map_append, List.getElem?_append_left (List.getElem?_eq_some_iff.1 hu).1]; exact hu)
              have HC := write_c (q := fun b => b = bI) g S Q dn ar fAt (some ⟨bI, 0, none⟩) (64 + 3) (secF fB) wd hd ok (by omega) lI (fun b hb h => hID (hb ▸ h)) (by have := (secF_len fB); omega) (by omega)
              rw [secF_len fB] at HC
              have HCC := Lib.hid HC
              clear HC
              obtain ⟨ok4, hq4⟩ := write_okF ok dn fAt (secF fB)
              refine wpAnyH_ready (rs := [4]) (by kernel_rfl) (by simp) ?_
              refine AllReadyH.cons rfl (fun K hK => ?_) AllReadyH.nil
              go_simp
              go_fit HCC.out
              rintro e w4 ⟨rfl, hd4, k4⟩
              clear HCC
              replace hr := hr.keep k4 (fun b hb h => hDR b h hb)
              replace lA3 := lA3.keep k4 hDS
              replace rowO := rowO.keep k4 hOD
              replace rowI := rowI.keep k4 hID
              have kk4 := kk.then k4 (fun i hi h => by have := (hD i h).1; omega)
              have hs4 := k4.size
              clear z1
              have z1 := rowO.cell 1
              (try simp only [List.getElem?_cons_succ] at z1); (try simp only [List.getElem?_cons_zero] at z1)
              go_wp2_with fail
              refine hK.out _ _ (z1) (fun hHeld => ?_)
              clear hK K
              (try simp only [Act.put]); (try simp only [List.getElem_toArray]); (try simp only [List.getElem_cons_succ]); (try simp only [List.getElem_cons_zero]); (try simp only [List.setIfInBounds_toArray]); (try simp only [List.set_cons_succ]); (try simp only [List.set_cons_zero])
              have HC := rwrite_c (q := fun b => b = w1.heap.size) r S Q dn ar fAt (some ⟨w1.heap.size, 0, none⟩) 64 (secF fB) w4 hr ok (by omega) lA3 hRS (by have := (secF_len fB); omega)
              rw [secF_len fB] at HC
              have HCC := Lib.hid HC
              clear HC
              refine wpAnyH_ready (rs := [9]) (by kernel_rfl) (by simp) ?_
              refine AllReadyH.cons rfl (fun K hK => ?_) AllReadyH.nil
              go_simp
              go_fit HCC.out
              rintro e w5 ⟨rfl, hr5, k5⟩
              clear HCC
              have hduo := DuoX.both (x := bI) (s := (S, (writeF S Q dn ar fAt (secF fB)).2)) (t := (S, (writeF S Q dn ar fAt (secF fB)).2)) hd4 k4 hr5 k5 (fun b hb => ⟨(hD b hb).1, by have := (hD b hb).2; omega⟩) (fun b hb => ⟨(hR b hb).1, by have := (hR b hb).2; omega⟩) hDR kk (by omega) hID hIR
              replace lA3 := lA3.keep k5 hRS
              replace rowO := rowO.keep k5 hOR
              replace rowI := rowI.keep k5 hIR
              have hs5 := k5.size
              clear z1 k4 k5 hd4 hr5 hd hr
              generalize (writeF S Q dn ar fAt (secF fB)).1 = we
              have z1 := rowO.cell 1
              (try simp only [List.getElem?_cons_succ] at z1); (try simp only [List.getElem?_cons_zero] at z1)
              go_wp2_with fail
              refine hK.out _ _ (z1) (fun hHeld => ?_)
              clear hK K
              (try simp only [Act.put]); (try simp only [List.getElem_toArray]); (try simp only [List.getElem_cons_succ]); (try simp only [List.getElem_cons_zero]); (try simp only [List.setIfInBounds_toArray]); (try simp only [List.set_cons_succ]); (try simp only [List.set_cons_zero])
              refine wpAnyH_take (i := 10) (v := ?_) rfl (by kernel_rfl) (by kernel_rfl) (by kernel_rfl) (fun _ _ _ h => h) (Or.inl ⟨by kernel_rfl, ?_⟩) hHeld ?_
              rotate_left
              · intro w' hSw
                (try dsimp only at hSw)
                (try simp only [List.getElem_toArray]); (try simp only [List.getElem_cons_succ]); (try simp only [List.getElem_cons_zero])
                go_simp
                try with_reducible rfl
              (try simp only [Act.put]); (try simp only [List.getElem_toArray]); (try simp only [List.getElem_cons_succ]); (try simp only [List.getElem_cons_zero]); (try simp only [List.setIfInBounds_toArray]); (try simp only [List.set_cons_succ]); (try simp only [List.set_cons_zero])
              refine wpAnyH_take (i := 11) (v := ?_) rfl (by kernel_rfl) (by kernel_rfl) (by kernel_rfl) (fun _ _ _ h => h) (Or.inl ⟨by kernel_rfl, ?_⟩) hHeld ?_
              rotate_left
              · intro w' hSw
                (try dsimp only at hSw)
                (try simp only [List.getElem_toArray]); (try simp only [List.getElem_cons_succ]); (try simp only [List.getElem_cons_zero])
                go_simp
                try with_reducible rfl
              (try simp only [Act.put]); (try simp only [List.getElem_toArray]); (try simp only [List.getElem_cons_succ]); (try simp only [List.getElem_cons_zero]); (try simp only [List.setIfInBounds_toArray]); (try simp only [List.set_cons_succ]); (try simp only [List.set_cons_zero])
              refine wpAnyH_take (i := 12) (v := ?_) rfl (by kernel_rfl) (by kernel_rfl) (by kernel_rfl) (fun _ _ _ h => h) (Or.inl ⟨by kernel_rfl, ?_⟩) hHeld ?_
              rotate_left
              · intro w' hSw
                (try dsimp only at hSw)
                (try simp only [List.getElem_toArray]); (try simp only [List.getElem_cons_succ]); (try simp only [List.getElem_cons_zero])
                go_simp
                try with_reducible rfl
              (try simp only [Act.put]); (try simp only [List.getElem_toArray]); (try simp only [List.getElem_cons_succ]); (try simp only [List.getElem_cons_zero]); (try simp only [List.setIfInBounds_toArray]); (try simp only [List.set_cons_succ]); (try simp only [List.set_cons_zero])
              refine wpAnyH_take (i := 13) (v := ?_) rfl (by kernel_rfl) (by kernel_rfl) (by kernel_rfl) (fun _ _ _ h => h) (Or.inl ⟨by kernel_rfl, ?_⟩) hHeld ?_
              rotate_left
              · intro w' hSw
                (try dsimp only at hSw)
                (try simp only [List.getElem_toArray]); (try simp only [List.getElem_cons_succ]); (try simp only [List.getElem_cons_zero])
                go_simp
                try with_reducible rfl
              (try simp only [Act.put]); (try simp only [List.getElem_toArray]); (try simp only [List.getElem_cons_succ]); (try simp only [List.getElem_cons_zero]); (try simp only [List.setIfInBounds_toArray]); (try simp only [List.set_cons_succ]); (try simp only [List.set_cons_zero])
              refine wpAnyH_ready (rs := [14]) (by kernel_rfl) (by simp) ?_
              refine AllReadyH.cons rfl (fun K hK => ?_) AllReadyH.nil
              rw [if_pos (by kernel_rfl)]
              go_simp
              go_fit (keptB_c bI (some ⟨w1.heap.size, 0, none⟩) 64 64 (secF fB) 71 w5 (secF_len fB) lA3 (by omega) rowI)
              rintro e w6 ⟨rfl, k6⟩
              replace hduo := hduo.nix k6
              replace rowI := rowI.keep k6 id
              replace rowO := rowO.keep k6 id
              clear z1 lA3
              have z1 := rowO.cell 1
              (try simp only [List.getElem?_cons_succ] at z1); (try simp only [List.getElem?_cons_zero] at z1)
              go_wp2_with fail
              refine hK.out _ _ (z1) (fun hHeld => ?_)
              clear hK K
              (try simp only [Act.put]); (try simp only [List.getElem_toArray]); (try simp only [List.getElem_cons_succ]); (try simp only [List.getElem_cons_zero]); (try simp only [List.setIfInBounds_toArray]); (try simp only [List.set_cons_succ]); (try simp only [List.set_cons_zero])
              refine wpAnyH_take (i := 15) (v := ?_) rfl (by kernel_rfl) (by kernel_rfl) (by kernel_rfl) (fun _ _ _ h => h) (Or.inl ⟨by kernel_rfl, ?_⟩) hHeld ?_
              rotate_left
              · intro w' hSw
                (try dsimp only at hSw)
                (try simp only [List.getElem_toArray]); (try simp only [List.getElem_cons_succ]); (try simp only [List.getElem_cons_zero])
                go_simp
                try with_reducible rfl
              (try simp only [Act.put]); (try simp only [List.getElem_toArray]); (try simp only [List.getElem_cons_succ]); (try simp only [List.getElem_cons_zero]); (try simp only [List.setIfInBounds_toArray]); (try simp only [List.set_cons_succ]); (try simp only [List.set_cons_zero])
              refine wpAnyH_take (i := 16) (v := ?_) rfl (by kernel_rfl) (by kernel_rfl) (by kernel_rfl) (fun _ _ _ h => h) (Or.inl ⟨by kernel_rfl, ?_⟩) hHeld ?_
              rotate_left
              · intro w' hSw
                (try dsimp only at hSw)
                (try simp only [List.getElem_toArray]); (try simp only [List.getElem_cons_succ]); (try simp only [List.getElem_cons_zero])
                go_simp
                try with_reducible rfl
              (try simp only [Act.put]); (try simp only [List.getElem_toArray]); (try simp only [List.getElem_cons_succ]); (try simp only [List.getElem_cons_zero]); (try simp only [List.setIfInBounds_toArray]); (try simp only [List.set_cons_succ]); (try simp only [List.set_cons_zero])
              refine wpAnyH_done (by kernel_rfl) ?_ _
              clear hHeld z1
              go_wp2_with fail
              go_fit (spoil_c bI 64 (64 + 3) (((secF fB) ++ [71, 71, 71]).map bv) (secF fB) w6 (secF_len fB) rowI (fun j u hu => by
                rw [List.map_append, List.getElem?_append_left (List.getElem?_eq_some_iff.1 hu).1]; exact hu) (by unfold maxLen; omega))
              rintro e w7 ⟨rfl, k7⟩
              have HR : Hid (Rnd W n r (k + 1) (.pointer (some ⟨g, 0, none⟩)) w7) := ⟨g, _, rfl, hduo.store k7 (by omega), ok4, hSn, by show (writeF S Q dn ar fAt (secF fB)).2.1.length ≤ _; omega⟩
              clear hduo k7 rowI rowO
              go_wp2_with fail
              go_meet
              exact ⟨rfl, HR.out⟩
        case rest =>
          obtain ⟨rfl, g2, s2, rfl, hduo2, ok2, hSn2, hQ2⟩ := hcut
          have HR : Hid (Rnd W n r (k + 1) (.pointer (some ⟨g2, 0, none⟩)) wc.drew) := ⟨g2, s2, rfl, hduo2.nix ((Keep.refl Nix wc).drew), ok2, hSn2, hQ2⟩
          obtain ⟨D2, R2, hd2, hr2, -⟩ := hduo2
          obtain ⟨S2, Q2, dn2, ar2⟩ := s2
          obtain ⟨aS, cS, aQ, cQ, rowD, -⟩ := hd2
          obtain ⟨aS', cS', aQ', cQ', rowR, -⟩ := hr2
          replace hSn2 : S2.length = n := hSn2
          replace rowD : RowIs wc g2 62 [.slice aS S2.length cS, .slice aQ Q2.length cQ, .bool dn2, .int .i64 ar2] := rowD
          replace rowR : RowIs wc r 49 [.slice aS' S2.length cS', .slice aQ' Q2.length cQ', .int .i64 ar2, .bool dn2] := rowR
          rw [hSn2] at rowD
          have hbb : (dn2 != dn2) = false := by simp
          clear hd hr hD hR hDR kk rowO hDO hRO ok2 hQ2 hSn2 lB lK
          go_upto_region 43 with fail
          have kD : Keep Nix wc wc.drew := (Keep.refl Nix wc).drew
          replace rowD := rowD.keep kD id
          replace rowR := rowR.keep kD id
          clear kD
          have y1 := rowR.cell 1
          (try simp only [List.getElem?_cons_succ] at y1); (try simp only [List.getElem?_cons_zero] at y1)
          have y3 := rowR.cell 3
          (try simp only [List.getElem?_cons_succ] at y3); (try simp only [List.getElem?_cons_zero] at y3)
          refine wp_region_held_drew (S := (fun w' => w'.cell? ⟨r, 1, none⟩ = some (.slice aQ' Q2.length cQ') ∧ w'.cell? ⟨r, 3, none⟩ = some (.bool dn2))) (by kernel_rfl) (⟨y1, y3⟩) (fun hHeld => ?_)
          generalize wc.drew = wq at *
          refine wpAnyH_take (i := 0) (v := ?_) rfl (by kernel_rfl) (by kernel_rfl) (by kernel_rfl) (fun _ _ _ h => h) (Or.inl ⟨by kernel_rfl, ?_⟩) hHeld ?_
          rotate_left
          · intro w' hSw
            (try dsimp only at hSw)
            (try simp only [List.getElem_toArray]); (try simp only [List.getElem_cons_succ]); (try simp only [List.getElem_cons_zero])
            go_simp
            try with_reducible rfl
          (try simp only [Act.put]); (try simp only [List.getElem_toArray]); (try simp only [List.getElem_cons_succ]); (try simp only [List.getElem_cons_zero]); (try simp only [List.setIfInBounds_toArray]); (try simp only [List.set_cons_succ]); (try simp only [List.set_cons_zero])
          refine wpAnyH_take (i := 1) (v := ?_) rfl (by kernel_rfl) (by kernel_rfl) (by kernel_rfl) (fun _ _ _ h => h) (Or.inl ⟨by kernel_rfl, ?_⟩) hHeld ?_
          rotate_left
          · intro w' hSw
            (try dsimp only at hSw)
            (try simp only [List.getElem_toArray]); (try simp only [List.getElem_cons_succ]); (try simp only [List.getElem_cons_zero])
            go_simp
            try with_reducible rfl
          (try simp only [Act.put]); (try simp only [List.getElem_toArray]); (try simp only [List.getElem_cons_succ]); (try simp only [List.getElem_cons_zero]); (try simp only [List.setIfInBounds_toArray]); (try simp only [List.set_cons_succ]); (try simp only [List.set_cons_zero])
          refine wpAnyH_take (i := 2) (v := ?_) rfl (by kernel_rfl) (by kernel_rfl) (by kernel_rfl) (fun _ _ _ h => h) (Or.inl ⟨by kernel_rfl, ?_⟩) hHeld ?_
          rotate_left
          · intro w' hSw
            (try dsimp only at hSw)
            (try simp only [List.getElem_toArray]); (try simp only [List.getElem_cons_succ]); (try simp only [List.getElem_cons_zero])
            go_simp
            try with_reducible rfl
          (try simp only [Act.put]); (try simp only [List.getElem_toArray]); (try simp only [List.getElem_cons_succ]); (try simp only [List.getElem_cons_zero]); (try simp only [List.setIfInBounds_toArray]); (try simp only [List.set_cons_succ]); (try simp only [List.set_cons_zero])
          refine wpAnyH_take (i := 3) (v := ?_) rfl (by kernel_rfl) (by kernel_rfl) (by kernel_rfl) (fun _ _ _ h => h) (Or.inl ⟨by kernel_rfl, ?_⟩) hHeld ?_
          rotate_left
          · intro w' hSw
            (try dsimp only at hSw)
            (try simp only [List.getElem_toArray]); (try simp only [List.getElem_cons_succ]); (try simp only [List.getElem_cons_zero])
            go_simp
            try with_reducible rfl
          (try simp only [Act.put]); (try simp only [List.getElem_toArray]); (try simp only [List.getElem_cons_succ]); (try simp only [List.getElem_cons_zero]); (try simp only [List.setIfInBounds_toArray]); (try simp only [List.set_cons_succ]); (try simp only [List.set_cons_zero])
          refine wpAnyH_take (i := 5) (v := ?_) rfl (by kernel_rfl) (by kernel_rfl) (by kernel_rfl) (fun _ _ _ h => h) (Or.inl ⟨by kernel_rfl, ?_⟩) hHeld ?_
          rotate_left
          · intro w' hSw
            (try dsimp only at hSw)
            (try simp only [List.getElem_toArray]); (try simp only [List.getElem_cons_succ]); (try simp only [List.getElem_cons_zero])
            go_simp
            try with_reducible rfl
          (try simp only [Act.put]); (try simp only [List.getElem_toArray]); (try simp only [List.getElem_cons_succ]); (try simp only [List.getElem_cons_zero]); (try simp only [List.setIfInBounds_toArray]); (try simp only [List.set_cons_succ]); (try simp only [List.set_cons_zero])
          refine wpAnyH_take (i := 6) (v := ?_) rfl (by kernel_rfl) (by kernel_rfl) (by kernel_rfl) (fun _ _ _ h => h) (Or.inl ⟨by kernel_rfl, ?_⟩) hHeld ?_
          rotate_left
          · intro w' hSw
            (try dsimp only at hSw)
            (try simp only [List.getElem_toArray]); (try simp only [List.getElem_cons_succ]); (try simp only [List.getElem_cons_zero])
            go_simp
            try with_reducible rfl
          (try simp only [Act.put]); (try simp only [List.getElem_toArray]); (try simp only [List.getElem_cons_succ]); (try simp only [List.getElem_cons_zero]); (try simp only [List.setIfInBounds_toArray]); (try simp only [List.set_cons_succ]); (try simp only [List.set_cons_zero])
          refine wpAnyH_take (i := 7) (v := ?_) rfl (by kernel_rfl) (by kernel_rfl) (by kernel_rfl) (fun _ _ _ h => h) (Or.inl ⟨by kernel_rfl, ?_⟩) hHeld ?_
          rotate_left
          · intro w' hSw
            (try dsimp only at hSw)
            (try simp only [List.getElem_toArray]); (try simp only [List.getElem_cons_succ]); (try simp only [List.getElem_cons_zero])
            go_simp
            try with_reducible rfl
          (try simp only [Act.put]); (try simp only [List.getElem_toArray]); (try simp only [List.getElem_cons_succ]); (try simp only [List.getElem_cons_zero]); (try simp only [List.setIfInBounds_toArray]); (try simp only [List.set_cons_succ]); (try simp only [List.set_cons_zero])
          refine wpAnyH_take (i := 8) (v := ?_) rfl (by kernel_rfl) (by kernel_rfl) (by kernel_rfl) (fun _ _ _ h => h) (Or.inl ⟨by kernel_rfl, ?_⟩) hHeld ?_
          rotate_left
          · intro w' hSw
            (try dsimp only at hSw)
            (try simp only [List.getElem_toArray]); (try simp only [List.getElem_cons_succ]); (try simp only [List.getElem_cons_zero])
            go_simp
            try with_reducible rfl
          (try simp only [Act.put]); (try simp only [List.getElem_toArray]); (try simp only [List.getElem_cons_succ]); (try simp only [List.getElem_cons_zero]); (try simp only [List.setIfInBounds_toArray]); (try simp only [List.set_cons_succ]); (try simp only [List.set_cons_zero])
          refine wpAnyH_ready (rs := [4]) (by kernel_rfl) (by simp) ?_
          refine AllReadyH.cons rfl (fun K hK => ?_) AllReadyH.nil
          rw [if_pos (by kernel_rfl)]
          go_simp
          go_fit (down_c g2 dn2 _ _ _ wq rowD)
          rintro e w' ⟨rfl, rfl⟩
          go_wp2_with fail
          refine hK.out _ _ (⟨y1, y3⟩) (fun hHeld => ?_)
          clear hK K
          (try simp only [Act.put]); (try simp only [List.getElem_toArray]); (try simp only [List.getElem_cons_succ]); (try simp only [List.getElem_cons_zero]); (try simp only [List.setIfInBounds_toArray]); (try simp only [List.set_cons_succ]); (try simp only [List.set_cons_zero])
          refine wpAnyH_take (i := 9) (v := ?_) rfl (by kernel_rfl) (by kernel_rfl) (by kernel_rfl) (fun _ _ _ h => h) (Or.inl ⟨by kernel_rfl, ?_⟩) hHeld ?_
          rotate_left
          · intro w' hSw
            (try dsimp only at hSw)
            (try simp only [List.getElem_toArray]); (try simp only [List.getElem_cons_succ]); (try simp only [List.getElem_cons_zero])
            go_simp
            try with_reducible rfl
          (try simp only [Act.put]); (try simp only [List.getElem_toArray]); (try simp only [List.getElem_cons_succ]); (try simp only [List.getElem_cons_zero]); (try simp only [List.setIfInBounds_toArray]); (try simp only [List.set_cons_succ]); (try simp only [List.set_cons_zero])
          refine wpAnyH_take (i := 10) (v := ?_) rfl (by kernel_rfl) (by kernel_rfl) (by kernel_rfl) (fun _ _ _ h => h) (Or.inl ⟨by kernel_rfl, ?_⟩) hHeld ?_
          rotate_left
          · intro w' hSw
            (try dsimp only at hSw)
            (try simp only [List.getElem_toArray]); (try simp only [List.getElem_cons_succ]); (try simp only [List.getElem_cons_zero])
            go_simp
            try with_reducible rfl
          (try simp only [Act.put]); (try simp only [List.getElem_toArray]); (try simp only [List.getElem_cons_succ]); (try simp only [List.getElem_cons_zero]); (try simp only [List.setIfInBounds_toArray]); (try simp only [List.set_cons_succ]); (try simp only [List.set_cons_zero])
          refine wpAnyH_take (i := 11) (v := ?_) rfl (by kernel_rfl) (by kernel_rfl) (by kernel_rfl) (fun _ _ _ h => h) (Or.inl ⟨by kernel_rfl, ?_⟩) hHeld ?_
          rotate_left
          · intro w' hSw
            (try dsimp only at hSw)
            (try simp only [List.getElem_toArray]); (try simp only [List.getElem_cons_succ]); (try simp only [List.getElem_cons_zero])
            go_simp
            try with_reducible rfl
          (try simp only [Act.put]); (try simp only [List.getElem_toArray]); (try simp only [List.getElem_cons_succ]); (try simp only [List.getElem_cons_zero]); (try simp only [List.setIfInBounds_toArray]); (try simp only [List.set_cons_succ]); (try simp only [List.set_cons_zero])
          refine wpAnyH_take (i := 12) (v := ?_) rfl (by kernel_rfl) (by kernel_rfl) (by kernel_rfl) (fun _ _ _ h => h) (Or.inl ⟨by kernel_rfl, ?_⟩) hHeld ?_
          rotate_left
          · intro w' hSw
            (try dsimp only at hSw)
            (try simp only [List.getElem_toArray]); (try simp only [List.getElem_cons_succ]); (try simp only [List.getElem_cons_zero])
            go_simp
            try with_reducible rfl
          (try simp only [Act.put]); (try simp only [List.getElem_toArray]); (try simp only [List.getElem_cons_succ]); (try simp only [List.getElem_cons_zero]); (try simp only [List.setIfInBounds_toArray]); (try simp only [List.set_cons_succ]); (try simp only [List.set_cons_zero])
          refine wpAnyH_take (i := 14) (v := ?_) rfl (by kernel_rfl) (by kernel_rfl) (by kernel_rfl) (fun _ _ _ h => h) (Or.inl ⟨by kernel_rfl, ?_⟩) hHeld ?_
          rotate_left
          · intro w' hSw
            (try dsimp only at hSw)
            (try simp only [List.getElem_toArray]); (try simp only [List.getElem_cons_succ]); (try simp only [List.getElem_cons_zero])
            go_simp
            try with_reducible rfl
          (try simp only [Act.put]); (try simp only [List.getElem_toArray]); (try simp only [List.getElem_cons_succ]); (try simp only [List.getElem_cons_zero]); (try simp only [List.setIfInBounds_toArray]); (try simp only [List.set_cons_succ]); (try simp only [List.set_cons_zero])
          refine wpAnyH_take (i := 15) (v := ?_) rfl (by kernel_rfl) (by kernel_rfl) (by kernel_rfl) (fun _ _ _ h => h) (Or.inl ⟨by kernel_rfl, ?_⟩) hHeld ?_
          rotate_left
          · intro w' hSw
            (try dsimp only at hSw)
            (try simp only [List.getElem_toArray]); (try simp only [List.getElem_cons_succ]); (try simp only [List.getElem_cons_zero])
            go_simp
            try with_reducible rfl
          (try simp only [Act.put]); (try simp only [List.getElem_toArray]); (try simp only [List.getElem_cons_succ]); (try simp only [List.getElem_cons_zero]); (try simp only [List.setIfInBounds_toArray]); (try simp only [List.set_cons_succ]); (try simp only [List.set_cons_zero])
          refine wpAnyH_take (i := 16) (v := ?_) rfl (by kernel_rfl) (by kernel_rfl) (by kernel_rfl) (fun _ _ _ h => h) (Or.inl ⟨by kernel_rfl, ?_⟩) hHeld ?_
          rotate_left
          · intro w' hSw
            (try dsimp only at hSw)
            (try simp only [List.getElem_toArray]); (try simp only [List.getElem_cons_succ]); (try simp only [List.getElem_cons_zero])
            go_simp
            try with_reducible rfl
          (try simp only [Act.put]); (try simp only [List.getElem_toArray]); (try simp only [List.getElem_cons_succ]); (try simp only [List.getElem_cons_zero]); (try simp only [List.setIfInBounds_toArray]); (try simp only [List.set_cons_succ]); (try simp only [List.set_cons_zero])
          refine wpAnyH_take (i := 17) (v := ?_) rfl (by kernel_rfl) (by kernel_rfl) (by kernel_rfl) (fun _ _ _ h => h) (Or.inl ⟨by kernel_rfl, ?_⟩) hHeld ?_
          rotate_left
          · intro w' hSw
            (try dsimp only at hSw)
            (try simp only [List.getElem_toArray]); (try simp only [List.getElem_cons_succ]); (try simp only [List.getElem_cons_zero])
            go_simp
            try with_reducible rfl
          (try simp only [Act.put]); (try simp only [List.getElem_toArray]); (try simp only [List.getElem_cons_succ]); (try simp only [List.getElem_cons_zero]); (try simp only [List.setIfInBounds_toArray]); (try simp only [List.set_cons_succ]); (try simp only [List.set_cons_zero])
          refine wpAnyH_take (i := 18) (v := ?_) rfl (by kernel_rfl) (by kernel_rfl) (by kernel_rfl) (fun _ _ _ h => h) (Or.inl ⟨by kernel_rfl, ?_⟩) hHeld ?_
          rotate_left
          · intro w' hSw
            (try dsimp only at hSw)
            (try simp only [List.getElem_toArray]); (try simp only [List.getElem_cons_succ]); (try simp only [List.getElem_cons_zero])
            go_simp
            try with_reducible rfl
          (try simp only [Act.put]); (try simp only [List.getElem_toArray]); (try simp only [List.getElem_cons_succ]); (try simp only [List.getElem_cons_zero]); (try simp only [List.setIfInBounds_toArray]); (try simp only [List.set_cons_succ]); (try simp only [List.set_cons_zero])
          refine wpAnyH_ready (rs := [13]) (by kernel_rfl) (by simp) ?_
          refine AllReadyH.cons rfl (fun K hK => ?_) AllReadyH.nil
          rw [if_pos (by kernel_rfl)]
          go_simp
          go_fit (waiting_c g2 aQ Q2.length cQ _ _ _ wq rowD)
          rintro e w' ⟨rfl, rfl⟩
          go_wp2_with fail
          refine hK.out _ _ (⟨y1, y3⟩) (fun hHeld => ?_)
          clear hK K
          (try simp only [Act.put]); (try simp only [List.getElem_toArray]); (try simp only [List.getElem_cons_succ]); (try simp only [List.getElem_cons_zero]); (try simp only [List.setIfInBounds_toArray]); (try simp only [List.set_cons_succ]); (try simp only [List.set_cons_zero])
          refine wpAnyH_take (i := 19) (v := ?_) rfl (by kernel_rfl) (by kernel_rfl) (by kernel_rfl) (fun _ _ _ h => h) (Or.inl ⟨by kernel_rfl, ?_⟩) hHeld ?_
          rotate_left
          · intro w' hSw
            (try dsimp only at hSw)
            (try simp only [List.getElem_toArray]); (try simp only [List.getElem_cons_succ]); (try simp only [List.getElem_cons_zero])
            go_simp
            try with_reducible rfl
          (try simp only [Act.put]); (try simp only [List.getElem_toArray]); (try simp only [List.getElem_cons_succ]); (try simp only [List.getElem_cons_zero]); (try simp only [List.setIfInBounds_toArray]); (try simp only [List.set_cons_succ]); (try simp only [List.set_cons_zero])
          refine wpAnyH_take (i := 20) (v := ?_) rfl (by kernel_rfl) (by kernel_rfl) (by kernel_rfl) (fun _ _ _ h => h) (Or.inl ⟨by kernel_rfl, ?_⟩) hHeld ?_
          rotate_left
          · intro w' hSw
            (try dsimp only at hSw)
            (try simp only [List.getElem_toArray]); (try simp only [List.getElem_cons_succ]); (try simp only [List.getElem_cons_zero])
            go_simp
            try with_reducible rfl
          (try simp only [Act.put]); (try simp only [List.getElem_toArray]); (try simp only [List.getElem_cons_succ]); (try simp only [List.getElem_cons_zero]); (try simp only [List.setIfInBounds_toArray]); (try simp only [List.set_cons_succ]); (try simp only [List.set_cons_zero])
          refine wpAnyH_take (i := 21) (v := ?_) rfl (by kernel_rfl) (by kernel_rfl) (by kernel_rfl) (fun _ _ _ h => h) (Or.inl ⟨by kernel_rfl, ?_⟩) hHeld ?_
          rotate_left
          · intro w' hSw
            (try dsimp only at hSw)
            (try simp only [List.getElem_toArray]); (try simp only [List.getElem_cons_succ]); (try simp only [List.getElem_cons_zero])
            go_simp
            try with_reducible rfl
          (try simp only [Act.put]); (try simp only [List.getElem_toArray]); (try simp only [List.getElem_cons_succ]); (try simp only [List.getElem_cons_zero]); (try simp only [List.setIfInBounds_toArray]); (try simp only [List.set_cons_succ]); (try simp only [List.set_cons_zero])
          refine wpAnyH_take (i := 22) (v := ?_) rfl (by kernel_rfl) (by kernel_rfl) (by kernel_rfl) (fun _ _ _ h => h) (Or.inl ⟨by kernel_rfl, ?_⟩) hHeld ?_
          rotate_left
          · intro w' hSw
            (try dsimp only at hSw)
            (try simp only [List.getElem_toArray]); (try simp only [List.getElem_cons_succ]); (try simp only [List.getElem_cons_zero])
            go_simp
            try with_reducible rfl
          (try simp only [Act.put]); (try simp only [List.getElem_toArray]); (try simp only [List.getElem_cons_succ]); (try simp only [List.getElem_cons_zero]); (try simp only [List.setIfInBounds_toArray]); (try simp only [List.set_cons_succ]); (try simp only [List.set_cons_zero])
          refine wpAnyH_take (i := 24) (v := ?_) rfl (by kernel_rfl) (by kernel_rfl) (by kernel_rfl) (fun _ _ _ h => h) (Or.inl ⟨by kernel_rfl, ?_⟩) hHeld ?_
          rotate_left
          · intro w' hSw
            (try dsimp only at hSw)
            (try simp only [List.getElem_toArray]); (try simp only [List.getElem_cons_succ]); (try simp only [List.getElem_cons_zero])
            go_simp
            try with_reducible rfl
          (try simp only [Act.put]); (try simp only [List.getElem_toArray]); (try simp only [List.getElem_cons_succ]); (try simp only [List.getElem_cons_zero]); (try simp only [List.setIfInBounds_toArray]); (try simp only [List.set_cons_succ]); (try simp only [List.set_cons_zero])
          refine wpAnyH_ready (rs := [23]) (by kernel_rfl) (by simp) ?_
          refine AllReadyH.cons rfl (fun K hK => ?_) AllReadyH.nil
          rw [if_pos (by kernel_rfl)]
          go_simp
          go_fit (size_c g2 aS n cS _ _ _ wq rowD)
          rintro e w' ⟨rfl, rfl⟩
          go_wp2_with fail
          refine hK.out _ _ (⟨y1, y3⟩) (fun hHeld => ?_)
          clear hK K
          (try simp only [Act.put]); (try simp only [List.getElem_toArray]); (try simp only [List.getElem_cons_succ]); (try simp only [List.getElem_cons_zero]); (try simp only [List.setIfInBounds_toArray]); (try simp only [List.set_cons_succ]); (try simp only [List.set_cons_zero])
          refine wpAnyH_take (i := 25) (v := ?_) rfl (by kernel_rfl) (by kernel_rfl) (by kernel_rfl) (fun _ _ _ h => h) (Or.inl ⟨by kernel_rfl, ?_⟩) hHeld ?_
          rotate_left
          · intro w' hSw
            (try dsimp only at hSw)
            (try simp only [List.getElem_toArray]); (try simp only [List.getElem_cons_succ]); (try simp only [List.getElem_cons_zero])
            go_simp
            try with_reducible rfl
          (try simp only [Act.put]); (try simp only [List.getElem_toArray]); (try simp only [List.getElem_cons_succ]); (try simp only [List.getElem_cons_zero]); (try simp only [List.setIfInBounds_toArray]); (try simp only [List.set_cons_succ]); (try simp only [List.set_cons_zero])
          refine wpAnyH_take (i := 26) (v := ?_) rfl (by kernel_rfl) (by kernel_rfl) (by kernel_rfl) (fun _ _ _ h => h) (Or.inl ⟨by kernel_rfl, ?_⟩) hHeld ?_
          rotate_left
          · intro w' hSw
            (try dsimp only at hSw)
            (try simp only [List.getElem_toArray]); (try simp only [List.getElem_cons_succ]); (try simp only [List.getElem_cons_zero])
            go_simp
            try with_reducible rfl
          (try simp only [Act.put]); (try simp only [List.getElem_toArray]); (try simp only [List.getElem_cons_succ]); (try simp only [List.getElem_cons_zero]); (try simp only [List.setIfInBounds_toArray]); (try simp only [List.set_cons_succ]); (try simp only [List.set_cons_zero])
          refine wpAnyH_done (by kernel_rfl) ?_ _
          clear hHeld y1 y3 rowD rowR
          go_wp2_with fail
          go_roundw
          case rel => exact ⟨k + 1, by omega, by omega, by go_num, HR.out⟩
          case measure => simp [intOf]; omega
      · obtain ⟨D, R, hd, hr, hD, hR, hDR, kk⟩ := hduo
        obtain ⟨S, Q, dn, ar⟩ := s
        replace hd : IsDisk wr D g S Q dn ar := hd
        replace hr : IsRef wr R r S Q dn ar := hr
        replace ok : DiskOk S Q ar := ok
        replace hQk : Q.length ≤ k := hQk
        replace hSn : S.length = n := hSn
        rcases Nat.lt_or_ge k l.length with hkl | hkl
        · have hi1 : (k : Int) < (l.length : Int) := by omega
          have hi2 : (120 : Int) ≤ (k : Int) := by omega
          go_wp2_with fail
          go_fit (startI g S Q dn ar wr hd)
          rintro e w2 ⟨rfl, hd2, k2⟩
          go_wp2_with fail
          go_fit (rstartI r S Q dn ar w2 (hr.keep k2 (fun b hb h => hDR b h hb)))
          rintro e w3 ⟨rfl, hr3, k3⟩
          have hd3 := hd2.keep k3 (fun b hb h => hDR b hb h)
          have kk3 := (kk.then k2 (fun i hi h => by have := (hD i h).1; omega)).then k3 (fun i hi h => by have := (hR i h).1; omega)
          have okS := start_ok ok dn
          have hQs : (if dn then [] else Q).length ≤ 120 := by split; exact Nat.zero_le _; omega
          generalize (if dn then [] else Q) = Q' at *
          have H3 := Lib.hid hd3
          have HR3 := Lib.hid hr3
          have HK3 := Lib.hid kk3
          clear hd hr hd2 k2 k3 hd3 hr3 kk3 kk
          go_wp2_with fail
          go_loopw [19] (fun i wr => ∃ j : Nat, j ≤ n ∧ j ≤ 40 ∧ i = .int .i64 j ∧ IsDisk wr D g S Q' false 0 ∧ IsRef wr R r S Q' false 0 ∧ Keep Nix W wr) (fun i _ => n - (intOf i).toNat)
          case atStart => exact ⟨0, by omega, by omega, rfl, H3.out, HR3.out, HK3.out⟩
          case round =>
            clear H3 HR3 HK3
            obtain ⟨j, hj, hj40, rfl, hd, hr, kk⟩ := hrel
            rcases Nat.lt_or_ge j n with hjn | hjn
            · have hjn' : (j : Int) < (n : Int) := by omega
              rcases Nat.lt_or_ge j 40 with h40 | h40
              · have h40' : (j : Int) < 40 := by omega
                have hj0 : (0 : Int) ≤ (j : Int) := by omega
                have hjS : (j : Int) < (S.length : Int) := by omega
                have hlen := show_len okS hj0 hjS
                go_wp2_with fail
                go_fit (read_c g S Q' 0 (j : Int) wr hd okS (by omega) hj0 hjS)
                rintro e w4 ⟨g6, rfl, hg6, row6, k6⟩
                go_wp2_with fail
                go_fit (rread_c r S Q' 0 (j : Int) w4 (hr.keep k6 (fun _ _ h => h)) okS (by omega) hj0 hjS)
                rintro e w5 ⟨a7, c7, rfl, lie7, k7⟩
                replace row6 := row6.keep k7 id
                have HD5 := Lib.hid (hd.keep (k6.trans k7) (fun _ _ h => h))
                have HR5 := Lib.hid (hr.keep (k6.trans k7) (fun _ _ h => h))
                have HK5 := Lib.hid (kk.trans (k6.trans k7))
                clear hd hr kk k6 k7
                generalize showF S Q' (j : Int) = lS at *
                go_wp2_with fail
                go_fit (bytes_c (some ⟨g6, 0, none⟩) a7 64 64 64 c7 lS lS w5 hlen hlen (row6.lies (fun _ => True) trivial (off := 0) (fun j u hu => by rw [Nat.zero_add]; exact hu)) lie7)
                rintro e w' ⟨rfl, rfl⟩
                rw [show decide (lS = lS) = true from decide_eq_true rfl]
                clear row6 lie7
                go_wp2_with fail
                go_roundw
                case rel => exact ⟨j + 1, by omega, by omega, by go_num, HD5.out, HR5.out, HK5.out⟩
                case measure => simp [intOf]; omega
              · have h40' : (40 : Int) ≤ (j : Int) := by omega
                clear hd hr
                go_wp2_with fail
                go_ret
                exact ⟨rfl, kk⟩
            · have hjn' : (n : Int) ≤ (j : Int) := by omega
              clear hd hr
              go_wp2_with fail
              go_ret
              exact ⟨rfl, kk⟩
        · have hi1 : (l.length : Int) ≤ (k : Int) := by omega
          go_wp2_with fail
          go_fit (startI g S Q dn ar wr hd)
          rintro e w2 ⟨rfl, hd2, k2⟩
          go_wp2_with fail
          go_fit (rstartI r S Q dn ar w2 (hr.keep k2 (fun b hb h => hDR b h hb)))
          rintro e w3 ⟨rfl, hr3, k3⟩
          have hd3 := hd2.keep k3 (fun b hb h => hDR b hb h)
          have kk3 := (kk.then k2 (fun i hi h => by have := (hD i h).1; omega)).then k3 (fun i hi h => by have := (hR i h).1; omega)
          have okS := start_ok ok dn
          have hQs : (if dn then [] else Q).length ≤ 120 := by split; exact Nat.zero_le _; omega
          generalize (if dn then [] else Q) = Q' at *
          have H3 := Lib.hid hd3
          have HR3 := Lib.hid hr3
          have HK3 := Lib.hid kk3
          clear hd hr hd2 k2 k3 hd3 hr3 kk3 kk
          go_wp2_with fail
          go_loopw [19] (fun i wr => ∃ j : Nat, j ≤ n ∧ j ≤ 40 ∧ i = .int .i64 j ∧ IsDisk wr D g S Q' false 0 ∧ IsRef wr R r S Q' false 0 ∧ Keep Nix W wr) (fun i _ => n - (intOf i).toNat)
          case atStart => exact ⟨0, by omega, by omega, rfl, H3.out, HR3.out, HK3.out⟩
          case round =>
            clear H3 HR3 HK3
            obtain ⟨j, hj, hj40, rfl, hd, hr, kk⟩ := hrel
            rcases Nat.lt_or_ge j n with hjn | hjn
            · have hjn' : (j : Int) < (n : Int) := by omega
              rcases Nat.lt_or_ge j 40 with h40 | h40
              · have h40' : (j : Int) < 40 := by omega
                have hj0 : (0 : Int) ≤ (j : Int) := by omega
                have hjS : (j : Int) < (S.length : Int) := by omega
                have hlen := show_len okS hj0 hjS
                go_wp2_with fail
                go_fit (read_c g S Q' 0 (j : Int) wr hd okS (by omega) hj0 hjS)
                rintro e w4 ⟨g6, rfl, hg6, row6, k6⟩
                go_wp2_with fail
                go_fit (rread_c r S Q' 0 (j : Int) w4 (hr.keep k6 (fun _ _ h => h)) okS (by omega) hj0 hjS)
                rintro e w5 ⟨a7, c7, rfl, lie7, k7⟩
                replace row6 := row6.keep k7 id
                have HD5 := Lib.hid (hd.keep (k6.trans k7) (fun _ _ h => h))
                have HR5 := Lib.hid (hr.keep (k6.trans k7) (fun _ _ h => h))
                have HK5 := Lib.hid (kk.trans (k6.trans k7))
                clear hd hr kk k6 k7
                generalize showF S Q' (j : Int) = lS at *
                go_wp2_with fail
                go_fit (bytes_c (some ⟨g6, 0, none⟩) a7 64 64 64 c7 lS lS w5 hlen hlen (row6.lies (fun _ => True) trivial (off := 0) (fun j u hu => by rw [Nat.zero_add]; exact hu)) lie7)
                rintro e w' ⟨rfl, rfl⟩
                rw [show decide (lS = lS) = true from decide_eq_true rfl]
                clear row6 lie7
                go_wp2_with fail
                go_roundw
                case rel => exact ⟨j + 1, by omega, by omega, by go_num, HD5.out, HR5.out, HK5.out⟩
                case measure => simp [intOf]; omega
              · have h40' : (40 : Int) ≤ (j : Int) := by omega
                clear hd hr
                go_wp2_with fail
                go_ret
                exact ⟨rfl, kk⟩
            · have hjn' : (n : Int) ≤ (j : Int) := by omega
              clear hd hr
              go_wp2_with fail
              go_ret
              exact ⟨rfl, kk⟩
end diskPlays
end Go.Proofs.Ytdnbpfohmhhmkaa
