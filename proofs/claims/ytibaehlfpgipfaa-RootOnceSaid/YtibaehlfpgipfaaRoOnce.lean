/- ROOT: the law RootOnce. Printed by mac.py. -/
import Derived.Test.YtibaehlfpgipfaaRoJ
namespace Go.Proofs.Ytibaehlfpgipfaa
open Go.RowKit

section
attribute [local go_sem ↓] stz_Reply stz_Command ldz_Command
attribute [local go_sem] rep_cat cat_ver
set_option maxRecDepth 100000 in
set_option maxHeartbeats 16000000 in
theorem once_walk (W : World) (a0 a1 : Option Addr) (cap cap1 : Nat) (ls : List GOp) (asks : List GCommand) (HX : rList rGOp W (· < W.heap.size) [.slice a0 ls.length cap] ls) (HQ : rList rGCommand W (· < W.heap.size) [.slice a1 asks.length cap1] asks) :
    Calls Try.prog 4 #[.slice a0 ls.length cap, .slice a1 asks.length cap1] W fun e w' => e = .returned (.bool true) ∧ Keep Nix W w' := by
  have HN := Lib.hid (rootNew_c 2 2 W ⟨by decide, by decide⟩ ⟨by decide, by decide⟩)
  have hcap2 : ls.length ≤ 140737488351232 := (rList_len HX).2.2
  have hcap3 : asks.length ≤ 140737488351232 := (rList_len HQ).2.2
  replace HX := Lib.hid HX
  replace HQ := Lib.hid HQ
  go_enter Try.func4, Try.ntmps4
  go_wp2_with fail
  go_fit HN.out
  rintro e w1 ⟨g, O, rfl, H1, hO1, k1⟩
  clear HN
  have A1 : IsAt W w1 O g 0 _ := ⟨H1, hO1, k1⟩
  clear H1 hO1 k1
  have HS1 : Hid (Small 0 (startS 2 ⟨0, 2, [⟨2 + 1, [120]⟩], 0, []⟩)) := start_small _ _ (start_rt 2 ⟨by decide, by decide⟩)
  obtain ⟨R0, hR0⟩ : ∃ r, Hid (startS 2 ⟨0, 2, [⟨2 + 1, [120]⟩], 0, []⟩ = r) := ⟨_, rfl⟩
  have ho0 : Hid (R0.order = []) := by show _ = _; rw [← hR0.out]; rfl
  rw [hR0.out] at A1 HS1
  clear hR0
  go_wp2_with fail
  go_fit (roawake_c w1)
  rintro e w2 ⟨rfl, k2⟩
  have A2 := A1.nix k2
  clear A1 k2
  go_wp2_with fail
  go_loopw [7, 8] (fun v i wr => ∃ (k m : Nat) (O : Nat → Prop) (R : RootS) (aO : Option Addr) (cO : Nat), v = .slice aO R.order.length cO ∧ i = .int .i64 (k : Int) ∧ k ≤ ls.length ∧ k ≤ 60 ∧ IsAt W wr O g m R ∧ Small m R ∧ m ≤ 8 * k ∧ LO wr O aO R.order) (fun _ i _ => ls.length - (intOf i).toNat)
  case atStart => exact ⟨0, 0, O, R0, none, 0, by rw [ho0.out]; rfl, rfl, Nat.zero_le _, Nat.zero_le _, A2, HS1.out, Nat.le_refl _, by rw [ho0.out]; exact LO.nil _ _⟩
  case round =>
    clear A2 HS1 ho0
    obtain ⟨k, m, O, R, aO, cO, rfl, rfl, hk, hk60, A, hS, hm, LO0⟩ := hrel
    have HS := Lib.hid hS
    have HLO := Lib.hid LO0
    clear hS LO0
    by_cases hlt : k < ls.length
    · by_cases h60 : k < 60
      · have hi0 : (0 : Int) ≤ (k : Int) := by omega
        have hi1 : (k : Int) < (ls.length : Int) := by omega
        have hi2 : (k : Int) < 60 := by omega
        have hwk : IntKind.i64.wrap ((k : Int) + 1) = (k : Int) + 1 := by rw [IntKind.wrap_i64]; omega
        obtain ⟨b, o, cc, cs, e1, hbW, hb', rOp, hcl⟩ := rList_at rGOp_lawful (by decide) HX.out k hlt
        simp only [List.cons.injEq, Value.slice.injEq, and_true] at e1
        obtain ⟨rfl, -, -⟩ := e1
        obtain ⟨x, hxk⟩ : ∃ x, Hid (ls[k].fC = x) := ⟨ls[k].fC, rfl⟩
        obtain ⟨c0, rC, hcs⟩ := op_cmd rOp
        rw [hxk.out] at rC
        have hl0 := rGCommand_lawful.len rC
        have hone0 := rGCommand_ones rC
        obtain ⟨d0, d2, d3, d6, du⟩ := cmd_at rC
        have hWc : (wholeSem 53 (.pointer (some ⟨b, o + k * 27, none⟩))).run Try.prog wr = .ok (.value (.agg c0.toArray)) wr := Whole.at S_Command hl0 (fun i u hu => (A.kept.cell (p := ⟨b, _, none⟩) hb' id).trans (hcl i u (hcs i u hu)))
        obtain ⟨hst, row, kB⟩ := boxed (P := Try.prog) (zs := [.int .i64 0, .int .i64 0, .int .u64 0, .int .i64 0, .int .i64 0, .int .i64 0, .bool false, .slice none 0 0, .slice none 0 0, .slice none 0 0, .slice none 0 0, .slice none 0 0, .slice none 0 0, .int .i64 0, .string ⟨#[]⟩, .slice none 0 0, .slice none 0 0, .int .i64 0, .int .i64 0, .string ⟨#[]⟩, .slice none 0 0, .bool false, .int .i64 0, .bool false, .string ⟨#[]⟩]) S_Command wr rfl hl0 hone0
        have hld := Whole.run (P := Try.prog) S_Command hl0 row
        have ROW := Lib.hid row
        have RC := Lib.hid rC
        have D0 := Lib.hid d0
        have D2 := Lib.hid d2
        have D3 := Lib.hid d3
        have D6 := Lib.hid d6
        have hb0 : Hid (∀ b, O b → b ≠ wr.heap.size) := fun b hb e => by have := A.is.lt b hb; omega
        have HVL := Lib.hid A.is.last
        have A2 := A.nix kB
        have LO2 := Lib.hid (HLO.out.nix kB)
        have HC := Lib.hid (smallCmd_c x c0 _ (rGCommand_lawful.nix rC A2.kept))
        have hgB : Hid (wr.heap.size < ((wr.alloc (.cells [.int .i64 0, .int .i64 0, .int .u64 0, .int .i64 0, .int .i64 0, .int .i64 0, .bool false, .slice none 0 0, .slice none 0 0, .slice none 0 0, .slice none 0 0, .slice none 0 0, .slice none 0 0, .int .i64 0, .string ⟨#[]⟩, .slice none 0 0, .slice none 0 0, .int .i64 0, .int .i64 0, .string ⟨#[]⟩, .slice none 0 0, .bool false, .int .i64 0, .bool false, .string ⟨#[]⟩].toArray 53)).setRow wr.heap.size c0.toArray).heap.size) := row.lt
        obtain ⟨sx, HSX⟩ : ∃ y, Hid (smallCmd x = y) := ⟨_, rfl⟩
        rw [HSX.out] at HC
        clear row rC d0 d2 d3 d6 hcl hcs rOp hl0 hone0 kB A HLO
        go_wp2_with fail
        clear hst hWc
        go_fit HC.out
        rintro e w3 ⟨rfl, k3⟩
        clear HC hld
        have row3 := ROW.out.keep k3 id
        have A3 := A2.nix k3
        have LO3 := Lib.hid (LO2.out.nix k3)
        have hg3 : Hid (wr.heap.size < w3.heap.size) := Nat.lt_of_lt_of_le hgB.out k3.size
        clear ROW A2 LO2 k3 hgB
        cases sx with
        | false =>
          go_wp2_with fail
          go_roundw
          case rel => exact ⟨k + 1, m, O, R, aO, cO, rfl, by go_num, by omega, by omega, A3, HS.out, by omega, LO3.out⟩
          case measure => simp [intOf]; omega
        | true =>
          have y2 := (row3.cell 2).trans D2.out
          have HC := Lib.hid (decided_c O g m R x.fTxn w3 A3.is du)
          have ROW := Lib.hid row3
          clear row3
          go_wp2_with fail
          go_fit HC.out
          rintro e w4 ⟨rfl, rfl⟩
          clear HC y2
          have HC := Lib.hid (run_look O g m R [.int .i64 20, .int .i64 0, .int .u64 0, .int .i64 0, .int .i64 0, .int .i64 0, .bool false, .slice none 0 0, .slice none 0 0, .slice none 0 0, .slice none 0 0, .slice none 0 0, .slice none 0 0, .int .i64 0, .string ⟨#[]⟩, .slice none 0 0, .slice none 0 0, .int .i64 0, .int .i64 0, .string ⟨#[]⟩, .slice none 0 0, .bool false, .int .i64 0, .bool false, .string ⟨#[]⟩] w3 A3.is rfl (by have := HS.out.beg; omega))
          go_wp2_with fail
          go_fit HC.out
          rintro e w4 hpost
          obtain ⟨cs4, O4, rfl, hr4, A4, k4, ho4⟩ := A3.run hpost
          obtain ⟨_, _, _, _, _, _, _, _, _, _, _, _, rfl, -⟩ := rGReply_open hr4
          replace A4 : IsAt W w4 O4 g (m + 1) R := A4
          rw [show (repL 0 R.begun (lastC R) R.routes).fCatalog.fVersion = (lastC R).fVersion from rfl]
          have LO4 := Lib.hid (LO3.out.step k4 ho4)
          have row4 := ROW.out.keep k4 (fun h => hb0.out _ h rfl)
          have hb4 : Hid (∀ b, O4 b → b ≠ wr.heap.size) := fun b hb e => (ho4 b hb).elim (fun h => hb0.out b h e) (fun h => by have := hg3.out; omega)
          have hg4 : Hid (wr.heap.size < w4.heap.size) := Nat.lt_of_lt_of_le hg3.out k4.size
          have hld := Whole.run (P := Try.prog) S_Command (rGCommand_lawful.len RC.out) row4
          have HR1 := run_order R x
          have HS5 := Lib.hid (HS.out.more.run x)
          have HC := run_all O4 g (m + 1) R x c0 w4 A4.is HS.out.more (by omega) (by omega) (rGCommand_lawful.keep RC.out (S := Nix) (w' := w4) (w := W) A4.kept (fun _ _ h => h)) (fun b hb => Nat.lt_of_lt_of_le hb A4.kept.size) (small_idx HSX.out)
          obtain ⟨Y, hY⟩ : ∃ Y, Hid (runF R x = Y) := ⟨_, rfl⟩
          rw [hY.out] at HC HR1 HS5
          replace HC := Lib.hid HC
          have ROW := Lib.hid row4
          replace HR1 := Lib.hid HR1
          clear row4 hpost hr4 k4 ho4 A3 LO3 hg3 hb0
          go_wp2_with fail
          go_fit HC.out
          rintro e w5 hpost
          obtain ⟨cs5, O5, rfl, hr5, A5, k5, ho5⟩ := A4.run hpost
          have LO5 := LO4.out.step k5 ho5
          have row5 := ROW.out.keep k5 (fun h => hb4.out _ h rfl)
          have hb5 : Hid (∀ b, O5 b → b ≠ wr.heap.size) := fun b hb e => (ho5 b hb).elim (fun h => hb4.out b h e) (fun h => by have := hg4.out; omega)
          have hg5 : Hid (wr.heap.size < w5.heap.size) := Nat.lt_of_lt_of_le hg4.out k5.size
          clear hpost hr5 k5 ho5 A4 LO4 hg4 hb4 ROW HC hld
          obtain ⟨y1, R2⟩ := Y
          replace A5 : IsAt W w5 O5 g (m + 1 + 1) R2 := A5
          replace HS5 : Hid (Small (m + 1 + 1) R2) := HS5
          replace HR1 : Hid (R2.order = R.order ∨ (x.fKind = 12 ∧ x.fFlag = true ∧ (x.fN = (lastC R).fVersion ∨ x.fN = (lastC R).fVersion - 1) ∧ R.dec x.fTxn = none ∧ R2.order = R.order ++ [x.fTxn])) := HR1
          clear hY
          have hOlen : R.order.length ≤ 80000 := by have := HS.out.ord; omega
          have HC := order_c O5 g (m + 1 + 1) R2 w5 A5.is
          rcases HR1.out with hsame | ⟨hk12, hfl, hver, hdn, happ⟩
          · rw [hsame] at HC
            have HORD := Lib.hid (congrArg List.length hsame)
            replace HORD : Hid (R2.order.length = R.order.length) := HORD
            have HSM := Lib.hid hsame
            replace HC := Lib.hid HC
            have ROW := Lib.hid row5
            clear hsame row5
            go_wp2_with fail
            go_fit HC.out
            rintro e w6 ⟨aN, cN, rfl, own6, k6⟩
            have LO6 : LO w6 O5 aN R2.order := LO.of (by rw [HSM.out]; exact own6) A5.is.lt
            have A6 := A5.nix k6
            have HP := Lib.hid (plainU_c aN aO R.order.length cN R.order.length cO R.order R.order w6 rfl rfl (by rw [← HSM.out]; exact LO6) (LO5.nix k6) (by unfold maxLen; omega))
            have HLN := Lib.hid LO6
            clear LO5 own6 k6 A5 HC LO6
            go_wp2_with fail
            go_fit HP.out
            rintro e w7 ⟨rfl, k7⟩
            have A5 := A6.nix k7
            have LO5 := HLN.out.nix k7
            have y0 : True := trivial
            have y2 : True := trivial
            have y3 : True := trivial
            have y6 : True := trivial
            have hld : True := trivial
            clear HP A6 HLN k7 ROW
            as_aux_lemma =>
              go_wp2_with fail
              clear y0 y2 y3 y6 hld
              have hm5 : m + 2 ≤ 8 * k + 2 := by omega
              have HLO5 := Lib.hid LO5
              clear LO5
              generalize w7 = wI at *
              go_loopw [14] (fun v wr => ∃ (j m' : Nat) (O : Nat → Prop), v = .int .i64 (j : Int) ∧ j ≤ asks.length ∧ j ≤ 5 ∧ IsAt W wr O g m' R2 ∧ Small m' R2 ∧ m' ≤ 8 * k + 2 + j ∧ LO wr O aN R2.order) (fun v _ => asks.length - (intOf v).toNat)
              case atStart => exact ⟨0, _, _, rfl, Nat.zero_le _, Nat.zero_le _, A5, HS5.out, hm5, HLO5.out⟩
              case round =>
                clear A5
                obtain ⟨j, m', O6, rfl, hj, hj5, A6, hS6, hm6, LO6⟩ := hrel
                have HS6 := Lib.hid hS6
                have HL6 := Lib.hid LO6
                clear hS6 LO6
                by_cases hjl : j < asks.length
                · by_cases h5 : j < 5
                  · have hj0 : (0 : Int) ≤ (j : Int) := by omega
                    have hj1 : (j : Int) < (asks.length : Int) := by omega
                    have hj2 : (j : Int) < 5 := by omega
                    have hwj : IntKind.i64.wrap ((j : Int) + 1) = (j : Int) + 1 := by rw [IntKind.wrap_i64]; omega
                    obtain ⟨b2, o2, cc2, cs2, e2, hbW2, hb2, rA, hca⟩ := rList_at rGCommand_lawful (by decide) HQ.out j hjl
                    simp only [List.cons.injEq, Value.slice.injEq, and_true] at e2
                    obtain ⟨rfl, -, -⟩ := e2
                    obtain ⟨x, hxj⟩ : ∃ x, Hid (asks[j] = x) := ⟨asks[j], rfl⟩
                    rw [hxj.out] at rA
                    have hl2 := rGCommand_lawful.len rA
                    have hone2 := rGCommand_ones rA
                    obtain ⟨d0, d2, -, -, du⟩ := cmd_at rA
                    have hWa : (wholeSem 53 (.pointer (some ⟨b2, o2 + j * 25, none⟩))).run Try.prog wr = .ok (.value (.agg cs2.toArray)) wr := Whole.at S_Command hl2 (fun i u hu => (A6.kept.cell (p := ⟨b2, _, none⟩) hb2 id).trans (hca i u hu))
                    obtain ⟨hstA, rowA, kA⟩ := boxed (P := Try.prog) (zs := [.int .i64 0, .int .i64 0, .int .u64 0, .int .i64 0, .int .i64 0, .int .i64 0, .bool false, .slice none 0 0, .slice none 0 0, .slice none 0 0, .slice none 0 0, .slice none 0 0, .slice none 0 0, .int .i64 0, .string ⟨#[]⟩, .slice none 0 0, .slice none 0 0, .int .i64 0, .int .i64 0, .string ⟨#[]⟩, .slice none 0 0, .bool false, .int .i64 0, .bool false, .string ⟨#[]⟩]) S_Command wr rfl hl2 hone2
                    have ywT := (rowA.cell 2).trans d2
                    have ROWA := Lib.hid rowA
                    have RA := Lib.hid rA
                    have D0 := Lib.hid d0
                    have D2 := Lib.hid d2
                    have A7 := A6.nix kA
                    have L7 := Lib.hid (HL6.out.nix kA)
                    have HBA : Hid (∀ b, O6 b → b ≠ wr.heap.size) := fun b hb e => by have := A6.is.lt b hb; omega
                    have HSZ7 : Hid (W.heap.size ≤ ((wr.alloc (.cells [.int .i64 0, .int .i64 0, .int .u64 0, .int .i64 0, .int .i64 0, .int .i64 0, .bool false, .slice none 0 0, .slice none 0 0, .slice none 0 0, .slice none 0 0, .slice none 0 0, .slice none 0 0, .int .i64 0, .string ⟨#[]⟩, .slice none 0 0, .slice none 0 0, .int .i64 0, .int .i64 0, .string ⟨#[]⟩, .slice none 0 0, .bool false, .int .i64 0, .bool false, .string ⟨#[]⟩].toArray 53)).setRow wr.heap.size cs2.toArray).heap.size) := A7.kept.size
                    have HC := Lib.hid (decided_c O6 g m' R2 x.fTxn _ A7.is du)
                    have HLw : Hid (∀ b, b < W.heap.size → b < wr.heap.size) := fun b hb => Nat.lt_of_lt_of_le hb A6.kept.size
                    clear rowA rA d0 d2 hca hl2 hone2 kA A6 HL6
                    go_wp2_with fail
                    clear hstA hWa
                    go_fit HC.out
                    rintro e w7 ⟨rfl, rfl⟩
                    clear HC
                    have y0 := (ROWA.out.cell 0).trans D0.out
                    generalize (wr.alloc (.cells [.int .i64 0, .int .i64 0, .int .u64 0, .int .i64 0, .int .i64 0, .int .i64 0, .bool false, .slice none 0 0, .slice none 0 0, .slice none 0 0, .slice none 0 0, .slice none 0 0, .slice none 0 0, .int .i64 0, .string ⟨#[]⟩, .slice none 0 0, .slice none 0 0, .int .i64 0, .int .i64 0, .string ⟨#[]⟩, .slice none 0 0, .bool false, .int .i64 0, .bool false, .string ⟨#[]⟩].toArray 53)).setRow wr.heap.size cs2.toArray = w7 at *
                    have hld := Whole.run (P := Try.prog) S_Command (rGCommand_lawful.len RA.out) ROWA.out
                    obtain ⟨dq, hdq⟩ : ∃ q, Hid (R2.dec x.fTxn = q) := ⟨_, rfl⟩
                    rw [hdq.out]
                    clear ywT
                    cases dq with
                    | none =>
                      clear hld y0
                      go_wp2_with fail
                      go_roundw
                      case rel => exact ⟨j + 1, m', O6, by go_num, by omega, by omega, A7, HS6.out, by omega, L7.out⟩
                      case measure => simp [intOf]; omega
                    | some pl =>
                      rw [show decO (some pl) = pl from rfl]
                      have hpl := (A7.is.ok.place _ _ hdq.out).1
                      by_cases hkk : x.fKind = 12 ∨ x.fKind = 13
                      · obtain ⟨k1, k2, k3⟩ := ask_known HS6.out x hdq.out hkk
                        have HC := run_dec2 O6 g m' R2 x cs2 w7 A7.is HS6.out (by omega) (by omega) (rGCommand_lawful.keep RA.out (S := Nix) (w' := w7) (w := W) A7.kept (fun _ _ h => h)) hkk
                        have HK := Lib.hid hkk
                        have K1 := Lib.hid k1
                        have K2 := Lib.hid k2
                        have K3 := Lib.hid k3
                        obtain ⟨Y, hY⟩ : ∃ Y, Hid (runF R2 x = Y) := ⟨_, rfl⟩
                        rw [hY.out] at HC
                        replace HC := Lib.hid HC
                        have hkt : ((x.fKind != 12) = false) ∨ ((x.fKind != 12) = true ∧ (x.fKind != 13) = false) := by
                          rcases hkk with h | h
                          · exact .inl (by simp [h])
                          · exact .inr ⟨by simp [h], by simp [h]⟩
                        clear hkk k1 k2 k3
                        rcases hkt with ht1 | ⟨ht1, ht2⟩
                        · as_aux_lemma =>
                            go_wp2_with fail
                            go_fit HC.out
                            rintro e w8 hpost
                            obtain ⟨cs8, O8, rfl, hr8, A8, k8, ho8⟩ := A7.run hpost
                            have hz2 : Y.2 = R2 := by rw [← hY.out]; exact K1.out
                            rw [hz2] at A8
                            have L8 := L7.out.step k8 ho8
                            have hlY := rGReply_lawful.len hr8
                            have hoY := rGReply_ones hr8
                            obtain ⟨hstY, rowY, kY⟩ := boxed (P := Try.prog) (zs := [.int .i64 0, .int .u64 0, .int .i64 0, .bool false, .slice none 0 0, .slice none 0 0, .int .i64 0, .int .i64 0, .slice none 0 0, .slice none 0 0, .int .i64 0, .int .i64 0, .slice none 0 0, .int .i64 0, .slice none 0 0]) S_Reply w8 rfl hlY hoY
                            have rowA8 := (ROWA.out.keep k8 (fun h => HBA.out _ h rfl)).keep kY id
                            have z0 := (rowY.cell 0).trans (rep_cells hr8).1
                            have z2 := (rowY.cell 2).trans (rep_cells hr8).2.2
                            have yT := (rowA8.cell 2).trans D2.out
                            have hn8 : Y.1.fN = pl := by rw [← hY.out]; exact K2.out
                            have he8 : Y.1.fErr = (if pl = 0 then 16 else 0) := by rw [← hY.out]; exact K3.out
                            rw [hn8] at z2
                            rw [he8] at z0
                            have A9 := A8.nix kY
                            have L9 := Lib.hid (L8.nix kY)
                            have HC := decided_c O8 g (m' + 1) R2 x.fTxn _ A9.is du
                            rw [hdq.out, show decO (some pl) = pl from rfl] at HC
                            replace HC := Lib.hid HC
                            replace z2 : ((w8.alloc (.cells [.int .i64 0, .int .u64 0, .int .i64 0, .bool false, .slice none 0 0, .slice none 0 0, .int .i64 0, .int .i64 0, .slice none 0 0, .slice none 0 0, .int .i64 0, .int .i64 0, .slice none 0 0, .int .i64 0, .slice none 0 0].toArray 40)).setRow w8.heap.size cs8.toArray).cell? ⟨w8.heap.size, 2, none⟩ = some (.int .i64 pl) := z2
                            clear hpost k8 ho8 hr8 hlY hoY kY A8 L8 rowA8 rowY hld y0 hz2 hn8 he8 A7
                            generalize (w8.alloc (.cells [.int .i64 0, .int .u64 0, .int .i64 0, .bool false, .slice none 0 0, .slice none 0 0, .int .i64 0, .int .i64 0, .slice none 0 0, .slice none 0 0, .int .i64 0, .int .i64 0, .slice none 0 0, .int .i64 0, .slice none 0 0].toArray 40)).setRow w8.heap.size cs8.toArray = w9 at *
                            by_cases hp0 : pl = 0
                            · subst hp0
                              rw [if_pos rfl] at z0
                              go_wp2_with fail
                              go_fit HC.out
                              rintro e w10 ⟨rfl, rfl⟩
                              clear HC
                              go_wp2_with fail
                              go_roundw
                              case rel => exact ⟨j + 1, m' + 1, O8, by go_num, by omega, by omega, A9, HS6.out.more, by omega, L9.out⟩
                              case measure => simp [intOf]; omega
                            · rw [if_neg hp0] at z0
                              have hp1 : (0 : Int) < pl := by omega
                              have hp2 : decide ((0 : Int) < pl) = true := decide_eq_true hp1
                              clear hp0
                              go_wp2_with fail
                              go_fit HC.out
                              rintro e w10 ⟨rfl, rfl⟩
                              clear HC
                              go_wp2_with fail
                              go_roundw
                              case rel => exact ⟨j + 1, m' + 1, O8, by go_num, by omega, by omega, A9, HS6.out.more, by omega, L9.out⟩
                              case measure => simp [intOf]; omega
                        · as_aux_lemma =>
                            go_wp2_with fail
                            go_fit HC.out
                            rintro e w8 hpost
                            obtain ⟨cs8, O8, rfl, hr8, A8, k8, ho8⟩ := A7.run hpost
                            have hz2 : Y.2 = R2 := by rw [← hY.out]; exact K1.out
                            rw [hz2] at A8
                            have L8 := L7.out.step k8 ho8
                            have hlY := rGReply_lawful.len hr8
                            have hoY := rGReply_ones hr8
                            obtain ⟨hstY, rowY, kY⟩ := boxed (P := Try.prog) (zs := [.int .i64 0, .int .u64 0, .int .i64 0, .bool false, .slice none 0 0, .slice none 0 0, .int .i64 0, .int .i64 0, .slice none 0 0, .slice none 0 0, .int .i64 0, .int .i64 0, .slice none 0 0, .int .i64 0, .slice none 0 0]) S_Reply w8 rfl hlY hoY
                            have rowA8 := (ROWA.out.keep k8 (fun h => HBA.out _ h rfl)).keep kY id
                            have z0 := (rowY.cell 0).trans (rep_cells hr8).1
                            have z2 := (rowY.cell 2).trans (rep_cells hr8).2.2
                            have yT := (rowA8.cell 2).trans D2.out
                            have hn8 : Y.1.fN = pl := by rw [← hY.out]; exact K2.out
                            have he8 : Y.1.fErr = (if pl = 0 then 16 else 0) := by rw [← hY.out]; exact K3.out
                            rw [hn8] at z2
                            rw [he8] at z0
                            have A9 := A8.nix kY
                            have L9 := Lib.hid (L8.nix kY)
                            have HC := decided_c O8 g (m' + 1) R2 x.fTxn _ A9.is du
                            rw [hdq.out, show decO (some pl) = pl from rfl] at HC
                            replace HC := Lib.hid HC
                            replace z2 : ((w8.alloc (.cells [.int .i64 0, .int .u64 0, .int .i64 0, .bool false, .slice none 0 0, .slice none 0 0, .int .i64 0, .int .i64 0, .slice none 0 0, .slice none 0 0, .int .i64 0, .int .i64 0, .slice none 0 0, .int .i64 0, .slice none 0 0].toArray 40)).setRow w8.heap.size cs8.toArray).cell? ⟨w8.heap.size, 2, none⟩ = some (.int .i64 pl) := z2
                            clear hpost k8 ho8 hr8 hlY hoY kY A8 L8 rowA8 rowY hld y0 hz2 hn8 he8 A7
                            generalize (w8.alloc (.cells [.int .i64 0, .int .u64 0, .int .i64 0, .bool false, .slice none 0 0, .slice none 0 0, .int .i64 0, .int .i64 0, .slice none 0 0, .slice none 0 0, .int .i64 0, .int .i64 0, .slice none 0 0, .int .i64 0, .slice none 0 0].toArray 40)).setRow w8.heap.size cs8.toArray = w9 at *
                            by_cases hp0 : pl = 0
                            · subst hp0
                              rw [if_pos rfl] at z0
                              go_wp2_with fail
                              go_fit HC.out
                              rintro e w10 ⟨rfl, rfl⟩
                              clear HC
                              go_wp2_with fail
                              go_roundw
                              case rel => exact ⟨j + 1, m' + 1, O8, by go_num, by omega, by omega, A9, HS6.out.more, by omega, L9.out⟩
                              case measure => simp [intOf]; omega
                            · rw [if_neg hp0] at z0
                              have hp1 : (0 : Int) < pl := by omega
                              have hp2 : decide ((0 : Int) < pl) = true := decide_eq_true hp1
                              clear hp0
                              go_wp2_with fail
                              go_fit HC.out
                              rintro e w10 ⟨rfl, rfl⟩
                              clear HC
                              go_wp2_with fail
                              go_roundw
                              case rel => exact ⟨j + 1, m' + 1, O8, by go_num, by omega, by omega, A9, HS6.out.more, by omega, L9.out⟩
                              case measure => simp [intOf]; omega
                      · have hk1 : (x.fKind != 12) = true := by simp; omega
                        have hk2 : (x.fKind != 13) = true := by simp; omega
                        clear hld hkk
                        go_wp2_with fail
                        go_roundw
                        case rel => exact ⟨j + 1, m', O6, by go_num, by omega, by omega, A7, HS6.out, by omega, L7.out⟩
                        case measure => simp [intOf]; omega
                  · have hj0 : (0 : Int) ≤ (j : Int) := by omega
                    have hj1 : (j : Int) < (asks.length : Int) := by omega
                    have hj2 : ¬ (j : Int) < 5 := by omega
                    go_wp2_with fail
                    go_roundw
                    case rel => exact ⟨k + 1, m', O6, R2, aN, cN, by rw [HORD.out], by go_num, by omega, by omega, A6, HS6.out, by omega, HL6.out⟩
                    case measure => simp [intOf]; omega
                · have hj1 : ¬ (j : Int) < (asks.length : Int) := by omega
                  go_wp2_with fail
                  go_roundw
                  case rel => exact ⟨k + 1, m', O6, R2, aN, cN, by rw [HORD.out], by go_num, by omega, by omega, A6, HS6.out, by omega, HL6.out⟩
                  case measure => simp [intOf]; omega
          · rw [happ, List.length_append, List.length_singleton] at HC
            have HORD : Hid (R2.order.length = R.order.length + 1) := by show _ = _; rw [happ]; simp
            have HSM := Lib.hid happ
            replace HC := Lib.hid HC
            have ROW := Lib.hid row5
            have hVER : Hid _ := hver
            clear happ row5 hver
            rw [hdn]
            go_wp2_with fail
            go_fit HC.out
            rintro e w6 ⟨aN, cN, rfl, own6, k6⟩
            have LO6 : LO w6 O5 aN R2.order := LO.of (n := R.order.length + 1) (c := cN) (by rw [HSM.out]; exact own6) A5.is.lt
            have A6 := A5.nix k6
            have hbd := owned_bounds own6
            obtain ⟨bN, restN, rfl, hbN, rowN, -⟩ := own_row own6 (Nat.succ_pos _)
            have LP6 := Lib.hid (LO5.nix k6)
            have HNE : (decide (R.order ++ [x.fTxn] = R.order)) = false := decide_eq_false (fun h => by have := congrArg List.length h; simp at this)
            have HP := plainU_c (some ⟨bN, 0, none⟩) aO (R.order.length + 1) cN R.order.length cO (R.order ++ [x.fTxn]) R.order w6 (by simp) rfl (by rw [← HSM.out]; exact LO6) LP6.out (by unfold maxLen; omega)
            rw [HNE] at HP
            replace HP := Lib.hid HP
            have HLN := Lib.hid LO6
            have ROW6 := Lib.hid (ROW.out.keep k6 id)
            have HRN := Lib.hid rowN
            clear LO5 own6 k6 A5 HC LO6 ROW HNE rowN
            go_wp2_with fail
            go_fit HP.out
            rintro e w7 ⟨rfl, k7⟩
            have A5 := A6.nix k7
            have LO5 := HLN.out.nix k7
            have LP7 := LP6.out.nix k7
            have row7 := ROW6.out.keep k7 id
            have rowN7 := HRN.out.keep k7 id
            have y0 := (row7.cell 0).trans D0.out
            have y2 := (row7.cell 2).trans D2.out
            have y3 := (row7.cell 3).trans D3.out
            have y6 := (row7.cell 6).trans D6.out
            have yN : w7.cell? ⟨bN, R.order.length, none⟩ = some (.int .u64 x.fTxn) := by
              rw [rowN7.cell, List.getElem?_append_left (by simp)]
              simp [ivU]
            rw [hk12] at y0
            rw [hfl] at y6
            have HPP : Hid (∀ q, Calls Try.prog 11 #[.slice (some ⟨bN, 0, none⟩) R.order.length cN, .slice aO R.order.length cO] (w7.drewN q) fun e w'' => e = .returned (.bool true) ∧ ∃ m, w'' = w7.drewN m) := fun q => by
              have h1 : Lies (w7.drewN q) (fun b => ¬ O5 b ∧ b < w7.heap.size) (some ⟨bN, 0, none⟩) (R.order.map ivU) := by
                intro hx
                obtain ⟨b1, o1, e1, hp1, hb1, hc1⟩ := (show Lies w7 _ (some ⟨bN, 0, none⟩) (R2.order.map ivU) from LO5) (by rw [HSM.out]; simp)
                refine ⟨b1, o1, e1, hp1, hb1, fun i u hu => hc1 i u ?_⟩
                rw [HSM.out, List.map_append, List.getElem?_append_left (by rw [List.length_map]; have := (List.getElem?_eq_some_iff.1 hu).1; simpa using this)]
                exact hu
              have h := plainU_q (some ⟨bN, 0, none⟩) aO R.order.length cN R.order.length cO R.order R.order (w7.drewN q) rfl rfl h1 (Lies.same LP7) (by unfold maxLen; omega)
              rw [show decide (R.order = R.order) = true from by simp] at h
              exact quiet_dr h
            have hwl : IntKind.i64.wrap ((R.order.length : Int) + 1) = (R.order.length : Int) + 1 := by rw [IntKind.wrap_i64]; omega
            have hc0 : R.order.length ≤ cN := by omega
            have hq0 : (0 : Int) ≤ (R.order.length : Int) := by omega
            have hq1 : (R.order.length : Int) < (R.order.length : Int) + 1 := by omega
            have hq2 : (R.order.length : Int) < ((R.order.length + 1 : Nat) : Int) := by omega
            have hvr : isI64 ((lastC R).fVersion) := by
              have h1 := HS.out.cats
              have h2 := HVL.out
              exact ⟨by omega, by omega⟩
            have hwv : IntKind.i64.wrap ((lastC R).fVersion - 1) = (lastC R).fVersion - 1 := by
              have h1 := HS.out.cats
              have h2 := HVL.out
              rw [IntKind.wrap_i64]; omega
            have hvt : ((x.fN != (lastC R).fVersion) = false) ∨ ((x.fN != (lastC R).fVersion) = true ∧ (x.fN != (lastC R).fVersion - 1) = false) := by
              rcases hVER.out with h | h
              · exact .inl (by simp [h])
              · exact .inr ⟨by simp; omega, by simp [h]⟩
            clear HP A6 HLN k7 ROW6 HRN LP6 LP7 hbd row7 rowN7
            generalize (lastC R).fVersion = ver at *
            have hld : True := trivial
            rcases hvt with hv1 | ⟨hv1, hv2⟩
            · go_wp2_with fail
              go_quiet ((go_at_call 11; exact HPP.out _))
              replace A5 := A5.nix ((Keep.refl Nix _).drewN nq)
              replace LO5 := LO5.nix ((Keep.refl Nix _).drewN nq)
              as_aux_lemma =>
                go_wp2_with fail
                clear y0 y2 y3 y6 hld
                have hm5 : m + 2 ≤ 8 * k + 2 := by omega
                have HLO5 := Lib.hid LO5
                clear LO5
                generalize (w7.drewN nq) = wI at *
                go_loopw [14] (fun v wr => ∃ (j m' : Nat) (O : Nat → Prop), v = .int .i64 (j : Int) ∧ j ≤ asks.length ∧ j ≤ 5 ∧ IsAt W wr O g m' R2 ∧ Small m' R2 ∧ m' ≤ 8 * k + 2 + j ∧ LO wr O (some ⟨bN, 0, none⟩) R2.order) (fun v _ => asks.length - (intOf v).toNat)
                case atStart => exact ⟨0, _, _, rfl, Nat.zero_le _, Nat.zero_le _, A5, HS5.out, hm5, HLO5.out⟩
                case round =>
                  clear A5
                  obtain ⟨j, m', O6, rfl, hj, hj5, A6, hS6, hm6, LO6⟩ := hrel
                  have HS6 := Lib.hid hS6
                  have HL6 := Lib.hid LO6
                  clear hS6 LO6
                  by_cases hjl : j < asks.length
                  · by_cases h5 : j < 5
                    · have hj0 : (0 : Int) ≤ (j : Int) := by omega
                      have hj1 : (j : Int) < (asks.length : Int) := by omega
                      have hj2 : (j : Int) < 5 := by omega
                      have hwj : IntKind.i64.wrap ((j : Int) + 1) = (j : Int) + 1 := by rw [IntKind.wrap_i64]; omega
                      obtain ⟨b2, o2, cc2, cs2, e2, hbW2, hb2, rA, hca⟩ := rList_at rGCommand_lawful (by decide) HQ.out j hjl
                      simp only [List.cons.injEq, Value.slice.injEq, and_true] at e2
                      obtain ⟨rfl, -, -⟩ := e2
                      obtain ⟨x, hxj⟩ : ∃ x, Hid (asks[j] = x) := ⟨asks[j], rfl⟩
                      rw [hxj.out] at rA
                      have hl2 := rGCommand_lawful.len rA
                      have hone2 := rGCommand_ones rA
                      obtain ⟨d0, d2, -, -, du⟩ := cmd_at rA
                      have hWa : (wholeSem 53 (.pointer (some ⟨b2, o2 + j * 25, none⟩))).run Try.prog wr = .ok (.value (.agg cs2.toArray)) wr := Whole.at S_Command hl2 (fun i u hu => (A6.kept.cell (p := ⟨b2, _, none⟩) hb2 id).trans (hca i u hu))
                      obtain ⟨hstA, rowA, kA⟩ := boxed (P := Try.prog) (zs := [.int .i64 0, .int .i64 0, .int .u64 0, .int .i64 0, .int .i64 0, .int .i64 0, .bool false, .slice none 0 0, .slice none 0 0, .slice none 0 0, .slice none 0 0, .slice none 0 0, .slice none 0 0, .int .i64 0, .string ⟨#[]⟩, .slice none 0 0, .slice none 0 0, .int .i64 0, .int .i64 0, .string ⟨#[]⟩, .slice none 0 0, .bool false, .int .i64 0, .bool false, .string ⟨#[]⟩]) S_Command wr rfl hl2 hone2
                      have ywT := (rowA.cell 2).trans d2
                      have ROWA := Lib.hid rowA
                      have RA := Lib.hid rA
                      have D0 := Lib.hid d0
                      have D2 := Lib.hid d2
                      have A7 := A6.nix kA
                      have L7 := Lib.hid (HL6.out.nix kA)
                      have HBA : Hid (∀ b, O6 b → b ≠ wr.heap.size) := fun b hb e => by have := A6.is.lt b hb; omega
                      have HSZ7 : Hid (W.heap.size ≤ ((wr.alloc (.cells [.int .i64 0, .int .i64 0, .int .u64 0, .int .i64 0, .int .i64 0, .int .i64 0, .bool false, .slice none 0 0, .slice none 0 0, .slice none 0 0, .slice none 0 0, .slice none 0 0, .slice none 0 0, .int .i64 0, .string ⟨#[]⟩, .slice none 0 0, .slice none 0 0, .int .i64 0, .int .i64 0, .string ⟨#[]⟩, .slice none 0 0, .bool false, .int .i64 0, .bool false, .string ⟨#[]⟩].toArray 53)).setRow wr.heap.size cs2.toArray).heap.size) := A7.kept.size
                      have HC := Lib.hid (decided_c O6 g m' R2 x.fTxn _ A7.is du)
                      have HLw : Hid (∀ b, b < W.heap.size → b < wr.heap.size) := fun b hb => Nat.lt_of_lt_of_le hb A6.kept.size
                      clear rowA rA d0 d2 hca hl2 hone2 kA A6 HL6
                      go_wp2_with fail
                      clear hstA hWa
                      go_fit HC.out
                      rintro e w7 ⟨rfl, rfl⟩
                      clear HC
                      have y0 := (ROWA.out.cell 0).trans D0.out
                      generalize (wr.alloc (.cells [.int .i64 0, .int .i64 0, .int .u64 0, .int .i64 0, .int .i64 0, .int .i64 0, .bool false, .slice none 0 0, .slice none 0 0, .slice none 0 0, .slice none 0 0, .slice none 0 0, .slice none 0 0, .int .i64 0, .string ⟨#[]⟩, .slice none 0 0, .slice none 0 0, .int .i64 0, .int .i64 0, .string ⟨#[]⟩, .slice none 0 0, .bool false, .int .i64 0, .bool false, .string ⟨#[]⟩].toArray 53)).setRow wr.heap.size cs2.toArray = w7 at *
                      have hld := Whole.run (P := Try.prog) S_Command (rGCommand_lawful.len RA.out) ROWA.out
                      obtain ⟨dq, hdq⟩ : ∃ q, Hid (R2.dec x.fTxn = q) := ⟨_, rfl⟩
                      rw [hdq.out]
                      clear ywT
                      cases dq with
                      | none =>
                        clear hld y0
                        go_wp2_with fail
                        go_roundw
                        case rel => exact ⟨j + 1, m', O6, by go_num, by omega, by omega, A7, HS6.out, by omega, L7.out⟩
                        case measure => simp [intOf]; omega
                      | some pl =>
                        rw [show decO (some pl) = pl from rfl]
                        have hpl := (A7.is.ok.place _ _ hdq.out).1
                        by_cases hkk : x.fKind = 12 ∨ x.fKind = 13
                        · obtain ⟨k1, k2, k3⟩ := ask_known HS6.out x hdq.out hkk
                          have HC := run_dec2 O6 g m' R2 x cs2 w7 A7.is HS6.out (by omega) (by omega) (rGCommand_lawful.keep RA.out (S := Nix) (w' := w7) (w := W) A7.kept (fun _ _ h => h)) hkk
                          have HK := Lib.hid hkk
                          have K1 := Lib.hid k1
                          have K2 := Lib.hid k2
                          have K3 := Lib.hid k3
                          obtain ⟨Y, hY⟩ : ∃ Y, Hid (runF R2 x = Y) := ⟨_, rfl⟩
                          rw [hY.out] at HC
                          replace HC := Lib.hid HC
                          have hkt : ((x.fKind != 12) = false) ∨ ((x.fKind != 12) = true ∧ (x.fKind != 13) = false) := by
                            rcases hkk with h | h
                            · exact .inl (by simp [h])
                            · exact .inr ⟨by simp [h], by simp [h]⟩
                          clear hkk k1 k2 k3
                          rcases hkt with ht1 | ⟨ht1, ht2⟩
                          · as_aux_lemma =>
                              go_wp2_with fail
                              go_fit HC.out
                              rintro e w8 hpost
                              obtain ⟨cs8, O8, rfl, hr8, A8, k8, ho8⟩ := A7.run hpost
                              have hz2 : Y.2 = R2 := by rw [← hY.out]; exact K1.out
                              rw [hz2] at A8
                              have L8 := L7.out.step k8 ho8
                              have hlY := rGReply_lawful.len hr8
                              have hoY := rGReply_ones hr8
                              obtain ⟨hstY, rowY, kY⟩ := boxed (P := Try.prog) (zs := [.int .i64 0, .int .u64 0, .int .i64 0, .bool false, .slice none 0 0, .slice none 0 0, .int .i64 0, .int .i64 0, .slice none 0 0, .slice none 0 0, .int .i64 0, .int .i64 0, .slice none 0 0, .int .i64 0, .slice none 0 0]) S_Reply w8 rfl hlY hoY
                              have rowA8 := (ROWA.out.keep k8 (fun h => HBA.out _ h rfl)).keep kY id
                              have z0 := (rowY.cell 0).trans (rep_cells hr8).1
                              have z2 := (rowY.cell 2).trans (rep_cells hr8).2.2
                              have yT := (rowA8.cell 2).trans D2.out
                              have hn8 : Y.1.fN = pl := by rw [← hY.out]; exact K2.out
                              have he8 : Y.1.fErr = (if pl = 0 then 16 else 0) := by rw [← hY.out]; exact K3.out
                              rw [hn8] at z2
                              rw [he8] at z0
                              have A9 := A8.nix kY
                              have L9 := Lib.hid (L8.nix kY)
                              have HC := decided_c O8 g (m' + 1) R2 x.fTxn _ A9.is du
                              rw [hdq.out, show decO (some pl) = pl from rfl] at HC
                              replace HC := Lib.hid HC
                              replace z2 : ((w8.alloc (.cells [.int .i64 0, .int .u64 0, .int .i64 0, .bool false, .slice none 0 0, .slice none 0 0, .int .i64 0, .int .i64 0, .slice none 0 0, .slice none 0 0, .int .i64 0, .int .i64 0, .slice none 0 0, .int .i64 0, .slice none 0 0].toArray 40)).setRow w8.heap.size cs8.toArray).cell? ⟨w8.heap.size, 2, none⟩ = some (.int .i64 pl) := z2
                              clear hpost k8 ho8 hr8 hlY hoY kY A8 L8 rowA8 rowY hld y0 hz2 hn8 he8 A7
                              generalize (w8.alloc (.cells [.int .i64 0, .int .u64 0, .int .i64 0, .bool false, .slice none 0 0, .slice none 0 0, .int .i64 0, .int .i64 0, .slice none 0 0, .slice none 0 0, .int .i64 0, .int .i64 0, .slice none 0 0, .int .i64 0, .slice none 0 0].toArray 40)).setRow w8.heap.size cs8.toArray = w9 at *
                              by_cases hp0 : pl = 0
                              · subst hp0
                                rw [if_pos rfl] at z0
                                go_wp2_with fail
                                go_fit HC.out
                                rintro e w10 ⟨rfl, rfl⟩
                                clear HC
                                go_wp2_with fail
                                go_roundw
                                case rel => exact ⟨j + 1, m' + 1, O8, by go_num, by omega, by omega, A9, HS6.out.more, by omega, L9.out⟩
                                case measure => simp [intOf]; omega
                              · rw [if_neg hp0] at z0
                                have hp1 : (0 : Int) < pl := by omega
                                have hp2 : decide ((0 : Int) < pl) = true := decide_eq_true hp1
                                clear hp0
                                go_wp2_with fail
                                go_fit HC.out
                                rintro e w10 ⟨rfl, rfl⟩
                                clear HC
                                go_wp2_with fail
                                go_roundw
                                case rel => exact ⟨j + 1, m' + 1, O8, by go_num, by omega, by omega, A9, HS6.out.more, by omega, L9.out⟩
                                case measure => simp [intOf]; omega
                          · as_aux_lemma =>
                              go_wp2_with fail
                              go_fit HC.out
                              rintro e w8 hpost
                              obtain ⟨cs8, O8, rfl, hr8, A8, k8, ho8⟩ := A7.run hpost
                              have hz2 : Y.2 = R2 := by rw [← hY.out]; exact K1.out
                              rw [hz2] at A8
                              have L8 := L7.out.step k8 ho8
                              have hlY := rGReply_lawful.len hr8
                              have hoY := rGReply_ones hr8
                              obtain ⟨hstY, rowY, kY⟩ := boxed (P := Try.prog) (zs := [.int .i64 0, .int .u64 0, .int .i64 0, .bool false, .slice none 0 0, .slice none 0 0, .int .i64 0, .int .i64 0, .slice none 0 0, .slice none 0 0, .int .i64 0, .int .i64 0, .slice none 0 0, .int .i64 0, .slice none 0 0]) S_Reply w8 rfl hlY hoY
                              have rowA8 := (ROWA.out.keep k8 (fun h => HBA.out _ h rfl)).keep kY id
                              have z0 := (rowY.cell 0).trans (rep_cells hr8).1
                              have z2 := (rowY.cell 2).trans (rep_cells hr8).2.2
                              have yT := (rowA8.cell 2).trans D2.out
                              have hn8 : Y.1.fN = pl := by rw [← hY.out]; exact K2.out
                              have he8 : Y.1.fErr = (if pl = 0 then 16 else 0) := by rw [← hY.out]; exact K3.out
                              rw [hn8] at z2
                              rw [he8] at z0
                              have A9 := A8.nix kY
                              have L9 := Lib.hid (L8.nix kY)
                              have HC := decided_c O8 g (m' + 1) R2 x.fTxn _ A9.is du
                              rw [hdq.out, show decO (some pl) = pl from rfl] at HC
                              replace HC := Lib.hid HC
                              replace z2 : ((w8.alloc (.cells [.int .i64 0, .int .u64 0, .int .i64 0, .bool false, .slice none 0 0, .slice none 0 0, .int .i64 0, .int .i64 0, .slice none 0 0, .slice none 0 0, .int .i64 0, .int .i64 0, .slice none 0 0, .int .i64 0, .slice none 0 0].toArray 40)).setRow w8.heap.size cs8.toArray).cell? ⟨w8.heap.size, 2, none⟩ = some (.int .i64 pl) := z2
                              clear hpost k8 ho8 hr8 hlY hoY kY A8 L8 rowA8 rowY hld y0 hz2 hn8 he8 A7
                              generalize (w8.alloc (.cells [.int .i64 0, .int .u64 0, .int .i64 0, .bool false, .slice none 0 0, .slice none 0 0, .int .i64 0, .int .i64 0, .slice none 0 0, .slice none 0 0, .int .i64 0, .int .i64 0, .slice none 0 0, .int .i64 0, .slice none 0 0].toArray 40)).setRow w8.heap.size cs8.toArray = w9 at *
                              by_cases hp0 : pl = 0
                              · subst hp0
                                rw [if_pos rfl] at z0
                                go_wp2_with fail
                                go_fit HC.out
                                rintro e w10 ⟨rfl, rfl⟩
                                clear HC
                                go_wp2_with fail
                                go_roundw
                                case rel => exact ⟨j + 1, m' + 1, O8, by go_num, by omega, by omega, A9, HS6.out.more, by omega, L9.out⟩
                                case measure => simp [intOf]; omega
                              · rw [if_neg hp0] at z0
                                have hp1 : (0 : Int) < pl := by omega
                                have hp2 : decide ((0 : Int) < pl) = true := decide_eq_true hp1
                                clear hp0
                                go_wp2_with fail
                                go_fit HC.out
                                rintro e w10 ⟨rfl, rfl⟩
                                clear HC
                                go_wp2_with fail
                                go_roundw
                                case rel => exact ⟨j + 1, m' + 1, O8, by go_num, by omega, by omega, A9, HS6.out.more, by omega, L9.out⟩
                                case measure => simp [intOf]; omega
                        · have hk1 : (x.fKind != 12) = true := by simp; omega
                          have hk2 : (x.fKind != 13) = true := by simp; omega
                          clear hld hkk
                          go_wp2_with fail
                          go_roundw
                          case rel => exact ⟨j + 1, m', O6, by go_num, by omega, by omega, A7, HS6.out, by omega, L7.out⟩
                          case measure => simp [intOf]; omega
                    · have hj0 : (0 : Int) ≤ (j : Int) := by omega
                      have hj1 : (j : Int) < (asks.length : Int) := by omega
                      have hj2 : ¬ (j : Int) < 5 := by omega
                      go_wp2_with fail
                      go_roundw
                      case rel => exact ⟨k + 1, m', O6, R2, (some ⟨bN, 0, none⟩), cN, by rw [HORD.out], by go_num, by omega, by omega, A6, HS6.out, by omega, HL6.out⟩
                      case measure => simp [intOf]; omega
                  · have hj1 : ¬ (j : Int) < (asks.length : Int) := by omega
                    go_wp2_with fail
                    go_roundw
                    case rel => exact ⟨k + 1, m', O6, R2, (some ⟨bN, 0, none⟩), cN, by rw [HORD.out], by go_num, by omega, by omega, A6, HS6.out, by omega, HL6.out⟩
                    case measure => simp [intOf]; omega
            · go_wp2_with fail
              go_quiet ((go_at_call 11; exact HPP.out _))
              replace A5 := A5.nix ((Keep.refl Nix _).drewN nq)
              replace LO5 := LO5.nix ((Keep.refl Nix _).drewN nq)
              as_aux_lemma =>
                go_wp2_with fail
                clear y0 y2 y3 y6 hld
                have hm5 : m + 2 ≤ 8 * k + 2 := by omega
                have HLO5 := Lib.hid LO5
                clear LO5
                generalize (w7.drewN nq) = wI at *
                go_loopw [14] (fun v wr => ∃ (j m' : Nat) (O : Nat → Prop), v = .int .i64 (j : Int) ∧ j ≤ asks.length ∧ j ≤ 5 ∧ IsAt W wr O g m' R2 ∧ Small m' R2 ∧ m' ≤ 8 * k + 2 + j ∧ LO wr O (some ⟨bN, 0, none⟩) R2.order) (fun v _ => asks.length - (intOf v).toNat)
                case atStart => exact ⟨0, _, _, rfl, Nat.zero_le _, Nat.zero_le _, A5, HS5.out, hm5, HLO5.out⟩
                case round =>
                  clear A5
                  obtain ⟨j, m', O6, rfl, hj, hj5, A6, hS6, hm6, LO6⟩ := hrel
                  have HS6 := Lib.hid hS6
                  have HL6 := Lib.hid LO6
                  clear hS6 LO6
                  by_cases hjl : j < asks.length
                  · by_cases h5 : j < 5
                    · have hj0 : (0 : Int) ≤ (j : Int) := by omega
                      have hj1 : (j : Int) < (asks.length : Int) := by omega
                      have hj2 : (j : Int) < 5 := by omega
                      have hwj : IntKind.i64.wrap ((j : Int) + 1) = (j : Int) + 1 := by rw [IntKind.wrap_i64]; omega
                      obtain ⟨b2, o2, cc2, cs2, e2, hbW2, hb2, rA, hca⟩ := rList_at rGCommand_lawful (by decide) HQ.out j hjl
                      simp only [List.cons.injEq, Value.slice.injEq, and_true] at e2
                      obtain ⟨rfl, -, -⟩ := e2
                      obtain ⟨x, hxj⟩ : ∃ x, Hid (asks[j] = x) := ⟨asks[j], rfl⟩
                      rw [hxj.out] at rA
                      have hl2 := rGCommand_lawful.len rA
                      have hone2 := rGCommand_ones rA
                      obtain ⟨d0, d2, -, -, du⟩ := cmd_at rA
                      have hWa : (wholeSem 53 (.pointer (some ⟨b2, o2 + j * 25, none⟩))).run Try.prog wr = .ok (.value (.agg cs2.toArray)) wr := Whole.at S_Command hl2 (fun i u hu => (A6.kept.cell (p := ⟨b2, _, none⟩) hb2 id).trans (hca i u hu))
                      obtain ⟨hstA, rowA, kA⟩ := boxed (P := Try.prog) (zs := [.int .i64 0, .int .i64 0, .int .u64 0, .int .i64 0, .int .i64 0, .int .i64 0, .bool false, .slice none 0 0, .slice none 0 0, .slice none 0 0, .slice none 0 0, .slice none 0 0, .slice none 0 0, .int .i64 0, .string ⟨#[]⟩, .slice none 0 0, .slice none 0 0, .int .i64 0, .int .i64 0, .string ⟨#[]⟩, .slice none 0 0, .bool false, .int .i64 0, .bool false, .string ⟨#[]⟩]) S_Command wr rfl hl2 hone2
                      have ywT := (rowA.cell 2).trans d2
                      have ROWA := Lib.hid rowA
                      have RA := Lib.hid rA
                      have D0 := Lib.hid d0
                      have D2 := Lib.hid d2
                      have A7 := A6.nix kA
                      have L7 := Lib.hid (HL6.out.nix kA)
                      have HBA : Hid (∀ b, O6 b → b ≠ wr.heap.size) := fun b hb e => by have := A6.is.lt b hb; omega
                      have HSZ7 : Hid (W.heap.size ≤ ((wr.alloc (.cells [.int .i64 0, .int .i64 0, .int .u64 0, .int .i64 0, .int .i64 0, .int .i64 0, .bool false, .slice none 0 0, .slice none 0 0, .slice none 0 0, .slice none 0 0, .slice none 0 0, .slice none 0 0, .int .i64 0, .string ⟨#[]⟩, .slice none 0 0, .slice none 0 0, .int .i64 0, .int .i64 0, .string ⟨#[]⟩, .slice none 0 0, .bool false, .int .i64 0, .bool false, .string ⟨#[]⟩].toArray 53)).setRow wr.heap.size cs2.toArray).heap.size) := A7.kept.size
                      have HC := Lib.hid (decided_c O6 g m' R2 x.fTxn _ A7.is du)
                      have HLw : Hid (∀ b, b < W.heap.size → b < wr.heap.size) := fun b hb => Nat.lt_of_lt_of_le hb A6.kept.size
                      clear rowA rA d0 d2 hca hl2 hone2 kA A6 HL6
                      go_wp2_with fail
                      clear hstA hWa
                      go_fit HC.out
                      rintro e w7 ⟨rfl, rfl⟩
                      clear HC
                      have y0 := (ROWA.out.cell 0).trans D0.out
                      generalize (wr.alloc (.cells [.int .i64 0, .int .i64 0, .int .u64 0, .int .i64 0, .int .i64 0, .int .i64 0, .bool false, .slice none 0 0, .slice none 0 0, .slice none 0 0, .slice none 0 0, .slice none 0 0, .slice none 0 0, .int .i64 0, .string ⟨#[]⟩, .slice none 0 0, .slice none 0 0, .int .i64 0, .int .i64 0, .string ⟨#[]⟩, .slice none 0 0, .bool false, .int .i64 0, .bool false, .string ⟨#[]⟩].toArray 53)).setRow wr.heap.size cs2.toArray = w7 at *
                      have hld := Whole.run (P := Try.prog) S_Command (rGCommand_lawful.len RA.out) ROWA.out
                      obtain ⟨dq, hdq⟩ : ∃ q, Hid (R2.dec x.fTxn = q) := ⟨_, rfl⟩
                      rw [hdq.out]
                      clear ywT
                      cases dq with
                      | none =>
                        clear hld y0
                        go_wp2_with fail
                        go_roundw
                        case rel => exact ⟨j + 1, m', O6, by go_num, by omega, by omega, A7, HS6.out, by omega, L7.out⟩
                        case measure => simp [intOf]; omega
                      | some pl =>
                        rw [show decO (some pl) = pl from rfl]
                        have hpl := (A7.is.ok.place _ _ hdq.out).1
                        by_cases hkk : x.fKind = 12 ∨ x.fKind = 13
                        · obtain ⟨k1, k2, k3⟩ := ask_known HS6.out x hdq.out hkk
                          have HC := run_dec2 O6 g m' R2 x cs2 w7 A7.is HS6.out (by omega) (by omega) (rGCommand_lawful.keep RA.out (S := Nix) (w' := w7) (w := W) A7.kept (fun _ _ h => h)) hkk
                          have HK := Lib.hid hkk
                          have K1 := Lib.hid k1
                          have K2 := Lib.hid k2
                          have K3 := Lib.hid k3
                          obtain ⟨Y, hY⟩ : ∃ Y, Hid (runF R2 x = Y) := ⟨_, rfl⟩
                          rw [hY.out] at HC
                          replace HC := Lib.hid HC
                          have hkt : ((x.fKind != 12) = false) ∨ ((x.fKind != 12) = true ∧ (x.fKind != 13) = false) := by
                            rcases hkk with h | h
                            · exact .inl (by simp [h])
                            · exact .inr ⟨by simp [h], by simp [h]⟩
                          clear hkk k1 k2 k3
                          rcases hkt with ht1 | ⟨ht1, ht2⟩
                          · as_aux_lemma =>
                              go_wp2_with fail
                              go_fit HC.out
                              rintro e w8 hpost
                              obtain ⟨cs8, O8, rfl, hr8, A8, k8, ho8⟩ := A7.run hpost
                              have hz2 : Y.2 = R2 := by rw [← hY.out]; exact K1.out
                              rw [hz2] at A8
                              have L8 := L7.out.step k8 ho8
                              have hlY := rGReply_lawful.len hr8
                              have hoY := rGReply_ones hr8
                              obtain ⟨hstY, rowY, kY⟩ := boxed (P := Try.prog) (zs := [.int .i64 0, .int .u64 0, .int .i64 0, .bool false, .slice none 0 0, .slice none 0 0, .int .i64 0, .int .i64 0, .slice none 0 0, .slice none 0 0, .int .i64 0, .int .i64 0, .slice none 0 0, .int .i64 0, .slice none 0 0]) S_Reply w8 rfl hlY hoY
                              have rowA8 := (ROWA.out.keep k8 (fun h => HBA.out _ h rfl)).keep kY id
                              have z0 := (rowY.cell 0).trans (rep_cells hr8).1
                              have z2 := (rowY.cell 2).trans (rep_cells hr8).2.2
                              have yT := (rowA8.cell 2).trans D2.out
                              have hn8 : Y.1.fN = pl := by rw [← hY.out]; exact K2.out
                              have he8 : Y.1.fErr = (if pl = 0 then 16 else 0) := by rw [← hY.out]; exact K3.out
                              rw [hn8] at z2
                              rw [he8] at z0
                              have A9 := A8.nix kY
                              have L9 := Lib.hid (L8.nix kY)
                              have HC := decided_c O8 g (m' + 1) R2 x.fTxn _ A9.is du
                              rw [hdq.out, show decO (some pl) = pl from rfl] at HC
                              replace HC := Lib.hid HC
                              replace z2 : ((w8.alloc (.cells [.int .i64 0, .int .u64 0, .int .i64 0, .bool false, .slice none 0 0, .slice none 0 0, .int .i64 0, .int .i64 0, .slice none 0 0, .slice none 0 0, .int .i64 0, .int .i64 0, .slice none 0 0, .int .i64 0, .slice none 0 0].toArray 40)).setRow w8.heap.size cs8.toArray).cell? ⟨w8.heap.size, 2, none⟩ = some (.int .i64 pl) := z2
                              clear hpost k8 ho8 hr8 hlY hoY kY A8 L8 rowA8 rowY hld y0 hz2 hn8 he8 A7
                              generalize (w8.alloc (.cells [.int .i64 0, .int .u64 0, .int .i64 0, .bool false, .slice none 0 0, .slice none 0 0, .int .i64 0, .int .i64 0, .slice none 0 0, .slice none 0 0, .int .i64 0, .int .i64 0, .slice none 0 0, .int .i64 0, .slice none 0 0].toArray 40)).setRow w8.heap.size cs8.toArray = w9 at *
                              by_cases hp0 : pl = 0
                              · subst hp0
                                rw [if_pos rfl] at z0
                                go_wp2_with fail
                                go_fit HC.out
                                rintro e w10 ⟨rfl, rfl⟩
                                clear HC
                                go_wp2_with fail
                                go_roundw
                                case rel => exact ⟨j + 1, m' + 1, O8, by go_num, by omega, by omega, A9, HS6.out.more, by omega, L9.out⟩
                                case measure => simp [intOf]; omega
                              · rw [if_neg hp0] at z0
                                have hp1 : (0 : Int) < pl := by omega
                                have hp2 : decide ((0 : Int) < pl) = true := decide_eq_true hp1
                                clear hp0
                                go_wp2_with fail
                                go_fit HC.out
                                rintro e w10 ⟨rfl, rfl⟩
                                clear HC
                                go_wp2_with fail
                                go_roundw
                                case rel => exact ⟨j + 1, m' + 1, O8, by go_num, by omega, by omega, A9, HS6.out.more, by omega, L9.out⟩
                                case measure => simp [intOf]; omega
                          · as_aux_lemma =>
                              go_wp2_with fail
                              go_fit HC.out
                              rintro e w8 hpost
                              obtain ⟨cs8, O8, rfl, hr8, A8, k8, ho8⟩ := A7.run hpost
                              have hz2 : Y.2 = R2 := by rw [← hY.out]; exact K1.out
                              rw [hz2] at A8
                              have L8 := L7.out.step k8 ho8
                              have hlY := rGReply_lawful.len hr8
                              have hoY := rGReply_ones hr8
                              obtain ⟨hstY, rowY, kY⟩ := boxed (P := Try.prog) (zs := [.int .i64 0, .int .u64 0, .int .i64 0, .bool false, .slice none 0 0, .slice none 0 0, .int .i64 0, .int .i64 0, .slice none 0 0, .slice none 0 0, .int .i64 0, .int .i64 0, .slice none 0 0, .int .i64 0, .slice none 0 0]) S_Reply w8 rfl hlY hoY
                              have rowA8 := (ROWA.out.keep k8 (fun h => HBA.out _ h rfl)).keep kY id
                              have z0 := (rowY.cell 0).trans (rep_cells hr8).1
                              have z2 := (rowY.cell 2).trans (rep_cells hr8).2.2
                              have yT := (rowA8.cell 2).trans D2.out
                              have hn8 : Y.1.fN = pl := by rw [← hY.out]; exact K2.out
                              have he8 : Y.1.fErr = (if pl = 0 then 16 else 0) := by rw [← hY.out]; exact K3.out
                              rw [hn8] at z2
                              rw [he8] at z0
                              have A9 := A8.nix kY
                              have L9 := Lib.hid (L8.nix kY)
                              have HC := decided_c O8 g (m' + 1) R2 x.fTxn _ A9.is du
                              rw [hdq.out, show decO (some pl) = pl from rfl] at HC
                              replace HC := Lib.hid HC
                              replace z2 : ((w8.alloc (.cells [.int .i64 0, .int .u64 0, .int .i64 0, .bool false, .slice none 0 0, .slice none 0 0, .int .i64 0, .int .i64 0, .slice none 0 0, .slice none 0 0, .int .i64 0, .int .i64 0, .slice none 0 0, .int .i64 0, .slice none 0 0].toArray 40)).setRow w8.heap.size cs8.toArray).cell? ⟨w8.heap.size, 2, none⟩ = some (.int .i64 pl) := z2
                              clear hpost k8 ho8 hr8 hlY hoY kY A8 L8 rowA8 rowY hld y0 hz2 hn8 he8 A7
                              generalize (w8.alloc (.cells [.int .i64 0, .int .u64 0, .int .i64 0, .bool false, .slice none 0 0, .slice none 0 0, .int .i64 0, .int .i64 0, .slice none 0 0, .slice none 0 0, .int .i64 0, .int .i64 0, .slice none 0 0, .int .i64 0, .slice none 0 0].toArray 40)).setRow w8.heap.size cs8.toArray = w9 at *
                              by_cases hp0 : pl = 0
                              · subst hp0
                                rw [if_pos rfl] at z0
                                go_wp2_with fail
                                go_fit HC.out
                                rintro e w10 ⟨rfl, rfl⟩
                                clear HC
                                go_wp2_with fail
                                go_roundw
                                case rel => exact ⟨j + 1, m' + 1, O8, by go_num, by omega, by omega, A9, HS6.out.more, by omega, L9.out⟩
                                case measure => simp [intOf]; omega
                              · rw [if_neg hp0] at z0
                                have hp1 : (0 : Int) < pl := by omega
                                have hp2 : decide ((0 : Int) < pl) = true := decide_eq_true hp1
                                clear hp0
                                go_wp2_with fail
                                go_fit HC.out
                                rintro e w10 ⟨rfl, rfl⟩
                                clear HC
                                go_wp2_with fail
                                go_roundw
                                case rel => exact ⟨j + 1, m' + 1, O8, by go_num, by omega, by omega, A9, HS6.out.more, by omega, L9.out⟩
                                case measure => simp [intOf]; omega
                        · have hk1 : (x.fKind != 12) = true := by simp; omega
                          have hk2 : (x.fKind != 13) = true := by simp; omega
                          clear hld hkk
                          go_wp2_with fail
                          go_roundw
                          case rel => exact ⟨j + 1, m', O6, by go_num, by omega, by omega, A7, HS6.out, by omega, L7.out⟩
                          case measure => simp [intOf]; omega
                    · have hj0 : (0 : Int) ≤ (j : Int) := by omega
                      have hj1 : (j : Int) < (asks.length : Int) := by omega
                      have hj2 : ¬ (j : Int) < 5 := by omega
                      go_wp2_with fail
                      go_roundw
                      case rel => exact ⟨k + 1, m', O6, R2, (some ⟨bN, 0, none⟩), cN, by rw [HORD.out], by go_num, by omega, by omega, A6, HS6.out, by omega, HL6.out⟩
                      case measure => simp [intOf]; omega
                  · have hj1 : ¬ (j : Int) < (asks.length : Int) := by omega
                    go_wp2_with fail
                    go_roundw
                    case rel => exact ⟨k + 1, m', O6, R2, (some ⟨bN, 0, none⟩), cN, by rw [HORD.out], by go_num, by omega, by omega, A6, HS6.out, by omega, HL6.out⟩
                    case measure => simp [intOf]; omega
      · have hi0 : (0 : Int) ≤ (k : Int) := by omega
        have hi1 : (k : Int) < (ls.length : Int) := by omega
        have hi2 : ¬ (k : Int) < 60 := by omega
        go_wp2_with fail
        go_ret
        exact ⟨rfl, A.kept⟩
    · have hi1 : ¬ (k : Int) < (ls.length : Int) := by omega
      go_wp2_with fail
      go_ret
      exact ⟨rfl, A.kept⟩
end
end Go.Proofs.Ytibaehlfpgipfaa
