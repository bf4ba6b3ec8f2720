/- ROOT: the law RootOld. Printed by mac.py. -/
import Derived.Test.YtibaehlfpgipfaaRoB
namespace Go.Proofs.Ytibaehlfpgipfaa
open Go.RowKit

theorem addTable_good {c : GCatalog} {t : GTable} (h : smallC c) : ((addTableF c t).2 = 0 → smallC (addTableF c t).1 ∧ (addTableF c t).1.fVersion = c.fVersion + 1) ∧ isI64 (addTableF c t).2 := by
  unfold addTableF
  split
  · exact ⟨fun h => absurd (show (9 : Int) = 0 from h) (by decide), (⟨by decide, by decide⟩ : isI64 9)⟩
  · rename_i h1
    split
    · exact ⟨fun h => absurd (show (6 : Int) = 0 from h) (by decide), (⟨by decide, by decide⟩ : isI64 6)⟩
    · split
      · exact ⟨fun h => absurd (show (4 : Int) = 0 from h) (by decide), (⟨by decide, by decide⟩ : isI64 4)⟩
      · rename_i h3
        have hb := tableB_small (by cases hq : tableB t with | true => rfl | false => exact absurd hq h1)
        refine ⟨fun _ => ⟨⟨fun d hd => ?_, h.2.1, ?_, h.2.2.2⟩, rfl⟩, (⟨by decide, by decide⟩ : isI64 0)⟩
        · rcases List.mem_append.1 hd with hd | hd
          · exact h.1 d hd
          · have : d = { t with fID := c.fNext } := by simpa using hd
            subst this
            exact ⟨by show t.fColumns.length ≤ _; omega, by show t.fKey.length ≤ _; omega⟩
        · show (c.fTables ++ [_]).length ≤ _
          rw [List.length_append, List.length_singleton]
          omega
theorem one_list {α : Type} {R : RD α} {w : World} {q : Nat → Prop} {base e sz cap : Nat} {a : Option Addr} {cs : List Value} {x : α} (own : w.ownsRow base e sz (.slice a 1 cap) 1 cs) (hx : R w q cs x) (hq : ∀ b, base ≤ b → OwnB (.slice a 1 cap) b → q b) : rList R w q [.slice a 1 cap] [x] :=
  list_owned (R := R) (p := q) (l := [x]) (css := [cs]) (by simpa using own) ⟨rfl, fun i c y hc hy => by
    match i, hc, hy with
    | 0, hc, hy => cases hc; cases hy; exact hx
    | i + 1, hc, hy => simp at hc⟩ (by show 1 ≤ far; unfold far; decide) (fun _ _ h => h) hq
theorem decide_once (R : RootS) (hb : R.begun = 1) (hd : R.dec = fun _ => none) (ho : R.order = []) (G : Bool) :
    (decideF R 1 G).1 = (if G then 0 else 16) ∧ (decideF R 1 G).2.1 = (if G then 1 else 0) ∧ (decideF R 1 G).2.2.order.length ≤ 1 ∧ ∀ G2, (decideF (decideF R 1 G).2.2 1 G2).1 = (if G then 0 else 16) ∧ (decideF (decideF R 1 G).2.2 1 G2).2.1 = (if G then 1 else 0) := by
  obtain ⟨sp, cs, rs, bg, dc, od⟩ := R
  simp only at hb hd ho
  subst hb hd ho
  cases G
  · refine ⟨rfl, rfl, by show 0 ≤ 1; decide, fun G2 => ⟨rfl, rfl⟩⟩
  · refine ⟨rfl, rfl, by show 1 ≤ 1; decide, fun G2 => ⟨rfl, rfl⟩⟩
theorem rep_txn (v : Int) (a c d e f h i j k l m n o p : Value) (w : World) : (Instr.field 40 (.agg #[a, .int .u64 v, c, d, e, f, h, i, j, k, l, m, n, o, p]) 1).run Try.prog w = .ok (.int .u64 v) w := by kernel_rfl
section
attribute [local go_sem ↓] stz_Reply cv_up cv_down rm_uint
attribute [local go_sem] rep_txn
set_option maxRecDepth 100000 in
set_option maxHeartbeats 8000000 in
theorem old_walk (W : World) (a : Option Addr) (cap : Nat) (ls : List (List UInt8)) (used at' : Int) (HX : rList rStr W (· < W.heap.size) [.slice a ls.length cap] ls) (hcap : ls.length ≤ far) :
    Calls Try.prog 3 #[.slice a ls.length cap, .int .i64 used, .int .i64 at'] W fun e w' => e = .returned (.bool true) ∧ Keep Nix W w' := by
  have HN := Lib.hid (rootNew_c 1 1 W ⟨by decide, by decide⟩ ⟨by decide, by decide⟩)
  have hcap2 : ls.length ≤ 140737488351232 := by unfold far at hcap; omega
  have HX := Lib.hid HX
  clear hcap
  go_enter Try.func3, Try.ntmps3
  go_wp2_with fail
  go_fit HN.out
  rintro e w1 ⟨g, O, rfl, H1, hO1, k1⟩
  clear HN
  have A1 : IsAt W w1 O g 0 _ := ⟨H1, hO1, k1⟩
  clear H1 hO1 k1
  obtain ⟨r, hr⟩ : ∃ r : GRoutes, Hid ((⟨0, 1, [⟨1 + 1, [120]⟩], 0, []⟩ : GRoutes) = r) := ⟨_, rfl⟩
  rw [hr.out] at A1
  clear hr
  go_wp2_with fail
  go_fit (roawake_c w1)
  rintro e w2 ⟨rfl, k2⟩
  have A2 := A1.nix k2
  clear A1 k2
  by_cases h6 : 6 < ls.length
  · have h6' : (6 : Int) < (ls.length : Int) := by omega
    go_wp2_with fail
    go_fit (roawake_c w2)
    rintro e w3 ⟨rfl, k3⟩
    have K3 := Lib.hid (A2.kept.trans k3)
    clear k3 A2
    go_wp2_with fail
    go_ret
    exact ⟨rfl, K3.out⟩
  · have h6' : ¬ (6 : Int) < (ls.length : Int) := by omega
    have HC := Lib.hid (run_begin O g 0 _ (cmdV 11 0 0 false 0 ⟨#[]⟩ none 0 0 none 0 0) w2 A2.is rfl (by show (0 : Int) ≤ _; decide))
    unfold cmdV at HC
    go_wp2_with fail
    go_fit HC.out
    rintro e w3 hpost
    obtain ⟨cs3, O3, rfl, hr3, A3, k3, -⟩ := A2.run hpost
    obtain ⟨_, _, _, _, _, _, _, _, _, _, _, _, rfl, -⟩ := rGReply_open hr3
    replace A3 : IsAt W w3 O3 g 1 (bump (startS 1 r)) := A3
    clear hpost HC hr3 k3 A2 h6'
    go_wp2_with fail
    go_loopw [10, 11] (fun v i wr => ∃ (k c : Nat) (O : Nat → Prop) (R : RootS), v = .int .i64 (c : Int) ∧ i = .int .i64 (k : Int) ∧ k ≤ ls.length ∧ c ≤ k ∧ IsAt W wr O g (k + 1) R ∧ R.cats.length = c + 1 ∧ R.begun = 1 ∧ R.dec = (fun _ => none) ∧ R.order = []) (fun _ i _ => ls.length - (intOf i).toNat)
    case atStart => exact ⟨0, 0, O3, _, rfl, rfl, Nat.zero_le _, Nat.le_refl _, A3, rfl, rfl, rfl, rfl⟩
    case round =>
      clear A3
      obtain ⟨k, c, O, R, rfl, rfl, hk, hck, A, hlen, hb, hd, ho⟩ := hrel
      have hs := A.kept.size
      by_cases hlt : k < ls.length
      · have hi0 : (0 : Int) ≤ (k : Int) := by omega
        have hi1 : (k : Int) < (ls.length : Int) := by omega
        obtain ⟨b, o, cc, cs, e1, hbW, hb', rS, hcl⟩ := rList_at rStr_lawful (by decide) HX.out k hlt
        simp only [List.cons.injEq, Value.slice.injEq, and_true] at e1
        obtain ⟨rfl, -, -⟩ := e1
        obtain ⟨x, hxk⟩ : ∃ x, Hid (ls[k] = x) := ⟨ls[k], rfl⟩
        rw [hxk.out] at rS
        obtain ⟨rfl, hfx⟩ := rS
        have x0 := (A.kept.cell (p := ⟨b, o + k, none⟩) hb' id).trans (show W.cell? ⟨b, o + k, none⟩ = some (.string (strB x)) by simpa using hcl 0 _ rfl)
        clear hcl
        have hwk : IntKind.i64.wrap ((k : Int) + 1) = (k : Int) + 1 := by rw [IntKind.wrap_i64]; omega
        have hwc : IntKind.i64.wrap ((c : Int) + 1) = (c : Int) + 1 := by rw [IntKind.wrap_i64]; omega
        have kT : Keep Nix wr ((wr.alloc (.cells #[.string ⟨#[97]⟩, .int .i64 1, .bool false] 55)).alloc (.cells #[.int .i64 0] 3)) := ((Keep.refl Nix wr).alloc _).alloc _
        have i0 : isI64 0 := ⟨by decide, by decide⟩
        have ht : rGTable ((wr.alloc (.cells #[.string ⟨#[97]⟩, .int .i64 1, .bool false] 55)).alloc (.cells #[.int .i64 0] 3)) (fun b => b < wr.heap.size + 1 + 1) [.int .i64 0, .string (strB x), .slice (some ⟨wr.heap.size, 0, none⟩) 1 1, .slice (some ⟨wr.heap.size + 1, 0, none⟩) 1 1] ⟨0, x, [⟨[97], 1, false⟩], [0]⟩ := by
          have o1 := owned_keep (own_one wr 55 3 [.string ⟨#[97]⟩, .int .i64 1, .bool false] rfl) ((Keep.refl Nix _).alloc (.cells #[.int .i64 0] 3)) (fun _ _ h => h)
          have o2 := own_one (wr.alloc (.cells #[.string ⟨#[97]⟩, .int .i64 1, .bool false] 55)) 3 1 [.int .i64 0] rfl
          rw [show (wr.alloc (.cells #[.string ⟨#[97]⟩, .int .i64 1, .bool false] 55)).heap.size = wr.heap.size + 1 by simp] at o2
          refine rGTable_mk _ _ (x := ⟨0, x, [⟨[97], 1, false⟩], [0]⟩) i0 hfx (one_list o1 (rGColumn_mk _ _ (x := ⟨[97], 1, false⟩) (by show 1 ≤ far; unfold far; decide) ⟨by show _ ≤ (1 : Int); decide, by show (1 : Int) ≤ _; decide⟩) (fun b _ hb => ?_)) (one_list o2 ⟨rfl, wf_of_isI64 i0⟩ (fun b _ hb => ?_))
          · have := (o1.lt b hb).2
            simpa using this
          · have := (o2.lt b hb).2
            simpa using this
        obtain ⟨hg1, hg2⟩ := addTable_good (t := ⟨0, x, [⟨[97], 1, false⟩], [0]⟩) (A.is.ok.small (lastC R) (by
          unfold lastC
          rw [List.getLast?_eq_getElem?, List.getElem?_eq_getElem (by omega)]
          exact List.getElem_mem _)).1
        have hlast := A.is.last
        have AT := A.nix kT
        have HC := run_change O g (k + 1) R (cmdV 14 0 0 false 0 (strB x) (some ⟨wr.heap.size, 0, none⟩) 1 1 (some ⟨wr.heap.size + 1, 0, none⟩) 1 1) 14 _ _ AT.is rfl (.inl rfl) rfl (fun w' k' => change_table O g (k + 1) R _ _ ⟨0, x, [⟨[97], 1, false⟩], [0]⟩ (fun b => b < wr.heap.size + 1 + 1) w' (AT.is.nix k') rfl rfl (rGTable_lawful.nix ht k') (fun b hb => by have := k'.size; simp at this; omega) (by omega) hg1 hg2)
        obtain ⟨y, HY⟩ : ∃ y, Hid (addTableF (lastC R) ⟨0, x, [⟨[97], 1, false⟩], [0]⟩ = y) := ⟨_, rfl⟩
        rw [HY.out] at HC hg1 hg2
        have HC := Lib.hid HC
        unfold cmdV at HC
        have HG := Lib.hid hg1
        have HL := Lib.hid hlast
        clear ht hg1 hg2 kT hlast A
        go_wp2_with fail
        clear x0
        go_fit HC.out
        rintro e w4 hpost
        obtain ⟨cs4, O4, rfl, hr4, A4, k4, -⟩ := AT.run hpost
        clear hpost HC k4 AT
        have hl4 := rGReply_lawful.len hr4
        have ho4 := rGReply_ones hr4
        obtain ⟨hst4, rowB4, kV4⟩ := boxed (P := Try.prog) (zs := [.int .i64 0, .int .u64 0, .int .i64 0, .bool false, .slice none 0 0, .slice none 0 0, .int .i64 0, .int .i64 0, .slice none 0 0, .slice none 0 0, .int .i64 0, .int .i64 0, .slice none 0 0, .int .i64 0, .slice none 0 0]) S_Reply w4 rfl hl4 ho4
        have A5 := A4.nix kV4
        have c0 := (rowB4.cell 0).trans (rep_cells hr4).1
        have c2 := (rowB4.cell 2).trans (rep_cells hr4).2.2
        clear rowB4 hr4 kV4 hl4 ho4 A4
        by_cases hz : y.2 = 0
        · have hv := (HG.out hz).2
          have hP : changeP R 0 y = (repG 0 0 y.1.fVersion, addC R y.1) := if_pos hz
          rw [hP] at c0 c2 A5
          have HV : Hid (y.1.fVersion = (c : Int) + 1) := by show _ = _; have := HL.out; omega
          replace c0 : ((w4.alloc (.cells [.int .i64 0, .int .u64 0, .int .i64 0, .bool false, .slice none 0 0, .slice none 0 0, .int .i64 0, .int .i64 0, .slice none 0 0, .slice none 0 0, .int .i64 0, .int .i64 0, .slice none 0 0, .int .i64 0, .slice none 0 0].toArray 40)).setRow w4.heap.size cs4.toArray).cell? ⟨w4.heap.size, 0, none⟩ = some (.int .i64 0) := c0
          replace c2 : ((w4.alloc (.cells [.int .i64 0, .int .u64 0, .int .i64 0, .bool false, .slice none 0 0, .slice none 0 0, .int .i64 0, .int .i64 0, .slice none 0 0, .slice none 0 0, .int .i64 0, .int .i64 0, .slice none 0 0, .int .i64 0, .slice none 0 0].toArray 40)).setRow w4.heap.size cs4.toArray).cell? ⟨w4.heap.size, 2, none⟩ = some (.int .i64 ((c : Int) + 1)) := by rw [c2]; show some (Value.int .i64 y.1.fVersion) = _; rw [HV.out]
          have A6 := Lib.hid A5
          clear hv hP hz A5
          go_wp2_with fail
          go_roundw
          case rel => exact ⟨k + 1, c + 1, O4, _, by go_num, by go_num, by omega, by omega, A6.out, by show (R.cats ++ [y.1]).length = _; rw [List.length_append, List.length_singleton, hlen], hb, hd, ho⟩
          case measure => simp [intOf]; omega
        · have hP : changeP R 0 y = (repG y.2 0 0, R) := if_neg hz
          rw [hP] at c0 c2 A5
          have hz2 : (y.2 == 0) = false := by simp [hz]
          replace c0 : ((w4.alloc (.cells [.int .i64 0, .int .u64 0, .int .i64 0, .bool false, .slice none 0 0, .slice none 0 0, .int .i64 0, .int .i64 0, .slice none 0 0, .slice none 0 0, .int .i64 0, .int .i64 0, .slice none 0 0, .int .i64 0, .slice none 0 0].toArray 40)).setRow w4.heap.size cs4.toArray).cell? ⟨w4.heap.size, 0, none⟩ = some (.int .i64 y.2) := c0
          have A6 := Lib.hid A5
          clear hP hz A5 c2
          go_wp2_with fail
          go_roundw
          case rel => exact ⟨k + 1, c, O4, R, rfl, by go_num, by omega, by omega, A6.out, hlen, hb, hd, ho⟩
          case measure => simp [intOf]; omega
      · obtain rfl : k = ls.length := by omega
        obtain ⟨cu, m, hm, f1, f2, f3, f4⟩ := round_facts used (c + 3) (by omega) (by unfold maxLen; omega)
        replace f2 : ∀ w, (cvSem 3 56 (.int .i64 ((c : Int) + 3))).run Try.prog w = .ok (.value (.int .u64 ((c : Int) + 3))) w := fun w => by simpa using f2 w
        replace f3 : ∀ x y w, (rmSem 56 x y (.int .u64 (cu : Int)) (.int .u64 ((c : Int) + 3))).run Try.prog w = .ok (.value (.int .u64 (m : Int))) w := fun x y w => by simpa using f3 x y w
        have hw1 : IntKind.i64.wrap ((m : Int) - 1) = (m : Int) - 1 := by rw [IntKind.wrap_i64]; omega
        have hw2 : IntKind.i64.wrap ((c : Int) - 1) = (c : Int) - 1 := by rw [IntKind.wrap_i64]; omega
        have hw3 : IntKind.i64.wrap ((c : Int) + 3) = (c : Int) + 3 := by rw [IntKind.wrap_i64]; omega
        have hver : (lastC R).fVersion = (c : Int) := by have := A.is.last; omega
        by_cases h1 : m = c + 1
        · have q1 : ((m : Int) - 1 == (c : Int)) = true := by rw [beq_iff_eq]; omega
          have hG : Hid (goodB R ((m : Int) - 1) true = true) := by show _ = _; unfold goodB; rw [hver]; simp; omega
          clear h1 hver
          have HC := run_decide O g (ls.length + 1) R (cmdV 12 1 ((m : Int) - 1) true 0 ⟨#[]⟩ none 0 0 none 0 0) 1 ((m : Int) - 1) true wr A.is rfl rfl rfl rfl (by omega) ⟨by decide, by decide⟩ (by rw [ho]; show 0 ≤ _; decide)
          rw [hG.out] at HC
          obtain ⟨d1, d2, d3, d4⟩ := decide_once R hb hd ho true
          replace d1 : (decideF R 1 true).1 = 0 := d1
          replace d2 : (decideF R 1 true).2.1 = 1 := d2
          have D4 : Hid (∀ G2, (decideF (decideF R 1 true).2.2 1 G2).1 = 0 ∧ (decideF (decideF R 1 true).2.2 1 G2).2.1 = 1) := d4
          rw [d1, d2] at HC
          generalize (decideF R 1 true).2.2 = R2 at *
          have HC := Lib.hid HC
          unfold cmdV at HC
          clear d1 d2 d4
          go_wp2_with fail
          go_fit HC.out
          rintro e w4 hpost
          obtain ⟨cs4, O4, rfl, hr4, A4, k4, -⟩ := A.run hpost
          clear hpost HC
          have hl4 := rGReply_lawful.len hr4
          have ho4 := rGReply_ones hr4
          obtain ⟨hst4, rowB4, kV4⟩ := boxed (P := Try.prog) (zs := [.int .i64 0, .int .u64 0, .int .i64 0, .bool false, .slice none 0 0, .slice none 0 0, .int .i64 0, .int .i64 0, .slice none 0 0, .slice none 0 0, .int .i64 0, .int .i64 0, .slice none 0 0, .int .i64 0, .slice none 0 0]) S_Reply w4 rfl hl4 ho4
          have A5 := A4.nix kV4
          have C0 := Lib.hid (rep_cells hr4).1
          have C2 := Lib.hid (rep_cells hr4).2.2
          have ROW4 := Lib.hid rowB4
          have hbo : Hid (∀ b, O4 b → b ≠ w4.heap.size) := fun b hb e => by have := A4.is.lt b hb; omega
          have HC := Lib.hid (fun f : Bool => run_decide O4 g (ls.length + 1 + 1) R2 (cmdV 12 1 (c : Int) f 0 ⟨#[]⟩ none 0 0 none 0 0) 1 c f _ A5.is rfl rfl rfl rfl (by omega) ⟨by decide, by decide⟩ (by omega))
          unfold cmdV at HC
          have rm2 : Hid True := trivial
          clear hl4 ho4 rowB4 hr4 A4 k4 kV4 A
          go_wp2_with fail
          clear hst4
          go_fit (HC.out _)
          rintro e w6 hpost
          obtain ⟨cs6, O6, rfl, hr6, A6, k6, -⟩ := A5.run hpost
          clear hpost HC
          have hl6 := rGReply_lawful.len hr6
          have ho6 := rGReply_ones hr6
          obtain ⟨hst6, rowB6, kV6⟩ := boxed (P := Try.prog) (zs := [.int .i64 0, .int .u64 0, .int .i64 0, .bool false, .slice none 0 0, .slice none 0 0, .int .i64 0, .int .i64 0, .slice none 0 0, .slice none 0 0, .int .i64 0, .int .i64 0, .slice none 0 0, .int .i64 0, .slice none 0 0]) S_Reply w6 rfl hl6 ho6
          have row4 := (ROW4.out.keep k6 (fun h => hbo.out _ h rfl)).keep kV6 id
          have z0 := (row4.cell 0).trans C0.out
          have z2 := (row4.cell 2).trans C2.out
          replace z0 : ((w6.alloc (.cells [.int .i64 0, .int .u64 0, .int .i64 0, .bool false, .slice none 0 0, .slice none 0 0, .int .i64 0, .int .i64 0, .slice none 0 0, .slice none 0 0, .int .i64 0, .int .i64 0, .slice none 0 0, .int .i64 0, .slice none 0 0].toArray 40)).setRow w6.heap.size cs6.toArray).cell? ⟨w4.heap.size, 0, none⟩ = some (.int .i64 0) := z0
          replace z2 : ((w6.alloc (.cells [.int .i64 0, .int .u64 0, .int .i64 0, .bool false, .slice none 0 0, .slice none 0 0, .int .i64 0, .int .i64 0, .slice none 0 0, .slice none 0 0, .int .i64 0, .int .i64 0, .slice none 0 0, .int .i64 0, .slice none 0 0].toArray 40)).setRow w6.heap.size cs6.toArray).cell? ⟨w4.heap.size, 2, none⟩ = some (.int .i64 1) := z2
          have y0 : ((w6.alloc (.cells [.int .i64 0, .int .u64 0, .int .i64 0, .bool false, .slice none 0 0, .slice none 0 0, .int .i64 0, .int .i64 0, .slice none 0 0, .slice none 0 0, .int .i64 0, .int .i64 0, .slice none 0 0, .int .i64 0, .slice none 0 0].toArray 40)).setRow w6.heap.size cs6.toArray).cell? ⟨w6.heap.size, 0, none⟩ = some (.int .i64 0) := ((rowB6.cell 0).trans (rep_cells hr6).1).trans (congrArg (fun x : Int => some (Value.int .i64 x)) (D4.out _).1)
          have y2 : ((w6.alloc (.cells [.int .i64 0, .int .u64 0, .int .i64 0, .bool false, .slice none 0 0, .slice none 0 0, .int .i64 0, .int .i64 0, .slice none 0 0, .slice none 0 0, .int .i64 0, .int .i64 0, .slice none 0 0, .int .i64 0, .slice none 0 0].toArray 40)).setRow w6.heap.size cs6.toArray).cell? ⟨w6.heap.size, 2, none⟩ = some (.int .i64 1) := ((rowB6.cell 2).trans (rep_cells hr6).2.2).trans (congrArg (fun x : Int => some (Value.int .i64 x)) (D4.out _).2)
          have KF := Lib.hid (A6.kept.trans kV6)
          clear rowB6 row4 hr6 A6 k6 kV6 A5 hl6 ho6
          go_wp2_with fail
          go_ret
          exact ⟨rfl, KF.out⟩
        · have q1 : ((m : Int) - 1 == (c : Int)) = false := by rw [beq_eq_false_iff_ne]; omega
          by_cases h2 : m = c
          · have q2 : ((m : Int) - 1 == (c : Int) - 1) = true := by rw [beq_iff_eq]; omega
            have hG : Hid (goodB R ((m : Int) - 1) true = true) := by show _ = _; unfold goodB; rw [hver]; simp; omega
            clear h1 h2 hver
            have HC := run_decide O g (ls.length + 1) R (cmdV 12 1 ((m : Int) - 1) true 0 ⟨#[]⟩ none 0 0 none 0 0) 1 ((m : Int) - 1) true wr A.is rfl rfl rfl rfl (by omega) ⟨by decide, by decide⟩ (by rw [ho]; show 0 ≤ _; decide)
            rw [hG.out] at HC
            obtain ⟨d1, d2, d3, d4⟩ := decide_once R hb hd ho true
            replace d1 : (decideF R 1 true).1 = 0 := d1
            replace d2 : (decideF R 1 true).2.1 = 1 := d2
            have D4 : Hid (∀ G2, (decideF (decideF R 1 true).2.2 1 G2).1 = 0 ∧ (decideF (decideF R 1 true).2.2 1 G2).2.1 = 1) := d4
            rw [d1, d2] at HC
            generalize (decideF R 1 true).2.2 = R2 at *
            have HC := Lib.hid HC
            unfold cmdV at HC
            clear d1 d2 d4
            go_wp2_with fail
            go_fit HC.out
            rintro e w4 hpost
            obtain ⟨cs4, O4, rfl, hr4, A4, k4, -⟩ := A.run hpost
            clear hpost HC
            have hl4 := rGReply_lawful.len hr4
            have ho4 := rGReply_ones hr4
            obtain ⟨hst4, rowB4, kV4⟩ := boxed (P := Try.prog) (zs := [.int .i64 0, .int .u64 0, .int .i64 0, .bool false, .slice none 0 0, .slice none 0 0, .int .i64 0, .int .i64 0, .slice none 0 0, .slice none 0 0, .int .i64 0, .int .i64 0, .slice none 0 0, .int .i64 0, .slice none 0 0]) S_Reply w4 rfl hl4 ho4
            have A5 := A4.nix kV4
            have C0 := Lib.hid (rep_cells hr4).1
            have C2 := Lib.hid (rep_cells hr4).2.2
            have ROW4 := Lib.hid rowB4
            have hbo : Hid (∀ b, O4 b → b ≠ w4.heap.size) := fun b hb e => by have := A4.is.lt b hb; omega
            have HC := Lib.hid (fun f : Bool => run_decide O4 g (ls.length + 1 + 1) R2 (cmdV 12 1 (c : Int) f 0 ⟨#[]⟩ none 0 0 none 0 0) 1 c f _ A5.is rfl rfl rfl rfl (by omega) ⟨by decide, by decide⟩ (by omega))
            unfold cmdV at HC
            have rm2 : Hid True := trivial
            clear hl4 ho4 rowB4 hr4 A4 k4 kV4 A
            go_wp2_with fail
            clear hst4
            go_fit (HC.out _)
            rintro e w6 hpost
            obtain ⟨cs6, O6, rfl, hr6, A6, k6, -⟩ := A5.run hpost
            clear hpost HC
            have hl6 := rGReply_lawful.len hr6
            have ho6 := rGReply_ones hr6
            obtain ⟨hst6, rowB6, kV6⟩ := boxed (P := Try.prog) (zs := [.int .i64 0, .int .u64 0, .int .i64 0, .bool false, .slice none 0 0, .slice none 0 0, .int .i64 0, .int .i64 0, .slice none 0 0, .slice none 0 0, .int .i64 0, .int .i64 0, .slice none 0 0, .int .i64 0, .slice none 0 0]) S_Reply w6 rfl hl6 ho6
            have row4 := (ROW4.out.keep k6 (fun h => hbo.out _ h rfl)).keep kV6 id
            have z0 := (row4.cell 0).trans C0.out
            have z2 := (row4.cell 2).trans C2.out
            replace z0 : ((w6.alloc (.cells [.int .i64 0, .int .u64 0, .int .i64 0, .bool false, .slice none 0 0, .slice none 0 0, .int .i64 0, .int .i64 0, .slice none 0 0, .slice none 0 0, .int .i64 0, .int .i64 0, .slice none 0 0, .int .i64 0, .slice none 0 0].toArray 40)).setRow w6.heap.size cs6.toArray).cell? ⟨w4.heap.size, 0, none⟩ = some (.int .i64 0) := z0
            replace z2 : ((w6.alloc (.cells [.int .i64 0, .int .u64 0, .int .i64 0, .bool false, .slice none 0 0, .slice none 0 0, .int .i64 0, .int .i64 0, .slice none 0 0, .slice none 0 0, .int .i64 0, .int .i64 0, .slice none 0 0, .int .i64 0, .slice none 0 0].toArray 40)).setRow w6.heap.size cs6.toArray).cell? ⟨w4.heap.size, 2, none⟩ = some (.int .i64 1) := z2
            have y0 : ((w6.alloc (.cells [.int .i64 0, .int .u64 0, .int .i64 0, .bool false, .slice none 0 0, .slice none 0 0, .int .i64 0, .int .i64 0, .slice none 0 0, .slice none 0 0, .int .i64 0, .int .i64 0, .slice none 0 0, .int .i64 0, .slice none 0 0].toArray 40)).setRow w6.heap.size cs6.toArray).cell? ⟨w6.heap.size, 0, none⟩ = some (.int .i64 0) := ((rowB6.cell 0).trans (rep_cells hr6).1).trans (congrArg (fun x : Int => some (Value.int .i64 x)) (D4.out _).1)
            have y2 : ((w6.alloc (.cells [.int .i64 0, .int .u64 0, .int .i64 0, .bool false, .slice none 0 0, .slice none 0 0, .int .i64 0, .int .i64 0, .slice none 0 0, .slice none 0 0, .int .i64 0, .int .i64 0, .slice none 0 0, .int .i64 0, .slice none 0 0].toArray 40)).setRow w6.heap.size cs6.toArray).cell? ⟨w6.heap.size, 2, none⟩ = some (.int .i64 1) := ((rowB6.cell 2).trans (rep_cells hr6).2.2).trans (congrArg (fun x : Int => some (Value.int .i64 x)) (D4.out _).2)
            have KF := Lib.hid (A6.kept.trans kV6)
            clear rowB6 row4 hr6 A6 k6 kV6 A5 hl6 ho6
            go_wp2_with fail
            go_ret
            exact ⟨rfl, KF.out⟩
          · have q2 : ((m : Int) - 1 == (c : Int) - 1) = false := by rw [beq_eq_false_iff_ne]; omega
            have hG : Hid (goodB R ((m : Int) - 1) true = false) := by show _ = _; unfold goodB; rw [hver]; simp; omega
            clear h1 h2 hver
            have HC := run_decide O g (ls.length + 1) R (cmdV 12 1 ((m : Int) - 1) true 0 ⟨#[]⟩ none 0 0 none 0 0) 1 ((m : Int) - 1) true wr A.is rfl rfl rfl rfl (by omega) ⟨by decide, by decide⟩ (by rw [ho]; show 0 ≤ _; decide)
            rw [hG.out] at HC
            obtain ⟨d1, d2, d3, d4⟩ := decide_once R hb hd ho false
            replace d1 : (decideF R 1 false).1 = 16 := d1
            replace d2 : (decideF R 1 false).2.1 = 0 := d2
            have D4 : Hid (∀ G2, (decideF (decideF R 1 false).2.2 1 G2).1 = 16 ∧ (decideF (decideF R 1 false).2.2 1 G2).2.1 = 0) := d4
            rw [d1, d2] at HC
            generalize (decideF R 1 false).2.2 = R2 at *
            have HC := Lib.hid HC
            unfold cmdV at HC
            clear d1 d2 d4
            go_wp2_with fail
            go_fit HC.out
            rintro e w4 hpost
            obtain ⟨cs4, O4, rfl, hr4, A4, k4, -⟩ := A.run hpost
            clear hpost HC
            have hl4 := rGReply_lawful.len hr4
            have ho4 := rGReply_ones hr4
            obtain ⟨hst4, rowB4, kV4⟩ := boxed (P := Try.prog) (zs := [.int .i64 0, .int .u64 0, .int .i64 0, .bool false, .slice none 0 0, .slice none 0 0, .int .i64 0, .int .i64 0, .slice none 0 0, .slice none 0 0, .int .i64 0, .int .i64 0, .slice none 0 0, .int .i64 0, .slice none 0 0]) S_Reply w4 rfl hl4 ho4
            have A5 := A4.nix kV4
            have C0 := Lib.hid (rep_cells hr4).1
            have C2 := Lib.hid (rep_cells hr4).2.2
            have ROW4 := Lib.hid rowB4
            have hbo : Hid (∀ b, O4 b → b ≠ w4.heap.size) := fun b hb e => by have := A4.is.lt b hb; omega
            have HC := Lib.hid (fun f : Bool => run_decide O4 g (ls.length + 1 + 1) R2 (cmdV 12 1 (c : Int) f 0 ⟨#[]⟩ none 0 0 none 0 0) 1 c f _ A5.is rfl rfl rfl rfl (by omega) ⟨by decide, by decide⟩ (by omega))
            unfold cmdV at HC
            have rm2 : Hid True := trivial
            clear hl4 ho4 rowB4 hr4 A4 k4 kV4 A
            go_wp2_with fail
            clear hst4
            go_fit (HC.out _)
            rintro e w6 hpost
            obtain ⟨cs6, O6, rfl, hr6, A6, k6, -⟩ := A5.run hpost
            clear hpost HC
            have hl6 := rGReply_lawful.len hr6
            have ho6 := rGReply_ones hr6
            obtain ⟨hst6, rowB6, kV6⟩ := boxed (P := Try.prog) (zs := [.int .i64 0, .int .u64 0, .int .i64 0, .bool false, .slice none 0 0, .slice none 0 0, .int .i64 0, .int .i64 0, .slice none 0 0, .slice none 0 0, .int .i64 0, .int .i64 0, .slice none 0 0, .int .i64 0, .slice none 0 0]) S_Reply w6 rfl hl6 ho6
            have row4 := (ROW4.out.keep k6 (fun h => hbo.out _ h rfl)).keep kV6 id
            have z0 := (row4.cell 0).trans C0.out
            have z2 := (row4.cell 2).trans C2.out
            replace z0 : ((w6.alloc (.cells [.int .i64 0, .int .u64 0, .int .i64 0, .bool false, .slice none 0 0, .slice none 0 0, .int .i64 0, .int .i64 0, .slice none 0 0, .slice none 0 0, .int .i64 0, .int .i64 0, .slice none 0 0, .int .i64 0, .slice none 0 0].toArray 40)).setRow w6.heap.size cs6.toArray).cell? ⟨w4.heap.size, 0, none⟩ = some (.int .i64 16) := z0
            replace z2 : ((w6.alloc (.cells [.int .i64 0, .int .u64 0, .int .i64 0, .bool false, .slice none 0 0, .slice none 0 0, .int .i64 0, .int .i64 0, .slice none 0 0, .slice none 0 0, .int .i64 0, .int .i64 0, .slice none 0 0, .int .i64 0, .slice none 0 0].toArray 40)).setRow w6.heap.size cs6.toArray).cell? ⟨w4.heap.size, 2, none⟩ = some (.int .i64 0) := z2
            have y0 : ((w6.alloc (.cells [.int .i64 0, .int .u64 0, .int .i64 0, .bool false, .slice none 0 0, .slice none 0 0, .int .i64 0, .int .i64 0, .slice none 0 0, .slice none 0 0, .int .i64 0, .int .i64 0, .slice none 0 0, .int .i64 0, .slice none 0 0].toArray 40)).setRow w6.heap.size cs6.toArray).cell? ⟨w6.heap.size, 0, none⟩ = some (.int .i64 16) := ((rowB6.cell 0).trans (rep_cells hr6).1).trans (congrArg (fun x : Int => some (Value.int .i64 x)) (D4.out _).1)
            have y2 : ((w6.alloc (.cells [.int .i64 0, .int .u64 0, .int .i64 0, .bool false, .slice none 0 0, .slice none 0 0, .int .i64 0, .int .i64 0, .slice none 0 0, .slice none 0 0, .int .i64 0, .int .i64 0, .slice none 0 0, .int .i64 0, .slice none 0 0].toArray 40)).setRow w6.heap.size cs6.toArray).cell? ⟨w6.heap.size, 2, none⟩ = some (.int .i64 0) := ((rowB6.cell 2).trans (rep_cells hr6).2.2).trans (congrArg (fun x : Int => some (Value.int .i64 x)) (D4.out _).2)
            have KF := Lib.hid (A6.kept.trans kV6)
            clear rowB6 row4 hr6 A6 k6 kV6 A5 hl6 ho6
            go_wp2_with fail
            go_ret
            exact ⟨rfl, KF.out⟩
end
end Go.Proofs.Ytibaehlfpgipfaa
