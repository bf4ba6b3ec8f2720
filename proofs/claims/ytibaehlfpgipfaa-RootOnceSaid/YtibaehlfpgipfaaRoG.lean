/- ROOT: the help's Plain over numbers without sign (XHelpI's, turned by program); Order, Decided, small, a look. -/
import Derived.Test.YtibaehlfpgipfaaRoE
import Derived.Test.YtibaehlfpgipfaaRoF
namespace Go.Proofs.Ytibaehlfpgipfaa
open Go.RowKit

theorem ivU_at (l : List Int) (k : Nat) (h : k < l.length) : (l.map ivU)[k]? = some (.int .u64 l[k]) := by simp [ivU, h]
theorem ivU_one (l : List Int) : ∀ u ∈ l.map ivU, u.oneCell' = true := fun u hu => by
  obtain ⟨x, -, rfl⟩ := List.mem_map.1 hu
  rfl
theorem u64Eq_c (c d : Int) (w : World) : Calls Try.prog 19 #[.int .u64 c, .int .u64 d] w fun e w' => e = .returned (.bool (c == d)) ∧ w = w' := by
  go_enter Try.func19, Try.ntmps19
  go_wp2
  go_ret
  exact ⟨rfl, rfl⟩

/-- Two byte slices: are they alike? -/
theorem sameU_c {p q : Nat → Prop} (a b : Option Addr) (n ca m cb : Nat) (la lb : List Int) (w : World) (hn : la.length = n) (hm : lb.length = m) (ha : Lies w p a (la.map ivU)) (hb : Lies w q b (lb.map ivU)) (hnb : n ≤ maxLen) :
    Calls Try.prog 18 #[.slice a n ca, .slice b m cb, .func (.func 19) #[] #[]] w fun e w' => e = .returned (.bool (decide (la = lb))) ∧ Keep Nix w w' := by
  unfold maxLen at hnb
  by_cases h : n = m
  · subst h
    have hh : ((n : Int) != (n : Int)) = false := by simp
    have HN := Lib.hid hn
    have HM := Lib.hid hm
    clear hn hm
    go_enter Try.func18, Try.ntmps18
    go_wp2_with fail
    go_loopw [6, 7] (fun r i wr => ∃ k : Nat, k ≤ n ∧ i = .int .i64 k ∧ r = .bool false ∧ Hid (la.take k = lb.take k) ∧ Keep Nix w wr) (fun _ i _ => n - (intOf i).toNat)
    case atStart => exact ⟨0, by omega, rfl, rfl, rfl, Keep.refl _ _⟩
    case round =>
      obtain ⟨k, hk, rfl, rfl, hsame, kk⟩ := hrel
      by_cases hlt : k < n
      · have l1 : k < la.length := by rw [HN.out]; exact hlt
        have l2 : k < lb.length := by rw [HM.out]; exact hlt
        obtain ⟨ba, oa, rfl, -, hba, hca⟩ := ha (by intro e; rw [List.map_eq_nil_iff] at e; subst e; simp at l1)
        obtain ⟨bb, ob, rfl, -, hbb, hcb⟩ := hb (by intro e; rw [List.map_eq_nil_iff] at e; subst e; simp at l2)
        have ga := (kk.cell (p := ⟨ba, oa + k, none⟩) hba id).trans (hca k _ (ivU_at la k l1))
        have gb := (kk.cell (p := ⟨bb, ob + k, none⟩) hbb id).trans (hcb k _ (ivU_at lb k l2))
        have hst : Hid (la.take (k + 1) = lb.take (k + 1) ↔ la[k] = lb[k]) := by
          show _ ↔ _
          rw [List.take_succ_eq_append_getElem l1, List.take_succ_eq_append_getElem l2, hsame.out, List.append_cancel_left_eq]; simp
        have hne : la[k] ≠ lb[k] → la ≠ lb := by rintro h1 rfl; exact h1 rfl
        have HNE := Lib.hid hne
        clear hca hcb ha hb hne
        generalize la[k] = x at ga hst HNE
        generalize lb[k] = y at gb hst HNE
        clear l1 l2
        have hxy : ((x == y) = true ∧ x = y) ∨ ((x == y) = false ∧ x ≠ y) := by
          by_cases e : x = y
          · exact .inl ⟨by simp [e], e⟩
          · exact .inr ⟨by simp [e], e⟩
        rcases hxy with ⟨hb1, he⟩ | ⟨hb1, he⟩
        · have HE := Lib.hid he
          clear he
          go_wp2_with fail
          go_quiet ((go_at_call 19; exact quiet_eq (u64Eq_c _ _ _)))
          go_wp2
          go_roundw
          case rel => exact ⟨k + 1, by omega, by go_num, rfl, hst.out.2 HE.out, kk.drewN _⟩
          case measure => simp [intOf]; omega
        · have HE := Lib.hid he
          clear he
          go_wp2_with fail
          go_quiet ((go_at_call 19; exact quiet_eq (u64Eq_c _ _ _)))
          go_wp2
          go_ret
          exact ⟨ret_bool (by simp [HNE.out HE.out]), kk.drewN _⟩
      · go_wp2_with fail
        go_ret
        obtain rfl : k = n := by omega
        have e : la = lb := by
          have := hsame.out
          rwa [List.take_of_length_le (by rw [HN.out]; omega), List.take_of_length_le (by rw [HM.out]; omega)] at this
        exact ⟨ret_bool (by simp [e]), kk⟩
  · have hh : ((n : Int) != (m : Int)) = true := by simp; omega
    have hne : la ≠ lb := by rintro rfl; omega
    have HNE := Lib.hid hne
    clear hne h hn hm
    go_enter Try.func18, Try.ntmps18
    go_wp2_with fail
    go_ret
    exact ⟨ret_bool (by simp [HNE.out]), Keep.refl _ _⟩
theorem plainU_c {p q : Nat → Prop} (a b : Option Addr) (n ca m cb : Nat) (la lb : List Int) (w : World) (hn : la.length = n) (hm : lb.length = m) (ha : Lies w p a (la.map ivU)) (hb : Lies w q b (lb.map ivU)) (hnb : n ≤ maxLen) :
    Calls Try.prog 11 #[.slice a n ca, .slice b m cb] w fun e w' => e = .returned (.bool (decide (la = lb))) ∧ Keep Nix w w' := by
  have hmf : ∀ (fn : Fn) (first cap : Array Value) (w : World), (Instr.makeFunc fn first cap).run Try.prog w = .ok (.func fn first cap) w := fun _ _ _ _ => rfl
  go_enter Try.func11, Try.ntmps11
  go_wp2_with fail
  refine (sameU_c a b n ca m cb la lb w hn hm ha hb hnb).mono ?_
  rintro e w1 ⟨rfl, kk⟩
  go_wp2
  go_ret
  exact ⟨rfl, kk⟩

theorem decided_c (O : Nat → Prop) (g n : Nat) (R : RootS) (txn : Int) (w : World) (H : IsRoot w O g n R) (ht : isU64 txn) :
    Calls Try.prog 9 #[.pointer (some ⟨g, 0, none⟩), .int .u64 txn] w fun e w' => e = .returned (.tuple #[.int .i64 (decO (R.dec txn)), .bool (R.dec txn).isSome]) ∧ w = w' := by
  obtain ⟨lt, og, ok, bM, aC, cC, aO, cO, aS, cS, aU, cU, cssC, D, B⟩ := H
  have x8 : w.cell? ⟨g, 8, none⟩ = some (.map (some bM)) := by simpa using B.row.cell 8
  have hlk := dec_look B.dec ht
  clear B
  go_enter Try.func9, Try.ntmps9
  go_wp2_with fail
  refine bodyPost_ret (results_tmp2 rfl _ _ _) rfl ?_
  exact ⟨rfl, rfl⟩
set_option maxRecDepth 100000 in
theorem order_c (O : Nat → Prop) (g n : Nat) (R : RootS) (w : World) (H : IsRoot w O g n R) :
    Calls Try.prog 10 #[.pointer (some ⟨g, 0, none⟩)] w fun e w' => ∃ a c, e = .returned (.slice a R.order.length c) ∧ w'.ownsRow w.heap.size 28 1 (.slice a R.order.length c) R.order.length (R.order.map ivU) ∧ Keep Nix w w' := by
  obtain ⟨lt, og, ok, bM, aC, cC, aO, cO, aS, cS, aU, cU, cssC, D, B⟩ := H
  have x9 : w.cell? ⟨g, 9, none⟩ = some (.slice aO R.order.length cO) := by simpa using B.row.cell 9
  have HL := Lib.hid (Lies.of_owned B.rowO)
  have hlen := ok.len.2
  clear B
  go_enter Try.func10, Try.ntmps10
  go_wp2_with (at_builtin; refine wpl_append (m := R.order.length) (c := cO) T_u64 ?hgd (.const (.slice none 0 0)) (.tmp 8) ?ho w.heap.size ?hs (World.ownsRow_nil w w.heap.size 28 1) (R.order.map ivU) ?hx ?c0 HL.out ?c1 ?c2 ?c3 ?c4 ?_)
  case hgd => rfl
  case ho => rfl
  case hs => rfl
  case hx => rfl
  case c0 => simp
  case c1 => exact ivU_one _
  case c2 => unfold maxLen; omega
  case c3 => omega
  case c4 => exact Nat.le_refl _
  intro a' cap' w2 own2 hg2
  have k2 : Keep Nix w w2 := (Keep.refl _ w).grown hg2 (fun k h => by cases h)
  clear hg2 x9
  go_wp2_with fail
  go_ret
  exact ⟨a', cap', rfl, own2, k2⟩
def smallCmd (c : GCommand) : Bool := decide (c.fTable.fColumns.length < 30) && (decide (c.fTable.fKey.length < 30) && (decide (c.fIndex.fColumns.length < 30) && decide (c.fPairs.length + c.fSeens.length + c.fWrites.length < 30)))
set_option maxRecDepth 100000 in
theorem smallCmd_c {p : Nat → Prop} (c : GCommand) (ccs : List Value) (w : World) (hc : rGCommand w p ccs c) :
    Calls Try.prog 8 #[.agg ccs.toArray] w fun e w' => e = .returned (.bool (smallCmd c)) ∧ Keep Nix w w' := by
  obtain ⟨aKey, cKey, aSF, cSF, aST, cST, aP, cP, aSe, cSe, aWr, cWr, aTC, cTC, aTK, cTK, aIC, cIC, rfl, -, -, -, -, -, -, -, -, hP, hS, hW, hT, hI, -⟩ := rGCommand_open hc
  have b1 : c.fPairs.length ≤ far := (by obtain ⟨_, _, _, _, _, _, _, h, _⟩ := hP; exact h)
  have b2 : c.fSeens.length ≤ far := (by obtain ⟨_, _, _, _, _, _, _, h, _⟩ := hS; exact h)
  have b3 : c.fWrites.length ≤ far := (by obtain ⟨_, _, _, _, _, _, _, h, _⟩ := hW; exact h)
  unfold far at b1 b2 b3
  have kk : Keep Nix w (w.alloc (.cells #[.int .i64 c.fKind, .int .i64 c.fEpoch, .int .u64 c.fTxn, .int .i64 c.fN, .int .i64 c.fFrom, .int .i64 c.fTo, .bool c.fFlag, .slice aKey c.fKey.length cKey, .slice aSF c.fSpan.fFrom.length cSF, .slice aST c.fSpan.fTo.length cST, .slice aP c.fPairs.length cP, .slice aSe c.fSeens.length cSe, .slice aWr c.fWrites.length cWr, .int .i64 c.fTable.fID, .string (strB c.fTable.fName), .slice aTC c.fTable.fColumns.length cTC, .slice aTK c.fTable.fKey.length cTK, .int .i64 c.fIndex.fID, .int .i64 c.fIndex.fTable, .string (strB c.fIndex.fName), .slice aIC c.fIndex.fColumns.length cIC, .bool c.fIndex.fUnique, .int .i64 c.fIndex.fState, .bool c.fIndex.fBad, .string (strB c.fName)] 53)) := (Keep.refl Nix w).alloc _
  have hB : Hid (∀ b1 b2 b3 b4 : Bool, decide ((c.fTable.fColumns.length : Int) < 30) = b1 → decide ((c.fTable.fKey.length : Int) < 30) = b2 → decide ((c.fIndex.fColumns.length : Int) < 30) = b3 → decide ((c.fPairs.length : Int) + c.fSeens.length + c.fWrites.length < 30) = b4 → smallCmd c = (b1 && (b2 && (b3 && b4)))) := fun b1 b2 b3 b4 h1 h2 h3 h4 => by
    unfold smallCmd
    rw [← h1, ← h2, ← h3, ← h4]
    rw [show (decide (c.fTable.fColumns.length < 30)) = decide ((c.fTable.fColumns.length : Int) < 30) from by simp; omega, show (decide (c.fTable.fKey.length < 30)) = decide ((c.fTable.fKey.length : Int) < 30) from by simp; omega, show (decide (c.fIndex.fColumns.length < 30)) = decide ((c.fIndex.fColumns.length : Int) < 30) from by simp; omega, show decide (c.fPairs.length + c.fSeens.length + c.fWrites.length < 30) = decide ((c.fPairs.length : Int) + c.fSeens.length + c.fWrites.length < 30) from by simp; omega]
  have KK := Lib.hid kk
  have hw1 : IntKind.i64.wrap ((c.fPairs.length : Int) + c.fSeens.length) = (c.fPairs.length : Int) + c.fSeens.length := by rw [IntKind.wrap_i64]; omega
  have hw2 : IntKind.i64.wrap ((c.fPairs.length : Int) + c.fSeens.length + c.fWrites.length) = (c.fPairs.length : Int) + c.fSeens.length + c.fWrites.length := by rw [IntKind.wrap_i64]; omega
  have HH := hB.out
  by_cases h1 : (c.fTable.fColumns.length : Int) < 30
  · by_cases h2 : (c.fTable.fKey.length : Int) < 30
    · by_cases h3 : (c.fIndex.fColumns.length : Int) < 30
      · by_cases h4 : (c.fPairs.length : Int) + c.fSeens.length + c.fWrites.length < 30
        · have e := Lib.hid (HH true true true true (decide_eq_true h1) (decide_eq_true h2) (decide_eq_true h3) (decide_eq_true h4))
          clear HH hB b1 b2 b3 kk hc hP hS hW hT hI
          go_enter Try.func8, Try.ntmps8
          go_wp2_with fail
          go_ret
          exact ⟨ret_bool (by rw [e.out]; rfl), KK.out⟩
        · have e := Lib.hid (HH true true true false (decide_eq_true h1) (decide_eq_true h2) (decide_eq_true h3) (decide_eq_false h4))
          clear HH hB b1 b2 b3 kk hc hP hS hW hT hI
          go_enter Try.func8, Try.ntmps8
          go_wp2_with fail
          go_ret
          exact ⟨ret_bool (by rw [e.out]; rfl), KK.out⟩
      · have e := Lib.hid (HH true true false _ (decide_eq_true h1) (decide_eq_true h2) (decide_eq_false h3) rfl)
        clear HH hB b1 b2 b3 kk hc hP hS hW hT hI
        go_enter Try.func8, Try.ntmps8
        go_wp2_with fail
        go_ret
        exact ⟨ret_bool (by rw [e.out]; rfl), KK.out⟩
    · have e := Lib.hid (HH true false _ _ (decide_eq_true h1) (decide_eq_false h2) rfl rfl)
      clear HH hB b1 b2 b3 kk hc hP hS hW hT hI
      go_enter Try.func8, Try.ntmps8
      go_wp2_with fail
      go_ret
      exact ⟨ret_bool (by rw [e.out]; rfl), KK.out⟩
  · have e := Lib.hid (HH false _ _ _ (decide_eq_false h1) rfl rfl rfl)
    clear HH hB b1 b2 b3 kk hc hP hS hW hT hI
    go_enter Try.func8, Try.ntmps8
    go_wp2_with fail
    go_ret
    exact ⟨ret_bool (by rw [e.out]; rfl), KK.out⟩
end Go.Proofs.Ytibaehlfpgipfaa
