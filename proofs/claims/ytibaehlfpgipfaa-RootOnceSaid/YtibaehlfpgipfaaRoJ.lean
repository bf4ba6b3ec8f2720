/- ROOT: what the law RootOnce needs: Plain as a quiet callee; a known transaction asked again. Printed by mkRoJ.py and mac.py. -/
import Derived.Test.YtibaehlfpgipfaaRoI
import Derived.Deep.Draws
namespace Go.Proofs.Ytibaehlfpgipfaa
open Go.RowKit

/-- Two byte slices: are they alike? -/
theorem sameU_q {p q : Nat → Prop} (a b : Option Addr) (n ca m cb : Nat) (la lb : List Int) (w : World) (hn : la.length = n) (hm : lb.length = m) (ha : Lies w p a (la.map ivU)) (hb : Lies w q b (lb.map ivU)) (hnb : n ≤ maxLen) :
    Calls Try.prog 18 #[.slice a n ca, .slice b m cb, .func (.func 19) #[] #[]] w fun e w' => e = .returned (.bool (decide (la = lb))) ∧ ∃ m, w' = w.drewN m := by
  unfold maxLen at hnb
  by_cases h : n = m
  · subst h
    have hh : ((n : Int) != (n : Int)) = false := by simp
    have HN := Lib.hid hn
    have HM := Lib.hid hm
    clear hn hm
    go_enter Try.func18, Try.ntmps18
    go_wp2_with fail
    go_loopw [6, 7] (fun r i wr => ∃ k : Nat, k ≤ n ∧ i = .int .i64 k ∧ r = .bool false ∧ Hid (la.take k = lb.take k) ∧ ∃ m, wr = w.drewN m) (fun _ i _ => n - (intOf i).toNat)
    case atStart => exact ⟨0, by omega, rfl, rfl, rfl, 0, rfl⟩
    case round =>
      obtain ⟨k, hk, rfl, rfl, hsame, md, hwr⟩ := hrel
      have HWR := Lib.hid hwr
      clear hwr
      by_cases hlt : k < n
      · have l1 : k < la.length := by rw [HN.out]; exact hlt
        have l2 : k < lb.length := by rw [HM.out]; exact hlt
        obtain ⟨ba, oa, rfl, -, hba, hca⟩ := ha (by intro e; rw [List.map_eq_nil_iff] at e; subst e; simp at l1)
        obtain ⟨bb, ob, rfl, -, hbb, hcb⟩ := hb (by intro e; rw [List.map_eq_nil_iff] at e; subst e; simp at l2)
        have ga := (show wr.cell? ⟨ba, oa + k, none⟩ = w.cell? ⟨ba, oa + k, none⟩ by rw [HWR.out]; rfl).trans (hca k _ (ivU_at la k l1))
        have gb := (show wr.cell? ⟨bb, ob + k, none⟩ = w.cell? ⟨bb, ob + k, none⟩ by rw [HWR.out]; rfl).trans (hcb k _ (ivU_at lb k l2))
        have hst : Hid (la.take (k + 1) = lb.take (k + 1) ↔ la[k] = lb[k]) := by
          show _ ↔ _
          rw [List.take_succ_eq_append_getElem l1, List.take_succ_eq_append_getElem l2, hsame.out, List.append_cancel_left_eq]; simp
        have hne : la[k] ≠ lb[k] → la ≠ lb := by rintro h1 rfl; exact h1 rfl
        have HNE := Lib.hid hne
        clear hca hcb ha hb hne
        generalize la[k] = x at ga hst HNE
        generalize lb[k] = y at gb hst HNE
        clear l1 l2
        have hxy : ((x == y) = true ∧ x = y) ∨ ((x == y) = false ∧ x ≠ y) := by
          by_cases e : x = y
          · exact .inl ⟨by simp [e], e⟩
          · exact .inr ⟨by simp [e], e⟩
        rcases hxy with ⟨hb1, he⟩ | ⟨hb1, he⟩
        · have HE := Lib.hid he
          clear he
          go_wp2_with fail
          go_quiet ((go_at_call 19; exact quiet_eq (u64Eq_c _ _ _)))
          go_wp2
          go_roundw
          case rel => exact ⟨k + 1, by omega, by go_num, rfl, hst.out.2 HE.out, _, by rw [HWR.out]; exact World.drewN_drewN _ _ _⟩
          case measure => simp [intOf]; omega
        · have HE := Lib.hid he
          clear he
          go_wp2_with fail
          go_quiet ((go_at_call 19; exact quiet_eq (u64Eq_c _ _ _)))
          go_wp2
          go_ret
          exact ⟨ret_bool (by simp [HNE.out HE.out]), _, by rw [HWR.out]; exact World.drewN_drewN _ _ _⟩
      · go_wp2_with fail
        go_ret
        obtain rfl : k = n := by omega
        have e : la = lb := by
          have := hsame.out
          rwa [List.take_of_length_le (by rw [HN.out]; omega), List.take_of_length_le (by rw [HM.out]; omega)] at this
        exact ⟨ret_bool (by simp [e]), md, HWR.out⟩
  · have hh : ((n : Int) != (m : Int)) = true := by simp; omega
    have hne : la ≠ lb := by rintro rfl; omega
    have HNE := Lib.hid hne
    clear hne h hn hm
    go_enter Try.func18, Try.ntmps18
    go_wp2_with fail
    go_ret
    exact ⟨ret_bool (by simp [HNE.out]), 0, rfl⟩
theorem plainU_q {p q : Nat → Prop} (a b : Option Addr) (n ca m cb : Nat) (la lb : List Int) (w : World) (hn : la.length = n) (hm : lb.length = m) (ha : Lies w p a (la.map ivU)) (hb : Lies w q b (lb.map ivU)) (hnb : n ≤ maxLen) :
    Calls Try.prog 11 #[.slice a n ca, .slice b m cb] w fun e w' => e = .returned (.bool (decide (la = lb))) ∧ ∃ m, w' = w.drewN m := by
  have hmf : ∀ (fn : Fn) (first cap : Array Value) (w : World), (Instr.makeFunc fn first cap).run Try.prog w = .ok (.func fn first cap) w := fun _ _ _ _ => rfl
  go_enter Try.func11, Try.ntmps11
  go_wp2_with fail
  refine (sameU_q a b n ca m cb la lb w hn hm ha hb hnb).mono ?_
  rintro e w1 ⟨rfl, md, rfl⟩
  go_wp2
  go_ret
  exact ⟨rfl, md, rfl⟩
theorem quiet_dr {P : Program} {f : FuncId} {args : Array Value} {w : World} {n : Nat} {v : Value}
    (h : Calls P f args (w.drewN n) fun e w' => e = .returned v ∧ ∃ m, w' = (w.drewN n).drewN m) : Calls P f args (w.drewN n) fun e w'' => e = .returned v ∧ ∃ m, w'' = w.drewN m :=
  h.mono fun _ _ ⟨he, m, hm⟩ => ⟨he, n + m, hm.trans (World.drewN_drewN _ _ _)⟩
/-- The order that was told, where it lies. -/
def LO (w : World) (O : Nat → Prop) (a : Option Addr) (l : List Int) : Prop := Lies w (fun b => ¬ O b ∧ b < w.heap.size) a (l.map ivU)
theorem LO.step {w w' : World} {O O' : Nat → Prop} {a : Option Addr} {l : List Int} (h : LO w O a l) (k : Keep O w w') (ho : ∀ b, O' b → O b ∨ w.heap.size ≤ b) : LO w' O' a l :=
  Lies.mono (Lies.keep h k (fun b hb => hb.1)) (fun b hb => ⟨fun h => (ho b h).elim hb.1 (fun h => by have := hb.2; omega), Nat.lt_of_lt_of_le hb.2 k.size⟩)
theorem LO.nix {w w' : World} {O : Nat → Prop} {a : Option Addr} {l : List Int} (h : LO w O a l) (k : Keep Nix w w') : LO w' O a l := LO.step (O := O) (O' := O) h k.nix (fun _ h => .inl h)
theorem LO.of {w w' : World} {O : Nat → Prop} {a : Option Addr} {n c : Nat} {l : List Int} (own : w'.ownsRow w.heap.size 28 1 (.slice a n c) n (l.map ivU)) (hO : ∀ b, O b → b < w.heap.size) : LO w' O a l :=
  Lies.mono (Lies.of_owned own) (fun b hb => ⟨fun h => by have := hO b h; have := hb.1; omega, (own.lt b hb.2).2⟩)
theorem LO.nil (w : World) (O : Nat → Prop) : LO w O none [] := Lies.nil _ _ _
theorem run_dec2 {p : Nat → Prop} {k : Nat} (O : Nat → Prop) (g n : Nat) (R : RootS) (c : GCommand) (ccs : List Value) (w : World) (H : IsRoot w O g n R) (hS : Small k R) (hkb : k ≤ 80000) (hn : n < 1000000) (hc : rGCommand w p ccs c) (hk : c.fKind = 12 ∨ c.fKind = 13) :
    Calls Try.prog 7 #[.pointer (some ⟨g, 0, none⟩), .agg ccs.toArray] w (RunPost w O g n (runF R c)) := by
  have h2 := hS.ord
  obtain ⟨aKey, cKey, aSF, cSF, aST, cST, aP, cP, aSe, cSe, aWr, cWr, aTC, cTC, aTK, cTK, aIC, cIC, rfl, iK, iE, uT, -⟩ := rGCommand_open hc
  rcases hk with e | e
  · rw [show runF R c = _ from by unfold runF; rw [if_neg (by omega), if_pos e]]
    exact run_decide O g n R _ c.fTxn c.fN c.fFlag w H (by rw [← e]; rfl) rfl rfl rfl hn uT (by omega)
  · rw [show runF R c = _ from by unfold runF; rw [if_neg (by omega), if_neg (by omega), if_pos e]]
    exact run_ask O g n R _ c.fTxn w H (by rw [← e]; rfl) rfl hn uT (by omega)
theorem rep_cat (a c d e f h i j k l m n o p q : Value) (w : World) : (Instr.field 40 (.agg #[a, c, d, e, f, h, i, j, k, l, m, n, o, p, q]) 6).run Try.prog w = .ok (.agg #[i, j, k, l]) w := by kernel_rfl
theorem cmd_at {w : World} {p : Nat → Prop} {cs : List Value} {x : GCommand} (h : rGCommand w p cs x) : cs[0]? = some (.int .i64 x.fKind) ∧ cs[2]? = some (.int .u64 x.fTxn) ∧ cs[3]? = some (.int .i64 x.fN) ∧ cs[6]? = some (.bool x.fFlag) ∧ isU64 x.fTxn := by
  obtain ⟨_, _, _, _, _, _, _, _, _, _, _, _, _, _, _, _, _, _, rfl, -, -, u, -⟩ := rGCommand_open h
  exact ⟨rfl, rfl, rfl, rfl, u⟩
theorem op_cmd {w : World} {p : Nat → Prop} {cs : List Value} {x : GOp} (h : rGOp w p cs x) : ∃ c0 : List Value, rGCommand w p c0 x.fC ∧ ∀ (j : Nat) (u : Value), c0[j]? = some u → cs[j]? = some u := by
  obtain ⟨c0, c1, c2, rfl, h0, -, -⟩ := h
  refine ⟨c0, h0, fun j u hu => ?_⟩
  have hj := (List.getElem?_eq_some_iff.1 hu).1
  simp only [List.flatten_cons, List.flatten_nil, List.append_nil]
  rw [List.getElem?_append_left hj]
  exact hu
theorem small_idx {c : GCommand} (h : smallCmd c = true) : c.fIndex.fColumns.length ≤ 1000 := by
  unfold smallCmd at h
  simp only [Bool.and_eq_true, decide_eq_true_eq] at h
  omega
theorem start_small (s : Int) (r : GRoutes) (h : RtOk r) : Small 0 (startS s r) := ⟨Nat.le_refl _, Nat.le_refl _, Int.le_refl _, h, fun t p hp => by cases hp⟩
theorem start_rt (b : Int) (hb : 1 ≤ b ∧ b ≤ 4) : RtOk ⟨0, b, [⟨b + 1, [120]⟩], 0, []⟩ :=
  ⟨hb, by simp, fun o ho => by have : o = ⟨b + 1, [120]⟩ := by simpa using ho
                               subst this; exact ⟨by show b < b + 1; omega, by show b + 1 ≤ b + 4; omega⟩, fun h => absurd rfl h⟩
end Go.Proofs.Ytibaehlfpgipfaa
