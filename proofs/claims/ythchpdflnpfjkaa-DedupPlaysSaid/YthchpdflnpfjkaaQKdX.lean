/- DEDUP: the help's Plain over strings (HelpI's, turned by genHelpS.py). Printed by mac.py. -/
import Derived.Test.YthchpdflnpfjkaaQKdO
import Derived.Test.YthchpdflnpfjkaaQKdQ
import Derived.Test.YthchpdflnpfjkaaQTypes
import Derived.Test.YthchpdflnpfjkaaQOutC
namespace Go.Proofs.Ythchpdflnpfjkaa
open Go.RowKit

theorem sv_at (l : List (List UInt8)) (k : Nat) (h : k < l.length) : (l.map sv)[k]? = some (.string (strB l[k])) := by simp [sv, h]
theorem strEq_c (c d : List UInt8) (w : World) : Calls Try.prog 59 #[.string (strB c), .string (strB d)] w fun e w' => e = .returned (.bool (decide (c = d))) ∧ w = w' := by
  go_enter Try.func59, Try.ntmps59
  go_wp2
  go_ret
  exact ⟨ret_bool (strB_eq _ _), rfl⟩

/-- Two byte slices: are they alike? -/
theorem sameS_c {p q : Nat → Prop} (a b : Option Addr) (n ca m cb : Nat) (la lb : List (List UInt8)) (w : World) (hn : la.length = n) (hm : lb.length = m) (ha : Lies w p a (la.map sv)) (hb : Lies w q b (lb.map sv)) (hnb : n ≤ maxLen) :
    Calls Try.prog 58 #[.slice a n ca, .slice b m cb, .func (.func 59) #[] #[]] w fun e w' => e = .returned (.bool (decide (la = lb))) ∧ Keep Nix w w' := by
  unfold maxLen at hnb
  by_cases h : n = m
  · subst h
    have hh : ((n : Int) != (n : Int)) = false := by simp
    have HN := Lib.hid hn
    have HM := Lib.hid hm
    clear hn hm
    go_enter Try.func58, Try.ntmps58
    go_wp2_with fail
    go_loopw [6, 7] (fun r i wr => ∃ k : Nat, k ≤ n ∧ i = .int .i64 k ∧ r = .bool false ∧ Hid (la.take k = lb.take k) ∧ Keep Nix w wr) (fun _ i _ => n - (intOf i).toNat)
    case atStart => exact ⟨0, by omega, rfl, rfl, rfl, Keep.refl _ _⟩
    case round =>
      obtain ⟨k, hk, rfl, rfl, hsame, kk⟩ := hrel
      by_cases hlt : k < n
      · have l1 : k < la.length := by rw [HN.out]; exact hlt
        have l2 : k < lb.length := by rw [HM.out]; exact hlt
        obtain ⟨ba, oa, rfl, -, hba, hca⟩ := ha (by intro e; rw [List.map_eq_nil_iff] at e; subst e; simp at l1)
        obtain ⟨bb, ob, rfl, -, hbb, hcb⟩ := hb (by intro e; rw [List.map_eq_nil_iff] at e; subst e; simp at l2)
        have ga := (kk.cell (p := ⟨ba, oa + k, none⟩) hba id).trans (hca k _ (sv_at la k l1))
        have gb := (kk.cell (p := ⟨bb, ob + k, none⟩) hbb id).trans (hcb k _ (sv_at lb k l2))
        have hst : Hid (la.take (k + 1) = lb.take (k + 1) ↔ la[k] = lb[k]) := by
          show _ ↔ _
          rw [List.take_succ_eq_append_getElem l1, List.take_succ_eq_append_getElem l2, hsame.out, List.append_cancel_left_eq]; simp
        have hne : la[k] ≠ lb[k] → la ≠ lb := by rintro h1 rfl; exact h1 rfl
        have HNE := Lib.hid hne
        clear hca hcb ha hb hne
        generalize la[k] = x at ga hst HNE
        generalize lb[k] = y at gb hst HNE
        clear l1 l2
        have hxy : (decide (x = y) = true ∧ x = y) ∨ (decide (x = y) = false ∧ x ≠ y) := by
          by_cases e : x = y
          · exact .inl ⟨by simp [e], e⟩
          · exact .inr ⟨by simp [e], e⟩
        rcases hxy with ⟨hb1, he⟩ | ⟨hb1, he⟩
        · have HE := Lib.hid he
          clear he
          go_wp2_with fail
          go_quiet ((go_at_call 59; exact quiet_eq (strEq_c _ _ _)))
          go_wp2
          go_roundw
          case rel => exact ⟨k + 1, by omega, by go_num, rfl, hst.out.2 HE.out, kk.drewN _⟩
          case measure => simp [intOf]; omega
        · have HE := Lib.hid he
          clear he
          go_wp2_with fail
          go_quiet ((go_at_call 59; exact quiet_eq (strEq_c _ _ _)))
          go_wp2
          go_ret
          exact ⟨ret_bool (by simp [HNE.out HE.out]), kk.drewN _⟩
      · go_wp2_with fail
        go_ret
        obtain rfl : k = n := by omega
        have e : la = lb := by
          have := hsame.out
          rwa [List.take_of_length_le (by rw [HN.out]; omega), List.take_of_length_le (by rw [HM.out]; omega)] at this
        exact ⟨ret_bool (by simp [e]), kk⟩
  · have hh : ((n : Int) != (m : Int)) = true := by simp; omega
    have hne : la ≠ lb := by rintro rfl; omega
    have HNE := Lib.hid hne
    clear hne h hn hm
    go_enter Try.func58, Try.ntmps58
    go_wp2_with fail
    go_ret
    exact ⟨ret_bool (by simp [HNE.out]), Keep.refl _ _⟩
theorem plainS_c {p q : Nat → Prop} (a b : Option Addr) (n ca m cb : Nat) (la lb : List (List UInt8)) (w : World) (hn : la.length = n) (hm : lb.length = m) (ha : Lies w p a (la.map sv)) (hb : Lies w q b (lb.map sv)) (hnb : n ≤ maxLen) :
    Calls Try.prog 41 #[.slice a n ca, .slice b m cb] w fun e w' => e = .returned (.bool (decide (la = lb))) ∧ Keep Nix w w' := by
  have hmf : ∀ (fn : Fn) (first cap : Array Value) (w : World), (Instr.makeFunc fn first cap).run Try.prog w = .ok (.func fn first cap) w := fun _ _ _ _ => rfl
  go_enter Try.func41, Try.ntmps41
  go_wp2_with fail
  refine (sameS_c a b n ca m cb la lb w hn hm ha hb hnb).mono ?_
  rintro e w1 ⟨rfl, kk⟩
  go_wp2
  go_ret
  exact ⟨rfl, kk⟩
end Go.Proofs.Ythchpdflnpfjkaa
namespace Go.Proofs.Ythchpdflnpfjkaa
open Go.RowKit

structure SameE (L : List Ent) (last : Last) : Prop where
  find : ∀ c, findE L c = last c
  nd : (L.map (·.1)).Nodup
theorem findE_nil (c : Int) : findE [] c = none := rfl
theorem findE_cons (y : Ent) (L : List Ent) (c : Int) : findE (y :: L) c = if y.1 = c then some (y.2.1, y.2.2) else findE L c := by
  unfold findE
  rw [List.find?_cons]
  by_cases h : y.1 = c
  · rw [if_pos h]; simp [h]
  · rw [if_neg h]; simp [h]
theorem findE_no : ∀ {L : List Ent} {c : Int}, (∀ x ∈ L, x.1 ≠ c) → findE L c = none
  | [], _, _ => rfl
  | y :: L, c, h => by rw [findE_cons, if_neg (h y (by simp)), findE_no (fun x hx => h x (by simp [hx]))]
theorem findE_at : ∀ {L : List Ent} {k : Nat} {c : Int} (hk : k < L.length), (∀ i (_ : i < k) (_ : i < L.length), L[i].1 ≠ c) → L[k].1 = c → findE L c = some (L[k].2.1, L[k].2.2)
  | y :: L, 0, c, _, _, h => by rw [findE_cons]; simp only [List.getElem_cons_zero] at h ⊢; rw [if_pos h]
  | y :: L, k + 1, c, hk, hn, h => by
    have h0 := hn 0 (by omega) (by simp)
    simp only [List.getElem_cons_zero] at h0
    rw [findE_cons, if_neg h0]
    simp only [List.getElem_cons_succ] at h ⊢
    exact findE_at (by simpa using hk) (fun i hi h2 => by have := hn (i + 1) (by omega) (by simpa using h2); simpa using this) h
theorem findE_set : ∀ {L : List Ent} {k : Nat} {c : Int} (s : Int) (a : List UInt8) (hk : k < L.length), (∀ i (_ : i < k) (_ : i < L.length), L[i].1 ≠ c) → L[k].1 = c → ∀ i, findE (L.set k (c, s, a)) i = if i = c then some (s, a) else findE L i
  | y :: L, 0, c, s, a, _, _, h, i => by
    simp only [List.getElem_cons_zero] at h
    rw [List.set_cons_zero, findE_cons, findE_cons]
    by_cases hi : i = c
    · subst hi; simp
    · rw [if_neg (fun e => hi e.symm), if_neg hi, if_neg (fun e => hi (e.symm.trans h))]
  | y :: L, k + 1, c, s, a, hk, hn, h, i => by
    have h0 := hn 0 (by omega) (by simp)
    simp only [List.getElem_cons_zero] at h0
    simp only [List.getElem_cons_succ] at h
    have ih := findE_set s a (by simpa using hk) (fun i hi h2 => by have := hn (i + 1) (by omega) (by simpa using h2); simpa using this) h i
    rw [List.set_cons_succ, findE_cons, findE_cons, ih]
    by_cases hi : y.1 = i
    · have hne : ¬ i = c := fun e => h0 (hi.trans e)
      rw [if_pos hi, if_neg hne, if_pos hi]
    · rw [if_neg hi, if_neg hi]
theorem findE_app : ∀ {L : List Ent} {c : Int} (s : Int) (a : List UInt8), (∀ x ∈ L, x.1 ≠ c) → ∀ i, findE (L ++ [(c, s, a)]) i = if i = c then some (s, a) else findE L i
  | [], c, s, a, _, i => by
    rw [List.nil_append, findE_cons, findE_nil]
    by_cases hi : i = c
    · rw [if_pos hi.symm, if_pos hi]
    · rw [if_neg (fun e => hi e.symm), if_neg hi]
  | y :: L, c, s, a, h, i => by
    have ih := findE_app (L := L) (c := c) s a (fun x hx => h x (List.mem_cons_of_mem _ hx)) i
    rw [List.cons_append, findE_cons, findE_cons, ih]
    by_cases hi : y.1 = i
    · have hne : ¬ i = c := fun e => h y (by simp) (hi.trans e)
      rw [if_pos hi, if_neg hne, if_pos hi]
    · rw [if_neg hi, if_neg hi]
theorem place (c : Int) : ∀ (L : List Ent), ∃ k, PlaceE L c k
  | [] => ⟨0, Nat.le_refl _, fun i h => absurd h (Nat.not_lt_zero _), fun h => absurd h (Nat.not_lt_zero _)⟩
  | y :: L => by
    by_cases h : y.1 = c
    · exact ⟨0, Nat.zero_le _, fun i h => absurd h (Nat.not_lt_zero _), fun _ => h⟩
    · obtain ⟨k, h1, h2, h3⟩ := place c L
      refine ⟨k + 1, by simpa using h1, fun i hi hl => ?_, fun hl => ?_⟩
      · cases i with
        | zero => exact h
        | succ i => exact h2 i (by omega) (by simpa using hl)
      · exact h3 (by simpa using hl)
theorem PlaceE.get {L : List Ent} {last : Last} {c : Int} {k : Nat} (h : SameE L last) (hk : PlaceE L c k) : seqO (last c) = (getE L k).2.1 ∧ ansO (last c) = (getE L k).2.2 ∧ (k = L.length → last c = none ∧ ∀ x ∈ L, x.1 ≠ c) := by
  obtain ⟨h1, h2, h3⟩ := hk
  rw [← h.find c]
  by_cases hl : k < L.length
  · rw [findE_at hl h2 (h3 hl), getE_at hl]
    exact ⟨rfl, rfl, fun e => by omega⟩
  · obtain rfl : k = L.length := by omega
    have hn : ∀ x ∈ L, x.1 ≠ c := fun x hx => by
      obtain ⟨i, hi, rfl⟩ := List.mem_iff_getElem.1 hx
      exact h2 i hi hi
    rw [findE_no hn, getE_end]
    exact ⟨rfl, rfl, fun _ => ⟨rfl, hn⟩⟩
theorem do_same {tp : List (List UInt8)} {L : List Ent} {last : Last} {x : GCall} {k : Nat} (h : SameE L last) (hk : PlaceE L x.fClient k) (h0 : 0 ≤ x.fSeq) (hq : ∀ c, (last c).isSome = true → seqO (last c) ≠ 0) (hz : 0 ≤ seqO (last x.fClient)) :
    (onceK tp L x k).1 = (doS tp last x).1 ∧ (onceK tp L x k).2.2 = (doS tp last x).2.2 ∧ SameE (onceK tp L x k).2.1 (doS tp last x).2.1 ∧ (onceK tp L x k).2.1.length ≤ L.length + 1 := by
  obtain ⟨e1, e2, e3⟩ := PlaceE.get h hk
  have hnn : x.fSeq = 0 → seqO (last x.fClient) = 0 → ansO (last x.fClient) = [] := fun _ hs => by
    cases hl : last x.fClient with
    | none => rfl
    | some y => exact absurd hs (hq _ (by rw [hl]; rfl))
  unfold onceK doS
  rw [← e1, ← e2]
  generalize hS : seqO (last x.fClient) = S at *
  by_cases c1 : x.fSeq < S ∨ x.fSeq = 0
  · rw [if_pos c1]
    have c2 : ¬ S < x.fSeq := by omega
    rw [if_neg c2]
    by_cases c3 : x.fSeq < S
    · rw [if_pos c3]; exact ⟨rfl, rfl, h, Nat.le_succ _⟩
    · rw [if_neg c3]; exact ⟨rfl, (hnn (by omega) (by omega)).symm, h, Nat.le_succ _⟩
  · rw [if_neg c1]
    by_cases c2 : x.fSeq = S
    · rw [if_pos c2, if_neg (show ¬ S < x.fSeq by omega), if_neg (show ¬ x.fSeq < S by omega)]
      exact ⟨rfl, rfl, h, Nat.le_succ _⟩
    · rw [if_neg c2, if_pos (show S < x.fSeq by omega)]
      refine ⟨rfl, rfl, ?_, ?_⟩
      · by_cases hl : k < L.length
        · have he : ¬ k = L.length := by omega
          show SameE ((if k = L.length then L ++ [(x.fClient, 0, [])] else L).set k (x.fClient, x.fSeq, answer (tp.length + 1) x.fData)) _
          rw [if_neg he]
          refine ⟨fun i => ?_, ?_⟩
          · rw [findE_set _ _ hl hk.2.1 (hk.2.2 hl) i, h.find i]; rfl
          · have : (L.set k (x.fClient, x.fSeq, answer (tp.length + 1) x.fData)).map (·.1) = L.map (·.1) := by
              rw [List.map_set]
              refine List.ext_getElem (by simp) (fun i h1 h2 => ?_)
              rw [List.getElem_set]
              split
              · rename_i e; subst e; simp [hk.2.2 hl]
              · rfl
            rw [this]; exact h.nd
        · have hkl : k = L.length := by have := hk.1; omega
          have hn := (e3 hkl).2
          show SameE ((if k = L.length then L ++ [(x.fClient, 0, [])] else L).set k (x.fClient, x.fSeq, answer (tp.length + 1) x.fData)) _
          rw [if_pos hkl, hkl]
          have : (L ++ [(x.fClient, 0, [])]).set L.length (x.fClient, x.fSeq, answer (tp.length + 1) x.fData) = L ++ [(x.fClient, x.fSeq, answer (tp.length + 1) x.fData)] := by
            rw [List.set_append_right _ _ (Nat.le_refl _)]; simp
          rw [this]
          refine ⟨fun i => ?_, ?_⟩
          · rw [findE_app _ _ hn i, h.find i]; rfl
          · rw [List.map_append, List.nodup_append]
            refine ⟨h.nd, by simp, fun a ha b hb => ?_⟩
            obtain ⟨y, hy, rfl⟩ := List.mem_map.1 ha
            simp only [List.map_cons, List.map_nil, List.mem_singleton] at hb
            rw [hb]; exact hn y hy
      · show ((if k = L.length then L ++ [(x.fClient, 0, [])] else L).set k _).length ≤ _
        rw [List.length_set]
        split <;> simp
theorem told_same : ∀ {L : List Ent} {last : Last} (_ : SameE L last) (c s : Int), toldE L c s = toldS last c s := fun {L last} h c s => by
  unfold toldS
  rw [← h.find c]
  have hnd := h.nd
  clear h
  induction L with
  | nil => rfl
  | cons y L ih =>
    rw [List.map_cons, List.nodup_cons] at hnd
    have ih := ih hnd.2
    rw [findE_cons]
    unfold toldE at ih ⊢
    rw [List.find?_cons]
    by_cases h1 : y.1 = c
    · rw [if_pos h1]
      by_cases h2 : y.2.1 = s
      · simp [h1, h2]
      · have hno : ∀ x ∈ L, x.1 ≠ c := fun x hx e => hnd.1 (List.mem_map.2 ⟨x, hx, e.trans h1.symm⟩)
        rw [findE_no hno] at ih
        have hd : (decide (y.1 = c) && decide (y.2.1 = s)) = false := by simp [h2]
        rw [hd]
        simp only [if_neg h2]
        exact ih
    · have hd : (decide (y.1 = c) && decide (y.2.1 = s)) = false := by simp [h1]
      rw [if_neg h1, hd]
      exact ih
end Go.Proofs.Ythchpdflnpfjkaa
namespace Go.Proofs.Ythchpdflnpfjkaa
open Go.RowKit

theorem Mach.tp {w : World} {O : Nat → Prop} {bD bT n : Nat} {tape : List (List UInt8)} {last : Last} (h : Mach w O bD bT n tape last) :
    ∃ (a : Option Addr) (cap : Nat), RowIs w bT 27 [.slice a tape.length cap] ∧ Lies w O a (tape.map sv) := by
  obtain ⟨bM, g, D, r, t, pa, m⟩ := h.body
  obtain ⟨a, cap, row, own, hg⟩ := t.row
  exact ⟨a, cap, row, (Lies.of_owned own).mono (fun b hb => pa.og b (hg ▸ hb.2))⟩
section
attribute [local go_sem ↓] stz_Call
set_option maxRecDepth 100000 in
set_option maxHeartbeats 4000000 in
theorem odoBad_c {p : Nat → Prop} (bO : Nat) (a : Option Addr) (nn ca : Nat) (l : List UInt8) (w : World) (hn : l.length = nn) (ha : Lies w p a (l.map bv)) (hr : nn ≤ 140737488355328) (hx : (takeP pGCall zGCall l).2 ≠ 0) :
    Calls Try.prog 19 #[.pointer (some ⟨bO, 0, none⟩), .slice a nn ca] w fun e w' => e = .returned (.slice none 0 0) ∧ Keep Nix w w' := by
  have hT := iTakeCall_c a nn ca l w hn ha hr
  generalize takeP pGCall zGCall l = y at hT hx
  obtain ⟨x, er⟩ := y
  have hx : er ≠ 0 := hx
  replace hT := Lib.hid hT
  clear ha hn
  go_enter Try.func19, Try.ntmps19
  go_wp2_with fail
  go_fit hT.out
  rintro e w1 ⟨cs, rfl, hR, -, k1⟩
  obtain ⟨aX, cX, rfl, -, -, -, -⟩ := rGCall_open hR
  clear hT hR
  obtain ⟨hst, rowC, kX⟩ := boxed (P := Try.prog) (zs := [.int .u64 0, .int .u64 0, .slice none 0 0]) (cs := [.int .u64 x.fClient, .int .u64 x.fSeq, .slice aX x.fData.length cX]) S_Call w1 rfl rfl rfl
  have K2 := Lib.hid (k1.trans kX)
  clear k1 kX rowC
  go_wp2_with fail
  go_ret
  exact ⟨rfl, K2.out⟩
end
set_option maxRecDepth 100000 in
set_option maxHeartbeats 8000000 in
theorem alike_c (O : Nat → Prop) (bD bT n : Nat) (tp : List (List UInt8)) (last : Last) (Q : Nat → Prop) (bO : Nat) (g : Option Nat) (L : List Ent) (aL : Option Addr) (cL : Nat) (css : List (List Value)) (c s : Int) (w : World) (hm : Mach w O bD bT n tp last) (ho : OnceAt w Q bO g tp L aL cL css) (hS : SameE L last) (hc : isU64 c) (hs : isU64 s) (hL : L.length ≤ 1000) (htp : tp.length ≤ 1000) (hll : (toldS last c s).1.length ≤ 100000) :
    Calls Try.prog 20 #[.pointer (some ⟨bD, 0, none⟩), .pointer (some ⟨bT, 0, none⟩), .pointer (some ⟨bO, 0, none⟩), .int .u64 c, .int .u64 s] w fun e w' => e = .returned (.bool true) ∧ Keep Nix w w' := by
  have HA := Lib.hid (told_c O bD bT n tp last c s w hm hc hs)
  have HM := Lib.hid hm
  have HO := Lib.hid ho
  have HB : ∀ w1, Keep Nix w w1 → Calls Try.prog 40 #[.pointer (some ⟨bO, 0, none⟩), .int .u64 c, .int .u64 s] w1 fun e w' => ∃ a cp, e = .returned (.tuple #[.slice a (toldS last c s).1.length cp, .bool (toldS last c s).2]) ∧ w'.ownsRow w1.heap.size 5 1 (.slice a (toldS last c s).1.length cp) (toldS last c s).1.length ((toldS last c s).1.map bv) ∧ Keep Nix w1 w' := fun w1 k => by
    have h := otold_c Q bO g tp L aL cL css c s w1 (ho.nix k) (by omega)
    rw [told_same hS] at h
    exact h
  have HB := Lib.hid HB
  clear hm ho hS
  generalize toldS last c s = y at *
  obtain ⟨ans, f⟩ := y
  have hll : ans.length ≤ 100000 := hll
  go_enter Try.func20, Try.ntmps20
  go_wp2_with fail
  go_fit HA.out
  rintro e w1 ⟨a1, c1, rfl, own1, k1⟩
  have HB := Lib.hid (HB.out w1 k1)
  have K1 := Lib.hid k1
  have O1 := Lib.hid own1
  clear own1 k1 HA
  go_wp2_with fail
  go_fit HB.out
  rintro e w2 ⟨a2, c2, rfl, own2, k2⟩
  have K2 := Lib.hid (K1.out.trans k2)
  have L1 := Lib.hid (Lies.of_owned (owned_keep O1.out k2 (fun _ _ h => h)))
  have L2 := Lib.hid (Lies.of_owned own2)
  clear own2 k2 HB K1 O1
  go_wp2_with fail
  have kd := K2.out.drew
  obtain ⟨aT, cT, rowT, liT⟩ := (HM.out.keep kd (fun _ _ h => h)).tp
  obtain ⟨aU, cU, rowU, ownU, -⟩ := (HO.out.nix kd).tape.row
  have x0 : w2.drew.cell? ⟨bT, 0, none⟩ = some (.slice aT tp.length cT) := rowT.cell 0
  have o0 : w2.drew.cell? ⟨bO, 0, none⟩ = some (.slice aU tp.length cU) := rowU.cell 0
  have HP := plainS_c aT aU tp.length cT tp.length cU tp tp w2.drew rfl rfl liT (Lies.of_owned ownU) (by unfold maxLen; omega)
  rw [decide_eq_true (rfl : tp = tp)] at HP
  replace HP := Lib.hid HP
  have L1 := Lib.hid (L1.out.same (w' := w2.drew))
  have L2 := Lib.hid (L2.out.same (w' := w2.drew))
  have K3 := Lib.hid kd
  have RT := Lib.hid rowT
  have RU := Lib.hid rowU
  have tf : (f == f) = true := by simp
  clear kd rowT rowU liT ownU
  refine wp_region_held_drew (S := (fun w' => w'.cell? ⟨bT, 0, none⟩ = some (.slice aT tp.length cT) ∧ w'.cell? ⟨bO, 0, none⟩ = some (.slice aU tp.length cU))) (by kernel_rfl) (⟨x0, o0⟩) (fun hHeld => ?_)
  refine wpAnyH_take (i := 0) (v := ?_) rfl (by kernel_rfl) (by kernel_rfl) (by kernel_rfl) (fun _ _ _ h => h) (Or.inl ⟨by kernel_rfl, ?_⟩) hHeld ?_
  rotate_left
  · intro w' hSw
    (try dsimp only at hSw)
    (try simp only [List.getElem_toArray]); (try simp only [List.getElem_cons_succ]); (try simp only [List.getElem_cons_zero])
    go_simp
    try with_reducible rfl
  (try simp only [Act.put]); (try simp only [List.getElem_toArray]); (try simp only [List.getElem_cons_succ]); (try simp only [List.getElem_cons_zero]); (try simp only [List.setIfInBounds_toArray]); (try simp only [List.set_cons_succ]); (try simp only [List.set_cons_zero])
  refine wpAnyH_take (i := 1) (v := ?_) rfl (by kernel_rfl) (by kernel_rfl) (by kernel_rfl) (fun _ _ _ h => h) (Or.inl ⟨by kernel_rfl, ?_⟩) hHeld ?_
  rotate_left
  · intro w' hSw
    (try dsimp only at hSw)
    (try simp only [List.getElem_toArray]); (try simp only [List.getElem_cons_succ]); (try simp only [List.getElem_cons_zero])
    go_simp
    try with_reducible rfl
  (try simp only [Act.put]); (try simp only [List.getElem_toArray]); (try simp only [List.getElem_cons_succ]); (try simp only [List.getElem_cons_zero]); (try simp only [List.setIfInBounds_toArray]); (try simp only [List.set_cons_succ]); (try simp only [List.set_cons_zero])
  refine wpAnyH_take (i := 2) (v := ?_) rfl (by kernel_rfl) (by kernel_rfl) (by kernel_rfl) (fun _ _ _ h => h) (Or.inl ⟨by kernel_rfl, ?_⟩) hHeld ?_
  rotate_left
  · intro w' hSw
    (try dsimp only at hSw)
    (try simp only [List.getElem_toArray]); (try simp only [List.getElem_cons_succ]); (try simp only [List.getElem_cons_zero])
    go_simp
    try with_reducible rfl
  (try simp only [Act.put]); (try simp only [List.getElem_toArray]); (try simp only [List.getElem_cons_succ]); (try simp only [List.getElem_cons_zero]); (try simp only [List.setIfInBounds_toArray]); (try simp only [List.set_cons_succ]); (try simp only [List.set_cons_zero])
  refine wpAnyH_take (i := 3) (v := ?_) rfl (by kernel_rfl) (by kernel_rfl) (by kernel_rfl) (fun _ _ _ h => h) (Or.inl ⟨by kernel_rfl, ?_⟩) hHeld ?_
  rotate_left
  · intro w' hSw
    (try dsimp only at hSw)
    (try simp only [List.getElem_toArray]); (try simp only [List.getElem_cons_succ]); (try simp only [List.getElem_cons_zero])
    go_simp
    try with_reducible rfl
  (try simp only [Act.put]); (try simp only [List.getElem_toArray]); (try simp only [List.getElem_cons_succ]); (try simp only [List.getElem_cons_zero]); (try simp only [List.setIfInBounds_toArray]); (try simp only [List.set_cons_succ]); (try simp only [List.set_cons_zero])
  refine wpAnyH_take (i := 4) (v := ?_) rfl (by kernel_rfl) (by kernel_rfl) (by kernel_rfl) (fun _ _ _ h => h) (Or.inl ⟨by kernel_rfl, ?_⟩) hHeld ?_
  rotate_left
  · intro w' hSw
    (try dsimp only at hSw)
    (try simp only [List.getElem_toArray]); (try simp only [List.getElem_cons_succ]); (try simp only [List.getElem_cons_zero])
    go_simp
    try with_reducible rfl
  (try simp only [Act.put]); (try simp only [List.getElem_toArray]); (try simp only [List.getElem_cons_succ]); (try simp only [List.getElem_cons_zero]); (try simp only [List.setIfInBounds_toArray]); (try simp only [List.set_cons_succ]); (try simp only [List.set_cons_zero])
  refine wpAnyH_take (i := 5) (v := ?_) rfl (by kernel_rfl) (by kernel_rfl) (by kernel_rfl) (fun _ _ _ h => h) (Or.inl ⟨by kernel_rfl, ?_⟩) hHeld ?_
  rotate_left
  · intro w' hSw
    (try dsimp only at hSw)
    (try simp only [List.getElem_toArray]); (try simp only [List.getElem_cons_succ]); (try simp only [List.getElem_cons_zero])
    go_simp
    try with_reducible rfl
  (try simp only [Act.put]); (try simp only [List.getElem_toArray]); (try simp only [List.getElem_cons_succ]); (try simp only [List.getElem_cons_zero]); (try simp only [List.setIfInBounds_toArray]); (try simp only [List.set_cons_succ]); (try simp only [List.set_cons_zero])
  refine wpAnyH_take (i := 6) (v := ?_) rfl (by kernel_rfl) (by kernel_rfl) (by kernel_rfl) (fun _ _ _ h => h) (Or.inl ⟨by kernel_rfl, ?_⟩) hHeld ?_
  rotate_left
  · intro w' hSw
    (try dsimp only at hSw)
    (try simp only [List.getElem_toArray]); (try simp only [List.getElem_cons_succ]); (try simp only [List.getElem_cons_zero])
    go_simp
    try with_reducible rfl
  (try simp only [Act.put]); (try simp only [List.getElem_toArray]); (try simp only [List.getElem_cons_succ]); (try simp only [List.getElem_cons_zero]); (try simp only [List.setIfInBounds_toArray]); (try simp only [List.set_cons_succ]); (try simp only [List.set_cons_zero])
  refine wpAnyH_take (i := 7) (v := ?_) rfl (by kernel_rfl) (by kernel_rfl) (by kernel_rfl) (fun _ _ _ h => h) (Or.inl ⟨by kernel_rfl, ?_⟩) hHeld ?_
  rotate_left
  · intro w' hSw
    (try dsimp only at hSw)
    (try simp only [List.getElem_toArray]); (try simp only [List.getElem_cons_succ]); (try simp only [List.getElem_cons_zero])
    go_simp
    try with_reducible rfl
  (try simp only [Act.put]); (try simp only [List.getElem_toArray]); (try simp only [List.getElem_cons_succ]); (try simp only [List.getElem_cons_zero]); (try simp only [List.setIfInBounds_toArray]); (try simp only [List.set_cons_succ]); (try simp only [List.set_cons_zero])
  refine wpAnyH_take (i := 8) (v := ?_) rfl (by kernel_rfl) (by kernel_rfl) (by kernel_rfl) (fun _ _ _ h => h) (Or.inl ⟨by kernel_rfl, ?_⟩) hHeld ?_
  rotate_left
  · intro w' hSw
    (try dsimp only at hSw)
    (try simp only [List.getElem_toArray]); (try simp only [List.getElem_cons_succ]); (try simp only [List.getElem_cons_zero])
    go_simp
    try with_reducible rfl
  (try simp only [Act.put]); (try simp only [List.getElem_toArray]); (try simp only [List.getElem_cons_succ]); (try simp only [List.getElem_cons_zero]); (try simp only [List.setIfInBounds_toArray]); (try simp only [List.set_cons_succ]); (try simp only [List.set_cons_zero])
  clear x0 o0
  generalize w2.drew = w3 at *
  refine wpAnyH_ready (rs := [9]) (by kernel_rfl) (by simp) ?_
  refine AllReadyH.cons rfl (fun K hK => ?_) AllReadyH.nil
  go_simp
  go_fit HP.out
  rintro e w4 ⟨rfl, k4⟩
  have x0 : w4.cell? ⟨bT, 0, none⟩ = some (.slice aT tp.length cT) := (RT.out.keep k4 id).cell 0
  have o0 : w4.cell? ⟨bO, 0, none⟩ = some (.slice aU tp.length cU) := (RU.out.keep k4 id).cell 0
  have HE := bytes_c a1 a2 ans.length c1 ans.length c2 ans ans w4 rfl rfl (L1.out.keep k4 (fun _ _ h => h)) (L2.out.keep k4 (fun _ _ h => h))
  rw [decide_eq_true (rfl : ans = ans)] at HE
  replace HE := Lib.hid HE
  have K4 := Lib.hid (K3.out.trans k4)
  clear k4 HP
  go_wp2_with fail
  refine hK.out _ _ (⟨x0, o0⟩) (fun hHeld => ?_)
  clear hK K
  (try simp only [Act.put]); (try simp only [List.getElem_toArray]); (try simp only [List.getElem_cons_succ]); (try simp only [List.getElem_cons_zero]); (try simp only [List.setIfInBounds_toArray]); (try simp only [List.set_cons_succ]); (try simp only [List.set_cons_zero])
  refine wpAnyH_take (i := 10) (v := ?_) rfl (by kernel_rfl) (by kernel_rfl) (by kernel_rfl) (fun _ _ _ h => h) (Or.inl ⟨by kernel_rfl, ?_⟩) hHeld ?_
  rotate_left
  · intro w' hSw
    (try dsimp only at hSw)
    (try simp only [List.getElem_toArray]); (try simp only [List.getElem_cons_succ]); (try simp only [List.getElem_cons_zero])
    go_simp
    try with_reducible rfl
  (try simp only [Act.put]); (try simp only [List.getElem_toArray]); (try simp only [List.getElem_cons_succ]); (try simp only [List.getElem_cons_zero]); (try simp only [List.setIfInBounds_toArray]); (try simp only [List.set_cons_succ]); (try simp only [List.set_cons_zero])
  refine wpAnyH_take (i := 11) (v := ?_) rfl (by kernel_rfl) (by kernel_rfl) (by kernel_rfl) (fun _ _ _ h => h) (Or.inl ⟨by kernel_rfl, ?_⟩) hHeld ?_
  rotate_left
  · intro w' hSw
    (try dsimp only at hSw)
    (try simp only [List.getElem_toArray]); (try simp only [List.getElem_cons_succ]); (try simp only [List.getElem_cons_zero])
    go_simp
    try with_reducible rfl
  (try simp only [Act.put]); (try simp only [List.getElem_toArray]); (try simp only [List.getElem_cons_succ]); (try simp only [List.getElem_cons_zero]); (try simp only [List.setIfInBounds_toArray]); (try simp only [List.set_cons_succ]); (try simp only [List.set_cons_zero])
  refine wpAnyH_take (i := 12) (v := ?_) rfl (by kernel_rfl) (by kernel_rfl) (by kernel_rfl) (fun _ _ _ h => h) (Or.inl ⟨by kernel_rfl, ?_⟩) hHeld ?_
  rotate_left
  · intro w' hSw
    (try dsimp only at hSw)
    (try simp only [List.getElem_toArray]); (try simp only [List.getElem_cons_succ]); (try simp only [List.getElem_cons_zero])
    go_simp
    try with_reducible rfl
  (try simp only [Act.put]); (try simp only [List.getElem_toArray]); (try simp only [List.getElem_cons_succ]); (try simp only [List.getElem_cons_zero]); (try simp only [List.setIfInBounds_toArray]); (try simp only [List.set_cons_succ]); (try simp only [List.set_cons_zero])
  refine wpAnyH_take (i := 13) (v := ?_) rfl (by kernel_rfl) (by kernel_rfl) (by kernel_rfl) (fun _ _ _ h => h) (Or.inl ⟨by kernel_rfl, ?_⟩) hHeld ?_
  rotate_left
  · intro w' hSw
    (try dsimp only at hSw)
    (try simp only [List.getElem_toArray]); (try simp only [List.getElem_cons_succ]); (try simp only [List.getElem_cons_zero])
    go_simp
    try with_reducible rfl
  (try simp only [Act.put]); (try simp only [List.getElem_toArray]); (try simp only [List.getElem_cons_succ]); (try simp only [List.getElem_cons_zero]); (try simp only [List.setIfInBounds_toArray]); (try simp only [List.set_cons_succ]); (try simp only [List.set_cons_zero])
  refine wpAnyH_take (i := 14) (v := ?_) rfl (by kernel_rfl) (by kernel_rfl) (by kernel_rfl) (fun _ _ _ h => h) (Or.inl ⟨by kernel_rfl, ?_⟩) hHeld ?_
  rotate_left
  · intro w' hSw
    (try dsimp only at hSw)
    (try simp only [List.getElem_toArray]); (try simp only [List.getElem_cons_succ]); (try simp only [List.getElem_cons_zero])
    go_simp
    try with_reducible rfl
  (try simp only [Act.put]); (try simp only [List.getElem_toArray]); (try simp only [List.getElem_cons_succ]); (try simp only [List.getElem_cons_zero]); (try simp only [List.setIfInBounds_toArray]); (try simp only [List.set_cons_succ]); (try simp only [List.set_cons_zero])
  refine wpAnyH_take (i := 15) (v := ?_) rfl (by kernel_rfl) (by kernel_rfl) (by kernel_rfl) (fun _ _ _ h => h) (Or.inl ⟨by kernel_rfl, ?_⟩) hHeld ?_
  rotate_left
  · intro w' hSw
    (try dsimp only at hSw)
    (try simp only [List.getElem_toArray]); (try simp only [List.getElem_cons_succ]); (try simp only [List.getElem_cons_zero])
    go_simp
    try with_reducible rfl
  (try simp only [Act.put]); (try simp only [List.getElem_toArray]); (try simp only [List.getElem_cons_succ]); (try simp only [List.getElem_cons_zero]); (try simp only [List.setIfInBounds_toArray]); (try simp only [List.set_cons_succ]); (try simp only [List.set_cons_zero])
  refine wpAnyH_take (i := 16) (v := ?_) rfl (by kernel_rfl) (by kernel_rfl) (by kernel_rfl) (fun _ _ _ h => h) (Or.inl ⟨by kernel_rfl, ?_⟩) hHeld ?_
  rotate_left
  · intro w' hSw
    (try dsimp only at hSw)
    (try simp only [List.getElem_toArray]); (try simp only [List.getElem_cons_succ]); (try simp only [List.getElem_cons_zero])
    go_simp
    try with_reducible rfl
  (try simp only [Act.put]); (try simp only [List.getElem_toArray]); (try simp only [List.getElem_cons_succ]); (try simp only [List.getElem_cons_zero]); (try simp only [List.setIfInBounds_toArray]); (try simp only [List.set_cons_succ]); (try simp only [List.set_cons_zero])
  refine wpAnyH_take (i := 17) (v := ?_) rfl (by kernel_rfl) (by kernel_rfl) (by kernel_rfl) (fun _ _ _ h => h) (Or.inl ⟨by kernel_rfl, ?_⟩) hHeld ?_
  rotate_left
  · intro w' hSw
    (try dsimp only at hSw)
    (try simp only [List.getElem_toArray]); (try simp only [List.getElem_cons_succ]); (try simp only [List.getElem_cons_zero])
    go_simp
    try with_reducible rfl
  (try simp only [Act.put]); (try simp only [List.getElem_toArray]); (try simp only [List.getElem_cons_succ]); (try simp only [List.getElem_cons_zero]); (try simp only [List.setIfInBounds_toArray]); (try simp only [List.set_cons_succ]); (try simp only [List.set_cons_zero])
  refine wpAnyH_ready (rs := [18]) (by kernel_rfl) (by simp) ?_
  refine AllReadyH.cons rfl (fun K hK => ?_) AllReadyH.nil
  go_simp
  go_fit HE.out
  rintro e w5 ⟨rfl, rfl⟩
  go_wp2_with fail
  refine hK.out _ _ (⟨x0, o0⟩) (fun hHeld => ?_)
  clear hK K
  (try simp only [Act.put]); (try simp only [List.getElem_toArray]); (try simp only [List.getElem_cons_succ]); (try simp only [List.getElem_cons_zero]); (try simp only [List.setIfInBounds_toArray]); (try simp only [List.set_cons_succ]); (try simp only [List.set_cons_zero])
  refine wpAnyH_take (i := 19) (v := ?_) rfl (by kernel_rfl) (by kernel_rfl) (by kernel_rfl) (fun _ _ _ h => h) (Or.inl ⟨by kernel_rfl, ?_⟩) hHeld ?_
  rotate_left
  · intro w' hSw
    (try dsimp only at hSw)
    (try simp only [List.getElem_toArray]); (try simp only [List.getElem_cons_succ]); (try simp only [List.getElem_cons_zero])
    go_simp
    try with_reducible rfl
  (try simp only [Act.put]); (try simp only [List.getElem_toArray]); (try simp only [List.getElem_cons_succ]); (try simp only [List.getElem_cons_zero]); (try simp only [List.setIfInBounds_toArray]); (try simp only [List.set_cons_succ]); (try simp only [List.set_cons_zero])
  refine wpAnyH_take (i := 20) (v := ?_) rfl (by kernel_rfl) (by kernel_rfl) (by kernel_rfl) (fun _ _ _ h => h) (Or.inl ⟨by kernel_rfl, ?_⟩) hHeld ?_
  rotate_left
  · intro w' hSw
    (try dsimp only at hSw)
    (try simp only [List.getElem_toArray]); (try simp only [List.getElem_cons_succ]); (try simp only [List.getElem_cons_zero])
    go_simp
    try with_reducible rfl
  (try simp only [Act.put]); (try simp only [List.getElem_toArray]); (try simp only [List.getElem_cons_succ]); (try simp only [List.getElem_cons_zero]); (try simp only [List.setIfInBounds_toArray]); (try simp only [List.set_cons_succ]); (try simp only [List.set_cons_zero])
  refine wpAnyH_done (by kernel_rfl) ?_ _
  go_wp2_with fail
  go_ret
  exact ⟨rfl, K4.out⟩
end Go.Proofs.Ythchpdflnpfjkaa
namespace Go.Proofs.Ythchpdflnpfjkaa
open Go.RowKit
theorem cellsOp : Try.prog.cellsOf 53 = 5 := by kernel_rfl
/-- armoire/armoirelaw10.Op -/
structure GOp where
  fC : GCall
  fRaw : (List UInt8)
  fLoad : Bool
  deriving DecidableEq
def rGOp : RD GOp := fun w p cs x => ∃ c0 c1 c2 : List Value, cs = List.flatten [c0, c1, c2] ∧ rGCall w p c0 x.fC ∧ rBytes w p c1 x.fRaw ∧ rBool w p c2 x.fLoad
theorem rGOp_lawful : Lawful rGOp 5 :=
  ⟨fun ⟨c0, c1, c2, h, h0, h1, h2⟩ => by rw [h]; simp only [List.flatten_cons, List.flatten_nil, List.append_nil, List.length_append, rGCall_lawful.len h0, rBytes_lawful.len h1, rBool_lawful.len h2],
   fun ⟨c0, c1, c2, h, h0, h1, h2⟩ k hs => ⟨c0, c1, c2, h, rGCall_lawful.keep h0 k hs, rBytes_lawful.keep h1 k hs, rBool_lawful.keep h2 k hs⟩,
   fun ⟨c0, c1, c2, h, h0, h1, h2⟩ hq => ⟨c0, c1, c2, h, rGCall_lawful.mono h0 hq, rBytes_lawful.mono h1 hq, rBool_lawful.mono h2 hq⟩⟩
def GOp.size (x : GOp) : Nat := GCall.size x.fC + (fun x : List UInt8 => x.length + 1) x.fRaw + (fun _ => 1) x.fLoad + 1
theorem redGOp {W : World} {m : Nat} {cs : List Value} (h : Red Try.prog W m 53 cs) : ∃ x, rGOp W (· < W.heap.size) cs x ∧ x.size ≤ m := by
  obtain ⟨hl, ms, h1, h2, h3⟩ := h.fields Try.underlying53 cellsOp
  match ms, h1 with
  | [m0, m1, m2], _ =>
    have r0 : Red Try.prog W m0 35 ((cs.drop 0).take 3) := (congrArg (fun k => Red Try.prog W m0 35 ((cs.drop 0).take k)) (by kernel_rfl : Try.prog.cellsOf 35 = 3)).mp (h3 0 _ m0 rfl rfl)
    obtain ⟨x0, g0, s0⟩ := redGCall r0
    have r1 : Red Try.prog W m1 31 ((cs.drop 3).take 1) := (congrArg (fun k => Red Try.prog W m1 31 ((cs.drop 3).take k)) (by kernel_rfl : Try.prog.cellsOf 31 = 1)).mp (h3 1 _ m1 rfl rfl)
    obtain ⟨x1, g1, s1⟩ := Red.toBytes Try.underlying31 Try.underlying5 (by kernel_rfl : Try.prog.cellsOf 5 = 1) (by kernel_rfl : Try.prog.bytesOf 5 = 1) r1
    have r2 : Red Try.prog W m2 4 ((cs.drop 4).take 1) := (congrArg (fun k => Red Try.prog W m2 4 ((cs.drop 4).take k)) (by kernel_rfl : Try.prog.cellsOf 4 = 1)).mp (h3 2 _ m2 rfl rfl)
    obtain ⟨x2, g2, s2⟩ := Red.toBool Try.underlying4 r2
    have hp := parts_flat cs [3, 1, 1] 0 (by simpa using hl)
    simp only [parts, List.drop_zero, Nat.zero_add, Nat.reduceAdd] at hp
    refine ⟨⟨x0, x1, x2⟩, ⟨_, _, _, hp.symm, g0, g1, g2⟩, ?_⟩
    simp only [List.sum_cons, List.sum_nil] at h2
    simp only [GOp.size] at *
    omega
theorem S_Op : StructT Try.prog 53 5 := ⟨⟨_, Try.underlying53⟩, by kernel_rfl⟩
theorem stz_Op (a : Act) (dst : Option Tmp) (x y : Operand) (ty : TypeId) (pos : String) (after : Array Edge) (guard : Option (Nat × Bool)) : execOp a.eval { dst := dst, op := .store 53 x y, type := ty, pos := pos, after := after, guard := guard } = storeSem 53 (a.eval x) (a.eval y) := rfl
theorem rGOp_open {w : World} {p : Nat → Prop} {cs : List Value} {x : GOp} (h : rGOp w p cs x) : ∃ aD cD aR cR, cs = [.int .u64 x.fC.fClient, .int .u64 x.fC.fSeq, .slice aD x.fC.fData.length cD, .slice aR x.fRaw.length cR, .bool x.fLoad] ∧ isU64 x.fC.fClient ∧ isU64 x.fC.fSeq ∧ (Lies w p aD (x.fC.fData.map bv) ∧ x.fC.fData.length ≤ cD ∧ x.fC.fData.length ≤ far) ∧ (Lies w p aR (x.fRaw.map bv) ∧ x.fRaw.length ≤ cR ∧ x.fRaw.length ≤ far) := by
  obtain ⟨c0, c1, c2, rfl, h0, h1, h2⟩ := h
  obtain ⟨aD, cD, rfl, k1, k2, k3, -⟩ := rGCall_open h0
  obtain ⟨aR, cR, rfl, k4, k5, k6⟩ := h1
  exact ⟨aD, cD, aR, cR, by rw [h2]; rfl, k1, k2, k3, k4, k5, k6⟩
/-- The calls that are taken, the others: what the machine does. -/
def doA (tp : List (List UInt8)) (last : Last) (y : GCall × Int) : List (List UInt8) × Last × List UInt8 := if y.2 = 0 then doS tp last y.1 else (tp, last, [])
theorem doA_c {p : Nat → Prop} (O : Nat → Prop) (bD bT n : Nat) (tp : List (List UInt8)) (last : Last) (a : Option Addr) (nn ca : Nat) (l : List UInt8) (w : World) (hn : l.length = nn) (ha : Lies w p a (l.map bv)) (hr0 : nn ≤ 140737488355328)
    (hm : Mach w O bD bT n tp last) (hL : tp.length ≤ 100000) (hN : n < 1000000) :
    Calls Try.prog 11 #[.pointer (some ⟨bD, 0, none⟩), .slice a nn ca] w (DoPost w O bD bT n tp (doA tp last (takeP pGCall zGCall l))) := by
  unfold doA
  by_cases h : (takeP pGCall zGCall l).2 = 0
  · rw [if_pos h]
    exact do_ok O bD bT n tp last a nn ca l _ w hn ha hr0 hm hL hN (by rw [← h])
  · rw [if_neg h]
    refine (do_bad O bD bT n tp last a nn ca l w hn ha hr0 hm h).mono ?_
    rintro e w1 ⟨rfl, k1⟩
    exact ⟨none, 0, w1.heap.size, O, rfl, k1.size, Nat.le_refl _, World.ownsRow_nil _ _ _ _, (hm.keep k1 (fun _ _ h => h)).more (Nat.le_succ _), k1.nix, fun b hb => ⟨.inl hb, Nat.lt_of_lt_of_le (hm.lt b hb) k1.size⟩, fun _ => k1⟩
def onceA (tp : List (List UInt8)) (L : List Ent) (y : GCall × Int) (k : Nat) : List (List UInt8) × List Ent × List UInt8 := if y.2 = 0 then onceK tp L y.1 k else (tp, L, [])
theorem odoA_c {p : Nat → Prop} (Q : Nat → Prop) (bO : Nat) (g : Option Nat) (tp : List (List UInt8)) (L : List Ent) (aL : Option Addr) (cL : Nat) (css : List (List Value)) (a : Option Addr) (nn ca : Nat) (l : List UInt8) (w : World) (h : OnceAt w Q bO g tp L aL cL css) (hL : L.length ≤ 1000) (ht : tp.length ≤ 1000) (hn : l.length = nn) (ha : Lies w p a (l.map bv)) (hr : nn ≤ 140737488355328) (hxd : (takeP pGCall zGCall l).2 = 0 → (takeP pGCall zGCall l).1.fData.length ≤ 10000) (k0 : Nat) (hk0 : PlaceE L (takeP pGCall zGCall l).1.fClient k0) :
    Calls Try.prog 19 #[.pointer (some ⟨bO, 0, none⟩), .slice a nn ca] w (OncePost w Q bO (onceA tp L (takeP pGCall zGCall l) k0)) := by
  unfold onceA
  by_cases he : (takeP pGCall zGCall l).2 = 0
  · rw [if_pos he]
    exact odo_c Q bO g tp L aL cL css a nn ca l _ w h hL ht hn ha hr (by rw [← he]) (hxd he) k0 hk0
  · rw [if_neg he]
    refine (odoBad_c bO a nn ca l w hn ha hr he).mono ?_
    rintro e w1 ⟨rfl, k1⟩
    exact ⟨none, 0, w1.heap.size, Q, g, aL, cL, css, rfl, k1.size, World.ownsRow_nil _ _ _ _, h.nix k1, k1.nix, fun b hb => ⟨.inl hb, Nat.lt_of_lt_of_le (h.lt b hb) k1.size⟩⟩
theorem lastOf_ents {ys : List Int} {last : Last} (hR : Rise ys last) (ho : ∀ c, ¬ isU64 c → last c = none) (hch : ChainE none (entsOf ys last)) : lastOf (entsOf ys last) = last := by
  funext c
  by_cases hc : c ∈ ys
  · have hm : (c, seqO (last c), ansO (last c)) ∈ entsOf ys last := List.mem_map.2 ⟨c, hc, rfl⟩
    have h1 := lastOf_mem hch hm
    have h2 := ((hR.mem c).1 hc).2
    simp only at h1
    rw [h1]
    cases hl : last c with
    | none => rw [hl] at h2; cases h2
    | some y => rfl
  · rw [lastOf_none hch (fun x hx e => hc (by obtain ⟨k, hk, rfl⟩ := List.mem_map.1 hx; exact e ▸ hk))]
    by_cases hu : isU64 c
    · cases hl : last c with
      | none => rfl
      | some y => exact absurd ((hR.mem c).2 ⟨hu, by rw [hl]; rfl⟩) hc
    · exact (ho c hu).symm
end Go.Proofs.Ythchpdflnpfjkaa
namespace Go.Proofs.Ythchpdflnpfjkaa
open Go.RowKit

theorem lda_Op (a : Act) (dst : Option Tmp) (x : Operand) (ty : TypeId) (pos : String) (after : Array Edge) (guard : Option (Nat × Bool)) : execOp a.eval { dst := dst, op := .load 53 x, type := ty, pos := pos, after := after, guard := guard } = wholeSem 53 (a.eval x) := rfl
theorem spoilX_c (base n c : Nat) (a : Option Addr) (l : List UInt8) (w : World) (hn : l.length = n) (own : w.ownsRow base 5 1 (.slice a n c) n (l.map bv)) :
    Calls Try.prog 16 #[.slice a n c] w fun e w' => e = .returned (.tuple #[]) ∧ Keep (OwnB (.slice a n c)) w w' := by
  subst hn
  rcases Nat.eq_zero_or_pos l.length with h | h
  · rw [h]
    refine (spoil_zero a c w).mono ?_
    rintro e w' ⟨rfl, rfl⟩
    exact ⟨rfl, Keep.refl _ _⟩
  · obtain ⟨g, rest, rfl, hg, row, hl, hx, hnc, hcm⟩ := own_row own h
    refine (spoil_c g l.length c _ l w rfl row (fun j u hu => by
      rw [List.getElem?_append_left (List.getElem?_eq_some_iff.1 hu).1]; exact hu) (by omega)).mono ?_
    rintro e w' ⟨rfl, kk⟩
    exact ⟨rfl, kk.mono (fun b hb => by rw [hb]; rfl)⟩
theorem told_le (last : Last) (c s : Int) : (toldS last c s).1.length ≤ (ansO (last c)).length := by
  unfold toldS
  cases last c with
  | none => exact Nat.le_refl _
  | some y =>
    show (if y.1 = s then (y.2, true) else ([], false)).1.length ≤ y.2.length
    split
    · exact Nat.le_refl _
    · exact Nat.zero_le _
/-- What the machines agree on. -/
structure Both (k : Nat) (tp : List (List UInt8)) (last : Last) (L : List Ent) : Prop where
  bnd : Bnd k tp last
  same : SameE L last
  len : L.length ≤ k
  out : ∀ c, ¬ isU64 c → last c = none
theorem Both.start : Both 0 [] (fun _ => none) [] := ⟨Bnd.start, ⟨fun _ => rfl, List.nodup_nil⟩, Nat.le_refl _, fun _ _ => rfl⟩
theorem Both.more {k m : Nat} {tp : List (List UInt8)} {last : Last} {L : List Ent} (h : Both k tp last L) (hm : k ≤ m) : Both m tp last L := ⟨h.bnd.more hm, h.same, Nat.le_trans h.len hm, h.out⟩
theorem Both.step {k : Nat} {tp : List (List UInt8)} {last : Last} {L : List Ent} (h : Both k tp last L) {y : GCall × Int} {j : Nat} (hy : y.2 = 0 → (isU64 y.1.fClient ∧ isU64 y.1.fSeq) ∧ y.1.fData.length ≤ 300) (hj : PlaceE L y.1.fClient j) :
    (onceA tp L y j).1 = (doA tp last y).1 ∧ (onceA tp L y j).2.2 = (doA tp last y).2.2 ∧ Both (k + 1) (doA tp last y).1 (doA tp last y).2.1 (onceA tp L y j).2.1 := by
  unfold onceA doA
  by_cases h0 : y.2 = 0
  · rw [if_pos h0, if_pos h0]
    obtain ⟨hok, hd⟩ := hy h0
    have hs : isU64 y.1.fSeq := hok.2
    obtain ⟨e1, e2, e3, e4⟩ := do_same (tp := tp) h.same hj hs.1 (fun c hc => (h.bnd.sq c hc).2) (h.bnd.seq0 _)
    refine ⟨e1, e2, h.bnd.step y.1 hs hd, e3, by have := h.len; omega, fun c hc => ?_⟩
    have hne : c ≠ y.1.fClient := fun e => hc (e ▸ hok.1)
    unfold doS
    split
    · show upd last y.1.fClient _ c = none
      unfold upd; rw [if_neg hne]; exact h.out c hc
    · split
      · exact h.out c hc
      · exact h.out c hc
  · rw [if_neg h0, if_neg h0]
    exact ⟨rfl, rfl, h.more (Nat.le_succ _)⟩
theorem take_ok {l : List UInt8} (hl : l.length ≤ 300) (h0 : (takeP pGCall zGCall l).2 = 0) : (takeP pGCall zGCall l).1.fData.length ≤ 300 := by
  have h := good_GCall.take_form zGCall l h0
  have h2 := congrArg List.length h
  have h3 := textB_le (takeP pGCall zGCall l).1.fData
  have h4 : (takeP pGCall zGCall l).1.fData.length ≤ (encGCall (takeP pGCall zGCall l).1).length := by
    simp only [encGCall, textB, List.length_append]; omega
  omega
theorem take_u64 {l : List UInt8} (h0 : (takeP pGCall zGCall l).2 = 0) : isU64 (takeP pGCall zGCall l).1.fClient ∧ isU64 (takeP pGCall zGCall l).1.fSeq := by
  unfold takeP at *
  by_cases h1 : endS (pGCall ⟨l, 0, 0, []⟩).2 = 0
  · rw [endP_ok h1]
    have a := numS_le maxU ⟨l, 0, 0, []⟩
    have b := numS_le maxU (pNum ⟨l, 0, 0, []⟩).2
    unfold maxU at a b
    constructor
    · show isU64 (((numS maxU ⟨l, 0, 0, []⟩).1 : Nat) : Int)
      unfold maxU; constructor <;> omega
    · show isU64 (((numS maxU (pNum ⟨l, 0, 0, []⟩).2).1 : Nat) : Int)
      unfold maxU; constructor <;> omega
  · exfalso
    unfold endP at h0
    rw [if_neg h1] at h0
    exact h1 h0
end Go.Proofs.Ythchpdflnpfjkaa
