/- CodeMany: numbers one behind the other are read one by one, each from where the one ahead ended; behind the last nothing is left, and the next one is too short. For every input. -/
import Derived.Test.YtbjoemaejbmjaaaReadLaws
namespace Go.Proofs.Ytbjoemaejbmjaaa.codeMany
open Go.RowKit Go.ChangeShapes Go.WideShapes Go.ChangeAt

def nv (x : Nat) : Value := .int .u64 x
/-- The numbers of a slice of uint64 that came in. -/
theorem nums_in {P : Program} {W : World} {m : Nat} {t e : TypeId} {a : Option Addr} {n cap : Nat} (ht : P.underlying t = some (.slice e)) (he : P.underlying e = some (.int .u64)) (hc : P.cellsOf e = 1) (hby : P.bytesOf e = 8)
    (h : Red P W m t [.slice a n cap]) : ∃ l : List Nat, l.length = n ∧ (∀ x ∈ l, x < 2 ^ 64) ∧ Lies W (· < W.heap.size) a (l.map nv) ∧ cap * 8 ≤ 140737488351232 ∧ n ≤ cap := by
  obtain ⟨a', n', cap', css, ms, h1, h2, h3, h4, h5, -, h6, -, h7, h8⟩ := h.slice ht hc hby (by decide)
  simp only [List.cons.injEq, Value.slice.injEq, and_true] at h1
  obtain ⟨rfl, rfl, rfl⟩ := h1
  have hone : ∀ c ∈ css, ∃ x : Nat, c = [nv x] ∧ x < 2 ^ 64 := by
    intro c hc
    obtain ⟨i, hi, rfl⟩ := List.mem_iff_getElem.1 hc
    obtain ⟨-, h9⟩ := h7 i _ (ms[i]'(by omega)) (List.getElem?_eq_getElem hi) (List.getElem?_eq_getElem _)
    obtain ⟨x, h10, h11⟩ := h9.int he
    have hb := bounds_u64 h11
    refine ⟨x.toNat, ?_, by omega⟩
    rw [h10]; simp only [nv]; congr 2; omega
  have hl : ∃ l : List Nat, css = l.map (fun x => [nv x]) ∧ ∀ x ∈ l, x < 2 ^ 64 := by
    clear h8 h7 h2
    induction css with
    | nil => exact ⟨[], rfl, by simp⟩
    | cons c css ih =>
      obtain ⟨x, rfl, hx⟩ := hone c (by simp)
      obtain ⟨l, rfl, hl⟩ := ih (fun c hc => hone c (by simp [hc]))
      exact ⟨x :: l, rfl, by simpa using ⟨hx, hl⟩⟩
  obtain ⟨l, rfl, hlt⟩ := hl
  have hf : (l.map fun x => [nv x]).flatten = l.map nv := by
    clear h8 h7 h2 hone hlt
    induction l with
    | nil => rfl
    | cons x l ih => simp [ih]
  rw [hf] at h8
  exact ⟨l, by simpa using h2, hlt, h8, by simpa [reachBytes] using h6, h5⟩
/-- The bytes of the first k. -/
def cat (l : List Nat) (k : Nat) : List UInt8 := (l.take k).flatMap numB
theorem cat_zero (l : List Nat) : cat l 0 = [] := rfl
theorem cat_succ (l : List Nat) (k : Nat) (h : k < l.length) : cat l (k + 1) = cat l k ++ numB l[k] := by
  unfold cat; rw [List.take_succ_eq_append_getElem h, List.flatMap_append]; simp
theorem cat_len (l : List Nat) (k : Nat) : (cat l k).length ≤ 10 * k := by
  induction k with
  | zero => simp [cat]
  | succ k ih =>
    by_cases h : k < l.length
    · rw [cat_succ l k h, List.length_append]; have := (numB_len l[k]).1; omega
    · have : cat l (k + 1) = cat l k := by unfold cat; rw [List.take_of_length_le (by omega), List.take_of_length_le (by omega)]
      rw [this]; omega
theorem cat_split (l : List Nat) (k d : Nat) : ∃ rest, cat l (k + d) = cat l k ++ rest := by
  induction d with
  | zero => exact ⟨[], by simp⟩
  | succ d ih =>
    obtain ⟨r, hr⟩ := ih
    by_cases h : k + d < l.length
    · exact ⟨r ++ numB l[k + d], by rw [← Nat.add_assoc, cat_succ l _ h, hr, List.append_assoc]⟩
    · exact ⟨r, by rw [← hr]; unfold cat; rw [List.take_of_length_le (by omega), List.take_of_length_le (by omega)]⟩
theorem num_at (l : List Nat) (N k : Nat) (hN : k < N) (h : k < l.length) (hx : l[k] < 2 ^ 64) :
    numS maxU ⟨cat l N, (cat l k).length, 0⟩ = (l[k], ⟨cat l N, (cat l (k + 1)).length, 0⟩) := by
  obtain ⟨r, hr⟩ := cat_split l (k + 1) (N - (k + 1))
  rw [show k + 1 + (N - (k + 1)) = N by omega, cat_succ l k h, List.append_assoc] at hr
  have hd : (cat l N).drop (cat l k).length = numB l[k] ++ r := by rw [hr]; simp
  simp only [numS, hd, lookB_num _ r hx]
  rw [if_neg (by simp), if_neg (by simp), if_neg (by unfold maxU; omega), cat_succ l k h, List.length_append]
theorem nv_at (l : List Nat) (k : Nat) (h : k < l.length) : (l.map nv)[k]? = some (.int .u64 (l[k] : Int)) := by simp [nv, h]
set_option maxRecDepth 100000 in
set_option maxHeartbeats 2000000 in
theorem walk' (m : Int) (a : Option Addr) (n cap : Nat) (l : List Nat) (w : World) (hm : isI64 m) (hn : Hid (l.length = n)) (hx : Hid (∀ x ∈ l, x < 2 ^ 64)) (hl : Lies w (· < w.heap.size) a (l.map nv)) (hr : n * 8 ≤ 140737488351232) :
    Calls Try.prog 6 #[.slice a n cap, .int .i64 m] w fun e w' => e = .returned (.bool true) ∧ Keep Nix w w' := by
  go_enter Try.func6, Try.ntmps6
  go_wp2
  go_loopw [5, 6] (fun b i wr => ∃ (k : Nat) (a1 : Option Addr) (c1 : Nat), k ≤ n ∧ k ≤ 100 ∧ i = .int .i64 k ∧ b = .slice a1 (cat l k).length c1 ∧ wr.ownsRow w.heap.size 5 1 (.slice a1 (cat l k).length c1) (cat l k).length ((cat l k).map bv) ∧ Keep Nix w wr) (fun _ i _ => 100 - (intOf i).toNat)
  case atStart => exact ⟨0, none, 0, by omega, by omega, rfl, rfl, World.ownsRow_nil _ _ _ _, Keep.refl _ _⟩
  case round =>
    obtain ⟨k, a1, c1, hk, hk1, rfl, rfl, own, kk⟩ := hrel
    have hcl := cat_len l k
    by_cases hlt : k < n ∧ k < 100
    · obtain ⟨h1, h2⟩ := hlt
      have hkl : k < l.length := by rw [hn.out]; exact h1
      obtain ⟨ba, oa, rfl, -, hba, hca⟩ := hl (by intro e; rw [List.map_eq_nil_iff] at e; subst e; simp at hkl)
      have dc := (kk.cell (p := ⟨ba, oa + k, none⟩) hba id).trans (hca k _ (nv_at l k hkl))
      have hsucc := Lib.hid (cat_succ l k hkl)
      have hxk : Fits 0 l[k] := hx.out _ (List.getElem_mem hkl)
      generalize l[k] = x at dc hsucc hxk
      have lx := numB_len x
      clear hca hkl
      go_wp2_with fail
      go_fit (num_c x wr hxk)
      rintro e w2 ⟨a2, c2, rfl, own2, k2⟩
      have own' := owned_keep own k2 (fun _ _ h => h)
      have kk2 := kk.trans k2
      clear own
      go_wp2_with (at_builtin; refine wpl_append T_bytes rfl (.tmp 20) (.tmp 25) rfl w.heap.size rfl own' ((numB x).map bv) rfl (by simp) (Lies.of_owned own2) (bv_one _) (by unfold maxLen; omega) (by omega) kk2.size ?_)
      intro a3 c3 w3 own3 hg
      have kk3 := kk2.grown hg (fun i hi h => absurd (own'.lt i hi).1 (by omega))
      clear own2 own' k2 kk2 kk hg
      go_wp2
      go_roundw
      case rel =>
        refine ⟨k + 1, a3, c3, by omega, by omega, by go_num, ?_, ?_, kk3⟩
        · rw [hsucc.out, List.length_append]
        · rw [hsucc.out, List.length_append, List.map_append]; exact own3
      case measure => simp [intOf]; omega
    · have hexit : (k = n ∨ k = 100) := by omega
      have HEX := Lib.hid hexit
      have hN1 := hk
      have hN2 := hk1
      clear hexit
      generalize hkN : k = N at *
      clear hkN
      have hout : ¬ (N < n ∧ N < 100) := hlt
      have hsplit : N < n ∨ ¬ N < n := by omega
      rcases hsplit with hs | hs
      case' inl => have hs2 : ¬ N < 100 := by omega
      all_goals
        clear hlt hout
        go_wp2_with fail
        go_fit (New_rd a1 (cat l N).length c1 (cat l N) wr rfl (Lies.of_owned own) (by omega))
        rintro e w2 ⟨r, rfl, hr2, rd, k2⟩
        have kk2 := kk.trans k2
        have hrw : w.heap.size ≤ r := Nat.le_trans kk.size hr2
        clear own kk k2
        generalize wr.heap.size = wrs at hr2 rd
        go_wp2_with fail
        go_fit (awake_c w2)
        rintro e w3 ⟨rfl, k3⟩
        replace rd := rd.nix k3
        have kk3 := kk2.trans k3
        clear kk2 k3
        go_wp2
        go_loopw [8, 9] (fun b i wr => ∃ j : Nat, j ≤ N ∧ i = .int .i64 j ∧ b = .int .i64 (((cat l N).length - (cat l j).length : Nat) : Int) ∧ IsRd wr 56 r (fun b => wrs ≤ b ∧ b ≠ r) ⟨cat l N, (cat l j).length, 0⟩ ∧ Keep Nix w wr) (fun _ i _ => 100 - (intOf i).toNat)
        case atStart => exact ⟨0, by omega, rfl, rfl, rd, kk3⟩
        case round =>
          clear rd kk3
          obtain ⟨j, hj, rfl, rfl, rd, kk⟩ := hrel
          by_cases hlt : j < N
          · have hkl : j < l.length := by rw [hn.out]; omega
            have hjn : j < n := by omega
            have hj1 : j < 100 := by omega
            obtain ⟨ba, oa, rfl, -, hba, hca⟩ := hl (by intro e; rw [List.map_eq_nil_iff] at e; subst e; simp at hkl)
            have dc := (kk.cell (p := ⟨ba, oa + j, none⟩) hba id).trans (hca j _ (nv_at l j hkl))
            have hsucc := Lib.hid (cat_succ l j hkl)
            have hxk : Fits 0 l[j] := hx.out _ (List.getElem_mem hkl)
            have hnum := Lib.hid (num_at l N j hlt hkl hxk)
            have hle : (cat l (j + 1)).length ≤ (cat l N).length := by
              obtain ⟨rs, hrs⟩ := cat_split l (j + 1) (N - (j + 1))
              rw [show j + 1 + (N - (j + 1)) = N by omega] at hrs
              rw [hrs, List.length_append]; omega
            have hla : Hid ((cat l (j + 1)).length = (cat l j).length + (numB l[j]).length) := by show _ = _; rw [hsucc.out, List.length_append]
            generalize l[j] = x at dc hsucc hxk hnum hla
            clear hca hkl
            have hbr : ¬ ba = r := by omega
            have hbw : ba < wr.heap.size := Nat.lt_of_lt_of_le hba kk.size
            have hxx : ((x : Int) != (x : Int)) = false := by simp
            have hls : (((cat l N).length - (cat l j).length : Nat) : Int) - ((numB x).length : Int) = (((cat l N).length - (cat l (j + 1)).length : Nat) : Int) := by
              have := hla.out; omega
            have hne : ((((cat l N).length - (cat l (j + 1)).length : Nat) : Int) != (((cat l N).length - (cat l j).length : Nat) : Int) - ((numB x).length : Int)) = false := by rw [hls]; simp
            have HLS := Lib.hid hls
            clear hls
            have hz : ((0 : Int) != 0) = false := by simp
            have hbn := cat_len l N
            have lx := numB_len x
            go_wp2_with fail
            go_region_with (go_at_call 21; go_fit (Num_rd r _ _ _ (rd.same (w' := wr.drew))); rw [hnum.out]; rintro e w5 ⟨rfl, rd5, k5⟩; have dc5 := (k5.cell (p := ⟨ba, oa + j, none⟩) hbw hbr).trans dc)
            all_goals
              have kk5 := (kk.same (c := wr.drew)).then k5 (fun b hb e => by subst e; omega)
              go_wp2_with fail
              go_fit (num_c x w5 hxk)
              rintro e w6 ⟨a6, c6, rfl, own6, k6⟩
              have rd6 := rd5.nix k6
              have kk6 := kk5.trans k6
              clear own6 k6 kk5 rd5 k5 dc5 dc rd kk
              go_wp2_with fail
              go_fit (Left_rd r _ _ w6 rd6)
              rintro e w7 ⟨rfl, k7⟩
              have rd7 := rd6.nix k7
              have kk7 := kk6.trans k7
              clear k7 kk6 rd6
              go_wp2_with fail
              go_fit (Err_rd r _ _ w7 rd7)
              rintro e w8 ⟨rfl, k8⟩
              have rd8 := rd7.nix k8
              have kk8 := kk7.trans k8
              clear k8 kk7 rd7
              go_wp2_with fail
              go_roundw
              case rel => exact ⟨j + 1, by omega, by go_num, by rw [HLS.out], rd8, kk8⟩
              case measure => simp [intOf]; omega
          · obtain rfl : j = N := by omega
            have hend : endS ⟨cat l j, (cat l j).length, 0⟩ = 0 := by simp [endS]
            have hsm : Hid (numS m.toNat ⟨cat l j, (cat l j).length, 0⟩ = (0, ⟨cat l j, (cat l j).length, 8⟩)) := by
              show _ = _
              have : lookB [] = (0, 0, 8) := rfl
              simp only [numS, List.drop_length, this]
              rw [if_neg (by simp), if_pos (by decide)]
            go_wp2_with fail
            go_fit (End_rd r _ _ wr rd)
            rw [hend]
            rintro e w5 ⟨rfl, k5⟩
            have rd5 := rd.nix k5
            have kk5 := kk.trans k5
            clear k5 kk rd
            go_wp2_with fail
            go_fit (Small_rd r _ _ w5 rd5 m hm)
            rw [hsm.out]
            rintro e w6 ⟨rfl, rd6, k6⟩
            have kk6 := kk5.then k6 (fun b hb e => by subst e; omega)
            clear k6 kk5 rd5
            go_wp2_with fail
            go_fit (Err_rd r _ _ w6 rd6)
            rintro e w7 ⟨rfl, k7⟩
            have rd7 := rd6.nix k7
            have kk7 := kk6.trans k7
            clear k7 kk6 rd6
            go_wp2_with fail
            go_fit (End_rd r _ _ w7 rd7)
            rw [show endS ⟨cat l j, (cat l j).length, 8⟩ = 8 by simp [endS]]
            rintro e w8 ⟨rfl, k8⟩
            go_wp2
            go_ret
            exact ⟨rfl, kk7.trans k8⟩
theorem walk {m0 m1 : Nat} (W : World) (v0 v1 : Value) (h0 : Arg Try.prog W m0 40 v0) (h1 : Arg Try.prog W m1 3 v1) :
    Calls Try.prog 6 #[v0, v1] W fun e w' => e = .returned (.bool true) ∧ Keep Nix W w' := by
  obtain ⟨m, rfl, wm⟩ := h1.int Try.underlying3
  obtain ⟨c, n, cap, rfl, h3⟩ := h0.slice Try.underlying40
  obtain ⟨l, hn, hx, hl, hr, hc⟩ := nums_in Try.underlying40 Try.underlying22 (by kernel_rfl) (by kernel_rfl) h3
  exact walk' m c n cap l W (isI64_wf wm) hn hx hl (by omega)
end Go.Proofs.Ytbjoemaejbmjaaa.codeMany
