/- CodeReads: what is read out of any bytes, in whatever order of forms, where it stands, and why it stops. For every input. -/
import Derived.Test.YtbjoemaejbmjaaaRef
namespace Go.Proofs.Ytbjoemaejbmjaaa.codeReads
open Go.RowKit Go.ChangeShapes Go.WideShapes Go.ChangeAt

def opCells (x : Int × Int) : List Value := [.int .i64 x.1, .int .i64 x.2]
/-- The readings that came in. -/
theorem ops_in {P : Program} {W : World} {m : Nat} {t e : TypeId} {a : Option Addr} {n cap : Nat} {f0 f1 : Field} (ht : P.underlying t = some (.slice e)) (he : P.underlying e = some (.struct #[f0, f1])) (hc : P.cellsOf e = 2) (hby : P.bytesOf e = 16)
    (h0 : f0.offset = 0) (h1 : f1.offset = 1) (g0 : P.underlying f0.type = some (.int .i64)) (g1 : P.underlying f1.type = some (.int .i64)) (c0 : P.cellsOf f0.type = 1) (c1 : P.cellsOf f1.type = 1)
    (h : Red P W m t [.slice a n cap]) : ∃ l : List (Int × Int), l.length = n ∧ (∀ x ∈ l, isI64 x.2) ∧ Lies W (· < W.heap.size) a (l.flatMap opCells) ∧ n ≤ cap ∧ cap * 16 ≤ 140737488351232 := by
  obtain ⟨a', n', cap', css, ms, e1, h2, h3, h4, h5, -, h6, -, h7, h8⟩ := h.slice ht hc hby (by decide)
  simp only [List.cons.injEq, Value.slice.injEq, and_true] at e1
  obtain ⟨rfl, rfl, rfl⟩ := e1
  have hone : ∀ c ∈ css, ∃ x : Int × Int, c = opCells x ∧ isI64 x.2 := by
    intro c hc'
    obtain ⟨i, hi, rfl⟩ := List.mem_iff_getElem.1 hc'
    obtain ⟨hlen, h9⟩ := h7 i _ (ms[i]'(by omega)) (List.getElem?_eq_getElem hi) (List.getElem?_eq_getElem _)
    generalize css[i] = c at hlen h9
    obtain ⟨-, hf⟩ := h9.struct he hc
    have r0 := hf 0 f0 rfl
    have r1 := hf 1 f1 rfl
    rw [h0, c0] at r0
    rw [h1, c1] at r1
    match c, hlen with
    | [u, v], _ =>
      obtain ⟨x, hx, -⟩ := r0.int g0
      obtain ⟨y, hy, wy⟩ := r1.int g1
      simp at hx hy
      subst hx hy
      exact ⟨(x, y), rfl, isI64_wf wy⟩
  have hl : ∃ l : List (Int × Int), css = l.map opCells ∧ ∀ x ∈ l, isI64 x.2 := by
    clear h8 h7 h2
    induction css with
    | nil => exact ⟨[], rfl, by simp⟩
    | cons c css ih =>
      obtain ⟨x, rfl, hx⟩ := hone c (by simp)
      obtain ⟨l, rfl, hl⟩ := ih (fun c hc => hone c (by simp [hc]))
      exact ⟨x :: l, rfl, fun y hy => (List.mem_cons.1 hy).elim (fun e => e ▸ hx) (hl y)⟩
  obtain ⟨l, rfl, hlt⟩ := hl
  rw [← List.flatMap_def] at h8
  exact ⟨l, by simpa using h2, hlt, h8, h5, by simpa [reachBytes] using h6⟩
theorem ops_at (l : List (Int × Int)) (k : Nat) (h : k < l.length) : (l.flatMap opCells)[k * 2]? = some (.int .i64 l[k].1) ∧ (l.flatMap opCells)[k * 2 + 1]? = some (.int .i64 l[k].2) := by
  induction l generalizing k with
  | nil => simp at h
  | cons x l ih =>
    cases k with
    | zero => exact ⟨rfl, rfl⟩
    | succ k =>
      have := ih k (by simpa using h)
      rw [List.flatMap_cons]
      have e1 : (k + 1) * 2 = k * 2 + 2 := by omega
      rw [e1]
      exact ⟨by simpa [opCells] using this.1, by simpa [opCells] using this.2⟩

/-- What a round keeps: two readers in one state, apart; all that came in. -/
structure Inv (w wr : World) (T1 T2 r q lo hi : Nat) (s : RdS) : Prop where
  rd : IsRd wr T1 r (fun b => lo ≤ b ∧ b < hi ∧ b ≠ r) s
  rf : IsRd wr T2 q (fun b => b < w.heap.size) s
  kk : Keep Nix w wr
theorem Inv.nix {w wr wr' : World} {T1 T2 r q lo hi : Nat} {s : RdS} (h : Inv w wr T1 T2 r q lo hi s) (k : Keep Nix wr wr') : Inv w wr' T1 T2 r q lo hi s := ⟨h.rd.nix k, h.rf.nix k, h.kk.trans k⟩
theorem Inv.same {w wr wr' : World} {T1 T2 r q lo hi : Nat} {s : RdS} (h : Inv w wr T1 T2 r q lo hi s) (h1 : wr'.os = wr.os := by rfl) (h2 : wr'.tape = wr.tape := by rfl) (h3 : wr'.output = wr.output := by rfl) (h4 : wr'.heap = wr.heap := by rfl) : Inv w wr' T1 T2 r q lo hi s :=
  ⟨h.rd.same h4, h.rf.same h4, h.kk.same h1 h2 h3 h4⟩
/-- Both readers have gone on to one state. -/
theorem Inv.both {w wr w1 w2 : World} {T1 T2 r q lo hi : Nat} {s s' : RdS} (hr : w.heap.size ≤ r) (hq : w.heap.size ≤ q) (hrq : r ≠ q) (hqh : hi ≤ q) (h : Inv w wr T1 T2 r q lo hi s)
    (rd1 : IsRd w1 T1 r (fun b => lo ≤ b ∧ b < hi ∧ b ≠ r) s') (k1 : Keep (· = r) wr w1) (rf2 : IsRd w2 T2 q (fun b => b < w.heap.size) s') (k2 : Keep (· = q) w1 w2) : Inv w w2 T1 T2 r q lo hi s' :=
  ⟨rd1.keep k2 hrq (fun b hb e => by subst e; omega), rf2, (h.kk.then k1 (fun i hi' e => by subst e; omega)).then k2 (fun i hi' e => by subst e; omega)⟩
set_option maxRecDepth 100000 in
set_option maxHeartbeats 4000000 in
theorem loop_c (a : Option Addr) (n cap : Nat) (B : List UInt8) (al : Option Addr) (nl capl : Nat) (l : List (Int × Int)) (w : World) (hnB : Hid (B.length = n)) (hn : Hid (l.length = nl)) (hx : Hid (∀ x ∈ l, isI64 x.2)) (hB : Lies w (· < w.heap.size) a (B.map bv))
    (hl : Lies w (· < w.heap.size) al (l.flatMap opCells)) (hr : n ≤ 140737488351232) (hcap : n ≤ cap) (hrl : nl * 16 ≤ 140737488351232) :
    Calls Try.prog 8 #[.slice a n cap, .slice al nl capl] w fun e w' => e = .returned (.bool true) ∧ Keep Nix w w' := by
  go_enter Try.func8, Try.ntmps8
  go_wp2_with fail
  go_fit (ownB_c a n cap B 71 w hnB.out hB hr)
  rintro e w1 ⟨ib, rfl, hib, row, k1⟩
  have lies1 : Lies w1 (fun _ => True) (some ⟨ib, 0, none⟩) (B.map bv) := row.lies _ trivial (fun j u hu => by
    rw [List.map_append, Nat.zero_add, List.getElem?_append_left (List.getElem?_eq_some_iff.1 hu).1]; exact hu)
  have hil := row.lt
  go_wp2_with fail
  go_fit (New_rd _ n _ B w1 hnB.out lies1 (by omega))
  rintro e w2 ⟨r, rfl, hr1, rd, k2⟩
  have hrl2 : r < w2.heap.size := rd.cells.choose_spec.choose_spec.2.2.2.2.2.2.2.1
  have rd2 := rd.tight
  have row2 := row.keep k2 id
  have hB2 := (hB.keep k1 (fun _ _ h => h)).keep k2 (fun _ _ h => h)
  have kk2 := k1.trans k2
  clear rd row lies1 k2
  go_wp2_with fail
  have rf : IsRd (w2.alloc (.cells #[.slice a n cap, .int .i64 0, .int .i64 0] 49)) 49 w2.heap.size (fun b => b < w.heap.size) ⟨B, 0, 0⟩ := by
    refine ⟨⟨a, cap, ?_, hB2.keep ((Keep.refl Nix _).alloc _) (fun _ _ h => h), ?_, ?_⟩, ?_, Nat.zero_le _⟩
    · have := RowIs.alloc w2 #[.slice a n cap, .int .i64 0, .int .i64 0] 49
      show RowIs _ _ _ [.slice a B.length cap, _, _]
      rw [hnB.out]; exact this
    · rw [hnB.out]; exact hcap
    · rw [hnB.out]; omega
    · have := kk2.size; omega
  have ka : Keep Nix w2 (w2.alloc (.cells #[.slice a n cap, .int .i64 0, .int .i64 0] 49)) := (Keep.refl Nix _).alloc _
  replace rd2 := rd2.nix ka
  replace row2 := row2.keep ka id
  replace hB2 := hB2.keep ka (fun _ _ h => h)
  replace kk2 := kk2.trans ka
  have hq : w.heap.size ≤ w2.heap.size := Nat.le_trans k1.size (by omega)
  have hrw : w.heap.size ≤ r := Nat.le_trans k1.size hr1
  generalize w2.alloc (.cells #[.slice a n cap, .int .i64 0, .int .i64 0] 49) = w3 at rf rd2 row2 hB2 kk2 ⊢
  clear ka
  go_fit (awake_c w3)
  rintro e w4 ⟨rfl, k4⟩
  replace rf := rf.nix k4
  replace rd2 := rd2.nix k4
  replace row2 := row2.keep k4 id
  replace hB2 := hB2.keep k4 (fun _ _ h => h)
  replace kk2 := kk2.trans k4
  clear k4
  go_wp2_with fail
  go_fit (keptB_c ib a n cap B 71 w4 hnB.out hB2 hr row2)
  rintro e w5 ⟨rfl, k5⟩
  replace rf := rf.nix k5
  replace rd2 := rd2.nix k5
  replace row2 := row2.keep k5 id
  replace kk2 := kk2.trans k5
  clear k5 hB2
  go_wp2_with fail
  go_fit (spoil_c ib n (n + 3) _ B w5 hnB.out row2 (fun j u hu => by rw [List.map_append, List.getElem?_append_left (List.getElem?_eq_some_iff.1 hu).1]; exact hu) (by unfold maxLen; omega))
  rintro e w6 ⟨rfl, k6⟩
  have iv : Inv w w6 56 49 r w2.heap.size w1.heap.size w2.heap.size ⟨B, 0, 0⟩ :=
    ⟨(rd2.keep k6 (by omega) (fun b hb e => by have := hb.1.1; omega)).mono (fun b hb => ⟨hb.1.1, hb.2, hb.1.2⟩) (by omega), rf.keep k6 (by omega) (fun b hb e => by omega), kk2.then k6 (fun i hi e => by omega)⟩
  clear rf rd2 row2 kk2 k6 k1
  generalize w2.heap.size = q at *
  go_wp2
  go_loopw [8] (fun i wr => ∃ (k : Nat) (s : RdS), k ≤ nl ∧ k ≤ 100 ∧ i = .int .i64 k ∧ Hid (s.B = B) ∧ Inv w wr 56 49 r q w1.heap.size q s) (fun i _ => 100 - (intOf i).toNat)
  case atStart => exact ⟨0, ⟨B, 0, 0⟩, by omega, by omega, rfl, rfl, iv⟩
  case round =>
    clear iv
    obtain ⟨k, s, hk, hk1, rfl, hsB0, iv⟩ := hrel
    by_cases hlt : k < nl ∧ k < 100
    · obtain ⟨h1, h2⟩ := hlt
      have hkl : k < l.length := by rw [hn.out]; exact h1
      have hne : l.flatMap opCells ≠ [] := by intro e; have := (ops_at l k hkl).1; rw [e] at this; simp at this
      obtain ⟨ba, oa, rfl, -, hba, hca⟩ := hl hne
      have c0 := (iv.kk.cell (p := ⟨ba, oa + k * 2, none⟩) hba id).trans (hca _ _ (ops_at l k hkl).1)
      have c1 : wr.cell? ⟨ba, oa + k * 2 + 1, none⟩ = some (.int .i64 l[k].2) := (iv.kk.cell (p := ⟨ba, oa + k * 2 + 1, none⟩) hba id).trans (by rw [Nat.add_assoc]; exact hca _ _ (ops_at l k hkl).2)
      have hm : isI64 l[k].2 := hx.out _ (List.getElem_mem hkl)
      generalize l[k].1 = kind at c0
      generalize l[k].2 = m at c1 hm
      have hbr : ¬ ba = r := by omega
      have hbq : ¬ ba = q := by omega
      clear hca hkl hne
      have hBn : Hid (B.length = n) := hnB
      rcases test_eq kind 1 with ⟨q1, -⟩ | ⟨q1, -⟩
      · go_wp2_with fail
        go_fit (Int_rd r _ _ wr iv.rd)
        rintro e wa ⟨rfl, rd1, ka⟩
        have rfa := iv.rf.keep ka (by omega) (fun b hb e => by omega)
        go_wp2_with fail
        go_fit (RInt q _ _ wa rfa)
        rintro e wb ⟨rfl, rf2, kb⟩
        have iv' := Inv.both hrw hq (by omega) (Nat.le_refl _) iv rd1 ka rf2 kb
        have hsB : Hid (((numS maxU s).2).B = B) := by show _ = _; rw [(numS_fields _ s).1]; exact hsB0.out
        clear rfa rd1 rf2 ka kb iv c0 c1
        generalize zag (numS maxU s).1 = v at *
        generalize (numS maxU s).2 = s' at *
        have t1 : ((((s'.B.length - s'.pos : Nat) : Int)) != (n : Int) - (s'.pos : Int)) = false := by
          have h1 := iv'.rd.place
          have h2 : s'.B.length = n := by rw [hsB.out, ← hBn.out]
          rw [h2] at h1 ⊢
          have : ((n - s'.pos : Nat) : Int) = (n : Int) - (s'.pos : Int) := by omega
          rw [this]; simp
        have i1 : IntKind.i64.wrap ((n : Int) - (s'.pos : Int)) = (n : Int) - (s'.pos : Int) := by
          have h1 := iv'.rd.place
          have h2 : s'.B.length = n := by rw [hsB.out, ← hBn.out]
          rw [IntKind.wrap_i64]; omega
        have t2 : (s'.e != s'.e) = false := by simp
        have t3 : (endS s' != endS s') = false := by simp
        obtain ⟨a9, cap9, -, -, -, -, g0, g1, g2, hr9, -⟩ := iv'.rf.cells
        have pl := iv'.rd.place
        go_wp2_with fail
        go_quiet ((first
          | (go_at_call 22; exact Calls.quiet_of (Left_rq r _ _ _ iv'.rd.same))
          | (go_at_call 23; exact quiet_eq (Err_rq r _ _ _ iv'.rd.same))
          | (go_at_call 24; exact Calls.quiet_of (End_rq r _ _ _ iv'.rd.same))
          | (go_at_call 33; exact Calls.quiet_of (REnd_rq q _ _ _ iv'.rf.same))))
        go_wp2_with fail
        go_roundw
        case rel => exact ⟨k + 1, s', by omega, by omega, by go_num, by show _ = _; exact hsB.out, iv'.same⟩
        case measure => simp [intOf]; omega
      · rcases test_eq kind 2 with ⟨q2, -⟩ | ⟨q2, -⟩
        · have hba2 : ba < wr.heap.size := Nat.lt_of_lt_of_le hba iv.kk.size
          go_wp2_with fail
          go_region_with (first
            | (go_at_call 25; go_fit (Small_rd r _ _ _ (iv.rd.same (w' := wr.drew)) m hm); rintro e wa ⟨rfl, rd1, ka⟩; have rfa := (iv.rf.same (w' := wr.drew)).keep ka (by omega) (fun b hb e => by omega); have ca := (ka.cell (p := ⟨ba, oa + k * 2 + 1, none⟩) hba2 hbr).trans c1)
            | (go_at_call 30; go_fit (RSmall q _ _ _ rfa m hm); rintro e wb ⟨rfl, rf2, kb⟩))
          all_goals
            have iv' := Inv.both hrw hq (by omega) (Nat.le_refl _) (iv.same (wr' := wr.drew)) rd1 ka rf2 kb
            have hsB : Hid (((numS m.toNat s).2).B = B) := by show _ = _; rw [(numS_fields _ s).1]; exact hsB0.out
            clear rfa rd1 rf2 ka kb iv c0 c1 ca
            generalize (numS m.toNat s).1 = v at *
            generalize (numS m.toNat s).2 = s' at *
            have t1 : ((((s'.B.length - s'.pos : Nat) : Int)) != (n : Int) - (s'.pos : Int)) = false := by
              have h1 := iv'.rd.place
              have h2 : s'.B.length = n := by rw [hsB.out, ← hBn.out]
              rw [h2] at h1 ⊢
              have : ((n - s'.pos : Nat) : Int) = (n : Int) - (s'.pos : Int) := by omega
              rw [this]; simp
            have i1 : IntKind.i64.wrap ((n : Int) - (s'.pos : Int)) = (n : Int) - (s'.pos : Int) := by
              have h1 := iv'.rd.place
              have h2 : s'.B.length = n := by rw [hsB.out, ← hBn.out]
              rw [IntKind.wrap_i64]; omega
            have t2 : (s'.e != s'.e) = false := by simp
            have t3 : (endS s' != endS s') = false := by simp
            obtain ⟨a9, cap9, -, -, -, -, g0, g1, g2, hr9, -⟩ := iv'.rf.cells
            have pl := iv'.rd.place
            go_wp2_with fail
            go_quiet ((first
              | (go_at_call 22; exact Calls.quiet_of (Left_rq r _ _ _ iv'.rd.same))
              | (go_at_call 23; exact quiet_eq (Err_rq r _ _ _ iv'.rd.same))
              | (go_at_call 24; exact Calls.quiet_of (End_rq r _ _ _ iv'.rd.same))
              | (go_at_call 33; exact Calls.quiet_of (REnd_rq q _ _ _ iv'.rf.same))))
            go_wp2_with fail
            go_roundw
            case rel => exact ⟨k + 1, s', by omega, by omega, by go_num, by show _ = _; exact hsB.out, iv'.same⟩
            case measure => simp [intOf]; omega
        · rcases test_eq kind 3 with ⟨q3, -⟩ | ⟨q3, -⟩
          · go_wp2_with fail
            go_fit (Text_rd r _ _ wr iv.rd m hm)
            rintro e wa ⟨a5, c5, rfl, own5, rd1, ka⟩
            have rfa := iv.rf.keep ka (by omega) (fun b hb e => by omega)
            have ca := (ka.cell (p := ⟨ba, oa + k * 2 + 1, none⟩) (Nat.lt_of_lt_of_le hba iv.kk.size) hbr).trans c1
            have hqw := (iv.rf.cells.choose_spec.choose_spec.2.2.2.2.2.2.2.1 : q < wr.heap.size)
            have hrw2 := (iv.rd.cells.choose_spec.choose_spec.2.2.2.2.2.2.2.1 : r < wr.heap.size)
            go_wp2_with fail
            go_fit (RText q _ _ wa rfa m hm)
            rintro e wb ⟨a6, c6, rfl, own6, rf2, kb⟩
            have iv' := Inv.both hrw hq (by omega) (Nat.le_refl _) iv rd1 ka rf2 kb
            have hsB : Hid (((textS m.toNat s).2).B = B) := by
              show _ = _
              unfold textS
              split
              · exact hsB0.out
              · split
                · rw [(numS_fields _ s).1]; exact hsB0.out
                · split <;> exact hsB0.out
            have own5' := owned_keep own5 kb (fun b hb e => by have := (own5.lt b hb).1; omega)
            have hiw := iv.kk.size
            clear rfa rd1 rf2 ka kb iv c0 c1 ca own5
            generalize (textS m.toNat s).1 = v at *
            generalize (textS m.toNat s).2 = s' at *
            go_wp2_with fail
            go_fit (bytes_c a5 a6 v.length c5 v.length c6 v v wb rfl rfl (Lies.of_owned own5') (Lies.of_owned own6))
            rintro e wc ⟨rfl, rfl⟩
            rw [decide_eq_true (rfl : v = v)]
            go_wp2_with fail
            go_fit (spoil_own a5 v.length c5 v wb own5')
            rintro e wd ⟨rfl, kd⟩
            have iv'' : Inv w wd 56 49 r q w1.heap.size q s' := ⟨iv'.rd.keep kd (by omega) (fun b hb e => by omega), iv'.rf.keep kd (by omega) (fun b hb e => by omega), iv'.kk.then kd (fun i hi e => by omega)⟩
            clear iv' own5' own6 kd
            have iv' := iv''
            clear iv''
            have t1 : ((((s'.B.length - s'.pos : Nat) : Int)) != (n : Int) - (s'.pos : Int)) = false := by
              have h1 := iv'.rd.place
              have h2 : s'.B.length = n := by rw [hsB.out, ← hBn.out]
              rw [h2] at h1 ⊢
              have : ((n - s'.pos : Nat) : Int) = (n : Int) - (s'.pos : Int) := by omega
              rw [this]; simp
            have i1 : IntKind.i64.wrap ((n : Int) - (s'.pos : Int)) = (n : Int) - (s'.pos : Int) := by
              have h1 := iv'.rd.place
              have h2 : s'.B.length = n := by rw [hsB.out, ← hBn.out]
              rw [IntKind.wrap_i64]; omega
            have t2 : (s'.e != s'.e) = false := by simp
            have t3 : (endS s' != endS s') = false := by simp
            obtain ⟨a9, cap9, -, -, -, -, g0, g1, g2, hr9, -⟩ := iv'.rf.cells
            have pl := iv'.rd.place
            go_wp2_with fail
            go_quiet ((first
              | (go_at_call 22; exact Calls.quiet_of (Left_rq r _ _ _ iv'.rd.same))
              | (go_at_call 23; exact quiet_eq (Err_rq r _ _ _ iv'.rd.same))
              | (go_at_call 24; exact Calls.quiet_of (End_rq r _ _ _ iv'.rd.same))
              | (go_at_call 33; exact Calls.quiet_of (REnd_rq q _ _ _ iv'.rf.same))))
            go_wp2_with fail
            go_roundw
            case rel => exact ⟨k + 1, s', by omega, by omega, by go_num, by show _ = _; exact hsB.out, iv'.same⟩
            case measure => simp [intOf]; omega
          · go_wp2_with fail
            go_fit (Num_rd r _ _ wr iv.rd)
            rintro e wa ⟨rfl, rd1, ka⟩
            have rfa := iv.rf.keep ka (by omega) (fun b hb e => by omega)
            go_wp2_with fail
            go_fit (RNum q _ _ wa rfa)
            rintro e wb ⟨rfl, rf2, kb⟩
            have iv' := Inv.both hrw hq (by omega) (Nat.le_refl _) iv rd1 ka rf2 kb
            have hsB : Hid (((numS maxU s).2).B = B) := by show _ = _; rw [(numS_fields _ s).1]; exact hsB0.out
            clear rfa rd1 rf2 ka kb iv c0 c1
            generalize (numS maxU s).1 = v at *
            generalize (numS maxU s).2 = s' at *
            have t1 : ((((s'.B.length - s'.pos : Nat) : Int)) != (n : Int) - (s'.pos : Int)) = false := by
              have h1 := iv'.rd.place
              have h2 : s'.B.length = n := by rw [hsB.out, ← hBn.out]
              rw [h2] at h1 ⊢
              have : ((n - s'.pos : Nat) : Int) = (n : Int) - (s'.pos : Int) := by omega
              rw [this]; simp
            have i1 : IntKind.i64.wrap ((n : Int) - (s'.pos : Int)) = (n : Int) - (s'.pos : Int) := by
              have h1 := iv'.rd.place
              have h2 : s'.B.length = n := by rw [hsB.out, ← hBn.out]
              rw [IntKind.wrap_i64]; omega
            have t2 : (s'.e != s'.e) = false := by simp
            have t3 : (endS s' != endS s') = false := by simp
            obtain ⟨a9, cap9, -, -, -, -, g0, g1, g2, hr9, -⟩ := iv'.rf.cells
            have pl := iv'.rd.place
            go_wp2_with fail
            go_quiet ((first
              | (go_at_call 22; exact Calls.quiet_of (Left_rq r _ _ _ iv'.rd.same))
              | (go_at_call 23; exact quiet_eq (Err_rq r _ _ _ iv'.rd.same))
              | (go_at_call 24; exact Calls.quiet_of (End_rq r _ _ _ iv'.rd.same))
              | (go_at_call 33; exact Calls.quiet_of (REnd_rq q _ _ _ iv'.rf.same))))
            go_wp2_with fail
            go_roundw
            case rel => exact ⟨k + 1, s', by omega, by omega, by go_num, by show _ = _; exact hsB.out, iv'.same⟩
            case measure => simp [intOf]; omega
    · have hor : (k < nl ∧ ¬ k < 100) ∨ ¬ k < nl := by omega
      rcases hor with ⟨h1, h2⟩ | h1
      all_goals
        go_wp2_with fail
        go_ret
        exact ⟨rfl, iv.kk⟩
theorem walk {m0 m1 : Nat} (W : World) (v0 v1 : Value) (h0 : Arg Try.prog W m0 24 v0) (h1 : Arg Try.prog W m1 46 v1) :
    Calls Try.prog 8 #[v0, v1] W fun e w' => e = .returned (.bool true) ∧ Keep Nix W w' := by
  obtain ⟨c, n, cap, rfl, h3⟩ := h0.slice Try.underlying24
  obtain ⟨l, hn, hl, hr, hc, -⟩ := bytes_in Try.underlying24 Try.underlying5 (by kernel_rfl) (by kernel_rfl) h3
  obtain ⟨c2, n2, cap2, rfl, h4⟩ := h1.slice Try.underlying46
  obtain ⟨l2, hn2, hx2, hl2, hc2, hr2⟩ := ops_in Try.underlying46 Try.underlying52 (by kernel_rfl) (by kernel_rfl) rfl rfl Try.underlying3 Try.underlying3 (by kernel_rfl) (by kernel_rfl) h4
  exact loop_c c n cap l c2 n2 cap2 l2 W hn hn2 hx2 hl hl2 (by omega) hc (by omega)
end Go.Proofs.Ytbjoemaejbmjaaa.codeReads
