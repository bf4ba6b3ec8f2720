/- LOCK: slices.AppendSeq, Collect, Sorted over maps.Keys; Txns. Printed by mac.py. -/
import Derived.Test.YtfagejfcibgigaaQLkI
import Derived.Test.YtfagejfcibgigaaQSwZ
import Derived.Test.YtfagejfcibgigaaQFen
import Derived.Deep.DeepCutAuto
import Derived.Deep.CutBlock
namespace Go.Proofs.Ytfagejfcibgigaa
open Go.RowKit Go.Shelf

theorem calls_marks {P : Program} {f : FuncId} {fn : Func} {c : Code} {args : Array Value} {w : World} {R : Ending → World → Prop} (hf : P.funcs[f]? = some fn) (hb : fn.body = some c)
    (h : c.wp P (bodyPostM Fence.wide 4 P fn R) { tmps := args ++ Array.replicate (fn.ntmps - args.size) undef, defers := [] } w) : Calls P f args w R :=
  (callsIn_wide (n := 4)).1 (callsIn_of_wp_marks hf hb trivial (wpIn_wide.2 h) rfl)
theorem own_from {w : World} {base base' e sz n : Nat} {v : Value} {xs : List Value} (h : w.ownsRow base e sz v n xs) (hb : base' ≤ base) : w.ownsRow base' e sz v n xs :=
  ⟨h.1, h.2.imp id fun ⟨g, cap, cur, e, h1, r⟩ => ⟨g, cap, cur, e, Nat.le_trans hb h1, r⟩⟩
theorem T_lU : SliceT Try.prog 61 23 1 8 := SliceT.mk' Try.underlying61 (z := .int .u64 0) (by kernel_rfl) rfl (by decide)
set_option maxRecDepth 100000 in
set_option maxHeartbeats 2000000 in
theorem append_c (c bM n : Nat) (S : List Int → Prop) (w : World) (ht : TellsU 79 #[.pointer (some ⟨c, 0, none⟩)] S n bM w) (hbM : bM < w.heap.size) (hn : n ≤ 1000000) :
    Calls Try.prog 83 #[.slice none 0 0, .func (.func 79) #[] #[.pointer (some ⟨c, 0, none⟩)]] w fun e w' => ∃ (ss : List Int) (a : Option Addr) (cp : Nat), e = .returned (.slice a ss.length cp) ∧ S ss ∧ w'.ownsRow w.heap.size 23 1 (.slice a ss.length cp) ss.length (ss.map iv) ∧ Keep Nix w w' := by
  refine calls_marks Try.func83 rfl ?_
  simp only [Try.ntmps83, List.size_toArray, List.length_cons, List.length_nil, Nat.reduceAdd, Nat.reduceSub, Array.replicate_succ, Array.replicate_zero, List.push_toArray, List.append_toArray, List.nil_append, List.cons_append]
  have kA : Keep Nix w (w.alloc (.cells #[.slice none 0 0] 61)) := (Keep.refl Nix w).alloc _
  have rowX : RowIs (w.alloc (.cells #[.slice none 0 0] 61)) w.heap.size 61 [.slice none 0 0] := RowIs.alloc w _ _
  have hsz : Hid (((w.alloc (.cells #[.slice none 0 0] 61))).heap.size = w.heap.size + 1) := by show _ = _; simp
  have HTW : TellsU 79 #[.pointer (some ⟨c, 0, none⟩)] S n bM (w.alloc (.cells #[.slice none 0 0] 61)) := fun l J W hW => ht l J W (kA.trans hW)
  have hbA : bM < ((w.alloc (.cells #[.slice none 0 0] 61))).heap.size := Nat.lt_of_lt_of_le hbM kA.size
  go_wp2_with fail
  generalize (w.alloc (.cells #[.slice none 0 0] 61)) = w1 at *
  have hcx : w.heap.size < w1.heap.size := rowX.lt
  refine range_tellsU (S := S) (N := n) (bM := bM) rfl (enters_of Try.func79 (by kernel_rfl) rfl) HTW hbA
    (fun ss W => ∃ (a : Option Addr) (cp : Nat), RowIs W w.heap.size 61 [.slice a ss.length cp] ∧ W.ownsRow (w1.heap.size + 3) 23 1 (.slice a ss.length cp) ss.length (ss.map iv) ∧ Keep (· = w.heap.size) w1 W) ?hI ⟨none, 0, rowX, World.ownsRow_nil _ _ _ _, Keep.refl _ _⟩ ?round ?done
  case hI =>
    rintro ss A B ⟨a, cp, row, own, kx⟩ k
    have hbk : ∀ b, BookU w1.heap.size b → w1.heap.size ≤ b ∧ b < w1.heap.size + 3 := fun b hb => by rcases hb with h | h | h <;> omega
    exact ⟨a, cp, row.keep k (fun h => by have := hbk _ h; omega), owned_keep own k (fun b hb h => by have := hbk b h; have := (own.lt b hb).1; omega), kx.then k (fun i hi h => by have := hbk i h; omega)⟩
  case done =>
    rintro ss W hS ⟨a, cp, row, own, kx⟩ hD
    have x0 := row.cell 0
    (try simp only [List.getElem?_cons_zero] at x0)
    go_wp2_with fail
    have kD := Keep.put W w1.heap.size (.deferred none)
    refine ⟨by simp, .inl ⟨_, _, rfl, run_takeDeferred hD, ?_⟩⟩
    refine ⟨_, results_tmp rfl _ _ _, ?_⟩
    have hw := hsz.out
    exact ⟨ss, a, cp, rfl, hS, own_from (owned_keep own kD (fun b hb e => by have := (own.lt b hb).1; omega)) (by omega), (kA.then kx (fun i hi e => by omega)).then kD (fun i hi e => by omega)⟩
  case round =>
    rintro ss k W ⟨a, cp, row, own, kx⟩ hk hlen hszW
    refine region_in (by kernel_rfl) (by exact fun _ _ h => h) ?_
    go_wp2_with fail
    refine ⟨Keep.refl _ _, fun W2 k2 hs2 => ?_⟩
    have row2 := row.keep k2 (by omega)
    have own2 := owned_keep own k2 (fun b hb e => by have := (own.lt b hb).1; omega)
    have kx2 := kx.then k2 (fun i hi e => by omega)
    have y0 := row2.cell 0
    (try simp only [List.getElem?_cons_zero] at y0)
    have HR2 := Lib.hid row2
    have HKX := Lib.hid kx2
    have hsz2 : w1.heap.size + 3 ≤ W2.heap.size := by omega
    clear row own kx k2 row2 kx2 hs2 hszW
    refine wpIn_block (region_in (by kernel_rfl) (by exact fun _ _ h => h) ?_)
    go_wp2_with (at_builtin; refine wpl_append1_at (c := 1) T_lU ?hgd (.tmp 8) (.tmp 10) ?ho (w1.heap.size + 3) ?hs own2 ?hx ?c0 ?c1 ?c2 ?c3 ?c4 ?_)
    case hgd => rfl
    case ho => rfl
    case hs => rfl
    case hx => rfl
    case c0 => rfl
    case c1 => simp [Value.oneCell']
    case c2 => unfold maxLen; omega
    case c3 => omega
    case c4 => omega
    intro a' cap' w6 own6 k6 hfresh
    have hge : ∀ b, OwnB (.slice a ss.length cp) b → w1.heap.size + 3 ≤ b := fun b hb => (own2.lt b hb).1
    have row6 := HR2.out.keep k6 (fun h => by have := hge _ h; omega)
    have s0 := row6.cell 0
    have sf := row6.frozen 0
    (try simp only [List.getElem?_cons_zero] at s0)
    have hF6 : Keep (FreeU w1.heap.size bM) W2 w6 := k6.mono (fun b hb => by have := hge b hb; exact ⟨by omega, by omega, by omega, by omega⟩)
    have kx6 := HKX.out.then k6 (fun i hi h => by have := hge i h; omega)
    have HR6 := Lib.hid row6
    have HO6 := Lib.hid own6
    clear y0 own2 own6 row6 k6
    go_wp2_with fail
    have kS : Keep (· = w.heap.size) w6 (w6.setCell ⟨w.heap.size, 0, none⟩ (.slice a' (ss.length + 1) cap')) := (Keep.refl (· = w.heap.size) w6).setCell (p := ⟨w.heap.size, 0, none⟩) (fun _ => rfl) _
    refine ⟨hF6.trans (kS.mono (fun b hb => ⟨by omega, by omega, by omega, by omega⟩)), a', cap', ?_, ?_, kx6.trans kS⟩
    · exact HR6.out.set 0 (.slice a' (ss.length + 1) cap')
    · exact owned_keep HO6.out kS (fun b hb e => by
        rcases hfresh b hb with h | h
        · have := hge b h; omega
        · omega)
theorem collect_c (c bM n : Nat) (S : List Int → Prop) (w : World) (ht : TellsU 79 #[.pointer (some ⟨c, 0, none⟩)] S n bM w) (hbM : bM < w.heap.size) (hn : n ≤ 1000000) :
    Calls Try.prog 77 #[.func (.func 79) #[] #[.pointer (some ⟨c, 0, none⟩)]] w fun e w' => ∃ (ss : List Int) (a : Option Addr) (cp : Nat), e = .returned (.slice a ss.length cp) ∧ S ss ∧ w'.ownsRow w.heap.size 23 1 (.slice a ss.length cp) ss.length (ss.map iv) ∧ Keep Nix w w' := by
  have HA := append_c c bM n S w ht hbM hn
  go_enter Try.func77, Try.ntmps77
  go_wp2_with fail
  go_fit HA
  rintro e w1 ⟨ss, a, cp, rfl, hS, own, k1⟩
  go_wp2_with fail
  go_ret
  exact ⟨ss, a, cp, rfl, hS, own, k1⟩
theorem sorted_c (c bM n : Nat) (S : List Int → Prop) (w : World) (ht : TellsU 79 #[.pointer (some ⟨c, 0, none⟩)] S n bM w) (hbM : bM < w.heap.size) (hn : n ≤ 1000000) (hS12 : ∀ ss, S ss → ss.length ≤ 1000000) :
    Calls Try.prog 63 #[.func (.func 79) #[] #[.pointer (some ⟨c, 0, none⟩)]] w fun e w' => ∃ (ys ss : List Int) (a : Option Addr) (cp : Nat), e = .returned (.slice a ys.length cp) ∧ S ss ∧ ys.Perm ss ∧ UpTo ys.length ys ∧ w'.ownsRow w.heap.size 23 1 (.slice a ys.length cp) ys.length (ys.map iv) ∧ Keep Nix w w' := by
  have HC := collect_c c bM n S w ht hbM hn
  go_enter Try.func63, Try.ntmps63
  go_wp2_with fail
  go_fit HC
  rintro e w1 ⟨ss, a, cp, rfl, hS, own, k1⟩
  have h12 := hS12 ss hS
  have HS := sortAll_c a ss.length cp ss w1 own h12
  have hge : ∀ b, OwnB (.slice a ss.length cp) b → w.heap.size ≤ b := fun b hb => (own.lt b hb).1
  go_wp2_with fail
  go_fit HS
  rintro e w2 ⟨rfl, ys, own2, hp, hu, k2⟩
  have hl : ss.length = ys.length := hp.length_eq.symm
  have HL := Lib.hid hl
  clear hl HS own
  go_wp2_with fail
  go_ret
  refine ⟨ys, ss, a, cp, by rw [← HL.out]; rfl, hS, hp, by rw [← HL.out]; exact hu, by rw [← HL.out]; exact own2, k1.then k2 (fun i hi h => by have := hge i h; omega)⟩
theorem keys_c (bM : Nat) (w : World) : Calls Try.prog 64 #[.map (some bM)] w fun e w' => e = .returned (.func (.func 79) #[] #[.pointer (some ⟨w.heap.size, 0, none⟩)]) ∧ w' = w.alloc (.cells #[.map (some bM)] 66) := by
  go_enter Try.func64, Try.ntmps64
  go_wp2_with fail
  go_ret
  exact ⟨rfl, rfl⟩
/-- A list that rises and has no more than another rising one is that one. -/
theorem rising_eq : ∀ {a b : List Int}, a.Pairwise (· < ·) → b.Pairwise (· < ·) → (∀ k, k ∈ a ↔ k ∈ b) → a = b
  | [], [], _, _, _ => rfl
  | [], y :: b, _, _, h => by have := (h y).2 (by simp); cases this
  | x :: a, [], _, _, h => by have := (h x).1 (by simp); cases this
  | x :: a, y :: b, ha, hb, h => by
    obtain ⟨a1, a2⟩ := List.pairwise_cons.1 ha
    obtain ⟨b1, b2⟩ := List.pairwise_cons.1 hb
    have hxy : x = y := by
      rcases List.mem_cons.1 ((h x).1 (by simp)) with e | e
      · exact e
      · rcases List.mem_cons.1 ((h y).2 (by simp)) with e2 | e2
        · exact e2.symm
        · have := b1 x e; have := a1 y e2; omega
    subst hxy
    rw [rising_eq a2 b2 (fun k => ?_)]
    constructor
    · intro hk
      rcases List.mem_cons.1 ((h k).1 (by simp [hk])) with e | e
      · have := a1 k hk; omega
      · exact e
    · intro hk
      rcases List.mem_cons.1 ((h k).2 (by simp [hk])) with e | e
      · have := b1 k hk; omega
      · exact e
theorem upTo_rising {ys : List Int} (h : UpTo ys.length ys) (hn : ys.Nodup) : ys.Pairwise (· < ·) := by
  rw [List.pairwise_iff_getElem]
  intro i j hi hj hij
  have h1 := h i j hij hj
  rw [gd_at hi, gd_at hj] at h1
  have h2 : ys[i] ≠ ys[j] := (List.pairwise_iff_getElem.1 hn) i j hi hj hij
  omega
theorem txns_of {D : DataW Value} {L : List GHeld} (ok : TabOk L) (hD : ∀ k, isU64 k → Maps.has D (keyU k) = (findT L k).isSome) {ss ys : List Int} (hk : KeysOf D (fun _ => false) ss) (hp : ys.Perm ss) (hu : UpTo ys.length ys) : ys = L.map (·.fTxn) := by
  refine rising_eq (upTo_rising hu (hp.nodup_iff.2 hk.1)) (List.pairwise_map.2 ok.rising) (fun k => ?_)
  rw [hp.mem_iff, hk.2 k]
  constructor
  · rintro ⟨h1, h2, -⟩
    rw [hD k h1] at h2
    cases e : findT L k with
    | none => rw [e] at h2; cases h2
    | some h =>
      obtain ⟨h3, h4⟩ := findT_mem e
      exact List.mem_map.2 ⟨h, h3, h4⟩
  · intro hm
    obtain ⟨h, h1, rfl⟩ := List.mem_map.1 hm
    exact ⟨ok.u64 h h1, by rw [hD _ (ok.u64 h h1), findT_of_mem ok h1]; rfl, rfl⟩
theorem keys_len {D : DataW Value} {L : List GHeld} (ok : TabOk L) (hD : ∀ k, isU64 k → Maps.has D (keyU k) = (findT L k).isSome) {ss : List Int} (hk : KeysOf D (fun _ => false) ss) : ss.length = L.length := by
  have hp : ss.Perm (L.map (·.fTxn)) := by
    refine (List.perm_ext_iff_of_nodup hk.1 ?_).2 (fun k => ?_)
    · exact (List.pairwise_map.2 ok.rising).imp (fun h => by omega)
    · rw [hk.2 k]
      constructor
      · rintro ⟨h1, h2, -⟩
        rw [hD k h1] at h2
        cases e : findT L k with
        | none => rw [e] at h2; cases h2
        | some h =>
          obtain ⟨h3, h4⟩ := findT_mem e
          exact List.mem_map.2 ⟨h, h3, h4⟩
      · intro hm
        obtain ⟨h, h1, rfl⟩ := List.mem_map.1 hm
        exact ⟨ok.u64 h h1, by rw [hD _ (ok.u64 h h1), findT_of_mem ok h1]; rfl, rfl⟩
  rw [hp.length_eq, List.length_map]
theorem txns_c (O : Nat → Prop) (g n : Nat) (L : List GHeld) (w : World) (T : IsTab w O g n L) (hn : n ≤ 1000000) (h12 : L.length ≤ 1000000) :
    Calls Try.prog 33 #[.pointer (some ⟨g, 0, none⟩)] w fun e w' => ∃ (a : Option Addr) (cp : Nat), e = .returned (.slice a L.length cp) ∧ w'.ownsRow w.heap.size 23 1 (.slice a L.length cp) L.length ((L.map (·.fTxn)).map iv) ∧ Keep Nix w w' := by
  obtain ⟨lt, og, ok, bM, D, oM, ne, row, m⟩ := T
  have x0 := row.cell 0
  (try simp only [List.getElem?_cons_zero] at x0)
  have hD : ∀ k, isU64 k → Maps.has D (keyU k) = (findT L k).isSome := fun k hk => by
    obtain ⟨_, _, _, h⟩ := m.2 k hk
    exact h
  have kA : Keep Nix w (w.alloc (.cells #[.map (some bM)] 66)) := (Keep.refl Nix w).alloc _
  have rowM : RowIs (w.alloc (.cells #[.map (some bM)] 66)) w.heap.size 66 [.map (some bM)] := RowIs.alloc w _ _
  have HT := keys_tells w.heap.size bM n D _ rowM (ownsMap_keep m.1 kA id)
  have HS := sorted_c w.heap.size bM n _ (w.alloc (.cells #[.map (some bM)] 66)) HT (Nat.lt_of_lt_of_le (lt bM oM) kA.size) hn (fun ss hs => by rw [keys_len ok hD hs]; exact h12)
  have hKS := Lib.hid HS
  have hsA := kA.size
  clear HS HT rowM m row
  go_enter Try.func33, Try.ntmps33
  go_wp2_with fail
  go_fit (keys_c bM w)
  rintro e w1 ⟨rfl, rfl⟩
  go_wp2_with fail
  go_fit hKS.out
  rintro e w2 ⟨ys, ss, a, cp, rfl, hS, hp, hu, own, k2⟩
  have hy := Lib.hid (txns_of ok hD hS hp hu)
  have hl : Hid (ys.length = L.length) := by show _ = _; rw [hy.out]; simp
  go_wp2_with fail
  go_ret
  refine ⟨a, cp, by rw [← hl.out]; rfl, ?_, kA.trans k2⟩
  rw [← hl.out, ← hy.out]
  exact own_from own hsA
end Go.Proofs.Ytfagejfcibgigaa
