/- THE LAW WireCatalogs, walked. -/
import Derived.Test.YtabgbleldbapbaaTakC
import Derived.Test.YtabgbleldbapbaaSameB
import Derived.Test.YtabgbleldbapbaaGoods
import Derived.Test.YtabgbleldbapbaaOutT
import Derived.Test.YtabgbleldbapbaaHelp
import Derived.Lib.SlBytesConst
namespace Go.Proofs.Ytabgbleldbapbaa
open Go.RowKit

/-- A copy of bytes. -/
theorem copyB_c {p : Nat → Prop} (a : Option Addr) (n ca : Nat) (l : List UInt8) (w : World) (hn : l.length = n) (ha : Lies w p a (l.map bv)) (hr : n ≤ 140737488351232) :
    Calls Try.prog 20 #[.slice a n ca] w fun e w' => ∃ a' cap', e = .returned (.slice a' n cap') ∧ w'.ownsRow w.heap.size 5 1 (.slice a' n cap') n (l.map bv) ∧ Keep Nix w w' := by
  subst hn
  have own0 := World.ownsRow_nil w w.heap.size 5 1
  go_enter Try.func20, Try.ntmps20
  go_wp2_with (at_builtin; refine wpl_append T_bytes rfl (.const (.slice none 0 0)) (.tmp 3) rfl w.heap.size rfl own0 (l.map bv) rfl (by simp) ha (bv_one l) (by unfold maxLen; omega) (by omega) (Nat.le_refl _) ?_)
  intro a' cap' w2 own2 hg
  have kk := (Keep.refl Nix w).grown hg (fun k hk hlt => absurd hk (by simp [Value.ownBlock]))
  clear own0 hg
  go_wp2
  go_ret
  exact ⟨a', cap', by simp, by simpa using own2, kk⟩
theorem Lies.mark (w : World) (cs : Array Value) (t : TypeId) (m : Nat × Nat) (p : Nat → Prop) (hp : p w.heap.size) : Lies (w.alloc (.cells cs t m)) p (some ⟨w.heap.size, 0, none⟩) cs.toList :=
  fun _ => ⟨w.heap.size, 0, rfl, hp, by simp, fun j u hu => (cell_of_row _ w.heap.size _ cs t m (heap_alloc_new _ _)).trans (by rw [Nat.zero_add]; simpa using hu)⟩
set_option maxRecDepth 100000 in
theorem wawake_c (w : World) : Calls Try.prog 6 #[] w fun e w' => e = .returned (.bool true) ∧ Keep Nix w w' := by
  have kc := fun (w : World) (C : Array Value) (n c : Nat) => Lib.run_convert_bytes_const (P := Try.prog) w 33 5 C n c Try.underlying33 Try.underlying5
  go_enter Try.func6, Try.ntmps6
  go_wp2_with fail
  have hx : rGCall (w.alloc (.cells #[.int .u8 97] 5 (1, 2))) (fun b => b = w.heap.size) [.int .u64 1, .int .u64 2, .slice (some ⟨w.heap.size, 0, none⟩) 1 1] ⟨1, 2, [97]⟩ :=
    ⟨[_], [_], [_], rfl, ⟨rfl, rfl⟩, ⟨rfl, rfl⟩, some ⟨w.heap.size, 0, none⟩, 1, rfl, Lies.mark w #[.int .u8 97] _ _ _ rfl, by decide, by decide⟩
  have hlen : (encGCall ⟨1, 2, [97]⟩).length ≤ far := by decide +kernel
  go_fit (wTCall_c _ (fun b => b = w.heap.size) (fun b hb => by simp; omega) ⟨1, 2, [97]⟩ _ hx hlen)
  rintro e w1 ⟨a, cap, rfl, own, k⟩
  have ee : encGCall ⟨1, 2, [97]⟩ = [1, 2, 1, 97] := by decide +kernel
  rw [ee] at own ⊢
  obtain ⟨b, rfl, _, _, hc⟩ := cells_of_owned own (by simp)
  have c0 := hc 0 _ rfl
  have c1 := hc 1 _ rfl
  have c2 := hc 2 _ rfl
  have c3 := hc 3 _ rfl
  have kk : Keep Nix w w1 := ((Keep.refl Nix w).alloc _).trans k
  clear hc own ee hx k
  simp only [bv] at c0 c1 c2 c3
  go_wp2
  go_ret
  exact ⟨rfl, kk⟩
namespace wireCatalogs
theorem ldz_Catalog (a : Act) (dst : Option Tmp) (x : Operand) (ty : TypeId) (pos : String) (after : Array Edge) (guard : Option (Nat × Bool)) : execOp a.eval { dst := dst, op := .load 25 x, type := ty, pos := pos, after := after, guard := guard } = wholeSem 25 (a.eval x) := rfl
attribute [local go_sem ↓] ldz_Catalog st_Catalog
set_option maxRecDepth 100000 in
set_option maxHeartbeats 16000000 in
theorem walk' (W : World) (c : GCatalog) (csc : List Value) (hc : rGCatalog W (· < W.heap.size) csc c) (hbc : (encGCatalog c).length ≤ far) (a : Option Addr) (n cap : Nat) (l : List UInt8) (hn : l.length = n) (hl : Lies W (· < W.heap.size) a (l.map bv)) (u : Nat) (hu : u < 256) :
    Calls Try.prog 5 #[.agg csc.toArray, .slice a n cap, .int .u8 u] W fun e w' => e = .returned (.bool true) ∧ Keep Nix W w' := by
  have gc := hc
  obtain ⟨acTables, ccTables, acIndexes, ccIndexes, rfl, z0, z1, z2, z3, -⟩ := rGCatalog_open hc
  have ncTables : c.fTables.length ≤ 140737488351232 := by have := (rList_len z2).2.2; have := far_len; omega
  have ncIndexes : c.fIndexes.length ≤ 140737488351232 := by have := (rList_len z3).2.2; have := far_len; omega
  clear hc z0 z1 z2 z3
  have kk : Keep Nix W (W.alloc (.cells #[.int .i64 c.fVersion, .int .i64 c.fNext, .slice acTables c.fTables.length ccTables, .slice acIndexes c.fIndexes.length ccIndexes] 25)) := (Keep.refl Nix W).alloc _
  have row0 : RowIs (W.alloc (.cells #[.int .i64 c.fVersion, .int .i64 c.fNext, .slice acTables c.fTables.length ccTables, .slice acIndexes c.fIndexes.length ccIndexes] 25)) W.heap.size 25 [.int .i64 c.fVersion, .int .i64 c.fNext, .slice acTables c.fTables.length ccTables, .slice acIndexes c.fIndexes.length ccIndexes] := RowIs.alloc W _ _
  have ld0 : (wholeSem 25 (.pointer (some ⟨W.heap.size, 0, none⟩))).run Try.prog (W.alloc (.cells #[.int .i64 c.fVersion, .int .i64 c.fNext, .slice acTables c.fTables.length ccTables, .slice acIndexes c.fIndexes.length ccIndexes] 25)) = .ok (.value (.agg #[.int .i64 c.fVersion, .int .i64 c.fNext, .slice acTables c.fTables.length ccTables, .slice acIndexes c.fIndexes.length ccIndexes])) (W.alloc (.cells #[.int .i64 c.fVersion, .int .i64 c.fNext, .slice acTables c.fTables.length ccTables, .slice acIndexes c.fIndexes.length ccIndexes] 25)) := Whole.row S_Catalog (by rfl) row0
  replace gc := rGCatalog_lawful.nix gc kk
  replace hl := hl.keep kk (fun _ _ h => h)
  go_enter Try.func5, Try.ntmps5
  go_wp2_with fail
  · clear ld0
    go_fit (wawake_c _)
    rintro e w1 ⟨rfl, k1⟩
    go_wp2
    go_ret
    exact ⟨rfl, kk.trans k1⟩
  clear ld0
  go_fit (wTCatalog_c _ (· < W.heap.size) (fun b hb => Nat.lt_of_lt_of_le hb kk.size) c _ gc hbc)
  rintro e w1 ⟨aa, ca, rfl, own, k1⟩
  replace row0 := row0.keep k1 id
  replace gc := rGCatalog_lawful.nix gc k1
  replace hl := hl.keep k1 (fun _ _ h => h)
  replace kk := kk.trans k1
  have l1 := Lies.of_owned own
  clear own k1
  obtain ⟨x, HX⟩ : ∃ x : List UInt8, Hid (encGCatalog c = x) := ⟨_, rfl⟩
  rw [HX.out] at l1 ⊢
  go_wp2_with fail
  go_fit (wawake_c _)
  rintro e w2 ⟨rfl, k1⟩
  replace row0 := row0.keep k1 id
  replace gc := rGCatalog_lawful.nix gc k1
  replace hl := hl.keep k1 (fun _ _ h => h)
  replace l1 := l1.keep k1 (fun _ _ h => h)
  replace kk := kk.trans k1
  clear k1
  rcases Int.lt_or_le 5000 (x.length : Int) with hbig | hsm
  · have hd : decide ((5000 : Int) < (x.length : Int)) = true := decide_eq_true hbig
    clear hbig
    go_wp2_with fail
    go_fit (wawake_c _)
    rintro e w3 ⟨rfl, k3⟩
    go_wp2
    go_ret
    exact ⟨rfl, kk.trans k3⟩
  have hd : decide ((5000 : Int) < (x.length : Int)) = false := decide_eq_false (by omega)
  have hx0 : x.length ≤ 5000 := by omega
  clear hsm
  go_wp2_with fail
  clear hd
  have hk := (ok_GCatalog _ _ _ c gc (by rw [HX.out]; omega)).1
  have HT : Hid (takeP pGCatalog zGCatalog x = (c, 0)) := by
    rw [← HX.out]; exact good_GCatalog.take_back _ c hk
  have HM : Hid (∀ d, (takeP pGCatalog zGCatalog (x ++ [d])).2 = 9) := by
    rw [← HX.out]; exact fun d => good_GCatalog.take_more _ c d hk
  clear hk
  have tc := wTakeCatalog_c aa x.length ca x _ rfl l1 (by omega)
  rw [HT.out] at tc
  go_fit tc
  clear tc
  rintro e w4 ⟨cd, rfl, hD, ho, k1⟩
  replace row0 := row0.keep k1 id
  replace gc := rGCatalog_lawful.nix gc k1
  replace hl := hl.keep k1 (fun _ _ h => h)
  replace l1 := l1.keep k1 (fun _ _ h => h)
  replace kk := kk.trans k1
  clear k1
  have z0 := row0.lt
  have hst := store_run (P := Try.prog) (cs := cd) S_Catalog (RowIs.alloc w4 #[.int .i64 0, .int .i64 0, .slice none 0 0, .slice none 0 0] 25) rfl (wGCatalog_lawful.len hD) ho
  have rowD := (RowIs.alloc w4 #[.int .i64 0, .int .i64 0, .slice none 0 0, .slice none 0 0] 25).setRow cd
  have kV : Keep Nix w4 ((w4.alloc (.cells #[.int .i64 0, .int .i64 0, .slice none 0 0, .slice none 0 0] 25)).setRow w4.heap.size cd.toArray) := ((Keep.refl Nix w4).alloc _).setRow (fun h => absurd h (Nat.lt_irrefl _)) cd.toArray
  replace hD := wGCatalog_lawful.nix hD kV
  replace row0 := row0.keep kV id
  replace gc := rGCatalog_lawful.nix gc kV
  replace hl := hl.keep kV (fun _ _ h => h)
  replace l1 := l1.keep kV (fun _ _ h => h)
  replace kk := kk.trans kV
  clear kV
  go_wp2_with fail
  clear hst ho
  go_fit (copyB_c aa x.length ca x _ rfl l1 (by omega))
  rintro e w5 ⟨ay, cy, rfl, own, k1⟩
  replace hD := wGCatalog_lawful.nix hD k1
  replace rowD := rowD.keep k1 id
  replace row0 := row0.keep k1 id
  replace gc := rGCatalog_lawful.nix gc k1
  replace hl := hl.keep k1 (fun _ _ h => h)
  replace kk := kk.trans k1
  have s5 := k1.size
  clear k1
  go_wp2_with (at_builtin; refine wpl_append1 T_bytes rfl (.tmp 45) (.tmp 47) rfl _ rfl own rfl rfl ?c1 ?c2 ?c3 s5 ?_)
  case c1 => simp [Value.oneCell']
  case c2 => unfold maxLen; omega
  case c3 => omega
  intro a6 c6 w6 own6 k1
  have hnew : ∀ i, OwnB (.slice ay x.length cy) i → w4.heap.size + 1 ≤ i := fun i h => by have := (own.lt i h).1; simp at this; omega
  have kx := k1.mono hnew
  clear own s5 k1 hnew
  replace hD := wGCatalog_lawful.keep hD kx (fun b hb h => by have := hb.2; omega)
  replace rowD := rowD.keep kx (fun h => by omega)
  replace row0 := row0.keep kx (fun h => by omega)
  replace gc := rGCatalog_lawful.keep gc kx (fun b hb h => by omega)
  replace hl := hl.keep kx (fun b hb h => by omega)
  replace kk := kk.then kx (fun i hi h => by omega)
  clear kx
  have e6 : x.map bv ++ [Value.int .u8 u] = (x ++ [UInt8.ofNat u]).map bv := map_snoc x _ _ (by simp; omega)
  have l6 := Lies.of_owned own6
  rw [e6] at l6
  clear own6 e6
  go_wp2_with fail
  have tm := wTakeCatalog_c a6 (x.length + 1) c6 (x ++ [UInt8.ofNat u]) _ (by simp) l6 (by omega)
  have HM9 := Lib.hid (HM.out (UInt8.ofNat u))
  clear HM HT
  generalize takeP pGCatalog zGCatalog (x ++ [UInt8.ofNat u]) = ym at tm HM9
  obtain ⟨ym1, ym2⟩ := ym
  have hym : ym2 = 9 := HM9.out
  subst hym
  clear HM9 l6
  go_fit tm
  clear tm
  rintro e w7 ⟨cm, rfl, hM, ho, k1⟩
  replace hD := wGCatalog_lawful.nix hD k1
  replace rowD := rowD.keep k1 id
  replace row0 := row0.keep k1 id
  replace gc := rGCatalog_lawful.nix gc k1
  replace hl := hl.keep k1 (fun _ _ h => h)
  replace kk := kk.trans k1
  clear k1
  have hst := store_run (P := Try.prog) (cs := cm) S_Catalog (RowIs.alloc w7 #[.int .i64 0, .int .i64 0, .slice none 0 0, .slice none 0 0] 25) rfl (wGCatalog_lawful.len hM) ho
  have kV : Keep Nix w7 ((w7.alloc (.cells #[.int .i64 0, .int .i64 0, .slice none 0 0, .slice none 0 0] 25)).setRow w7.heap.size cm.toArray) := ((Keep.refl Nix w7).alloc _).setRow (fun h => absurd h (Nat.lt_irrefl _)) cm.toArray
  clear hM
  replace hD := wGCatalog_lawful.nix hD kV
  replace rowD := rowD.keep kV id
  replace row0 := row0.keep kV id
  replace gc := rGCatalog_lawful.nix gc kV
  replace hl := hl.keep kV (fun _ _ h => h)
  replace kk := kk.trans kV
  clear kV
  have lA := Whole.row (P := Try.prog) S_Catalog (by rfl) row0
  have lB := Whole.row (P := Try.prog) S_Catalog (wGCatalog_lawful.len hD) rowD
  unfold Whole at lA lB
  go_wp2_with fail
  clear lA lB ho hst
  go_fit (sCatalog_c _ c _ cd gc (wGCatalog_to hD))
  rintro e w8 ⟨rfl, k1⟩
  replace hl := hl.keep k1 (fun _ _ h => h)
  replace kk := kk.trans k1
  clear k1 hD rowD row0 gc l1 hx0
  go_wp2_with fail
  have tb := wTakeCatalog_c a n cap l w8 hn hl (by omega)
  have HF := Lib.hid (good_GCatalog.take_form zGCatalog l)
  go_fit tb
  clear tb
  generalize takeP pGCatalog zGCatalog l = yb at HF ⊢
  obtain ⟨gd, eb⟩ := yb
  rintro e w9 ⟨cg, rfl, hG, ho, k1⟩
  replace hl := hl.keep k1 (fun _ _ h => h)
  replace kk := kk.trans k1
  clear k1
  have hst := store_run (P := Try.prog) (cs := cg) S_Catalog (RowIs.alloc w9 #[.int .i64 0, .int .i64 0, .slice none 0 0, .slice none 0 0] 25) rfl (wGCatalog_lawful.len hG) ho
  have rowG := (RowIs.alloc w9 #[.int .i64 0, .int .i64 0, .slice none 0 0, .slice none 0 0] 25).setRow cg
  have kV : Keep Nix w9 ((w9.alloc (.cells #[.int .i64 0, .int .i64 0, .slice none 0 0, .slice none 0 0] 25)).setRow w9.heap.size cg.toArray) := ((Keep.refl Nix w9).alloc _).setRow (fun h => absurd h (Nat.lt_irrefl _)) cg.toArray
  have hG0 := wGCatalog_lawful.len hG
  have hpG : ∀ b, NewIn w8 w9 b → b < w9.heap.size := fun b hb => hb.2
  replace hG := wGCatalog_lawful.nix hG kV
  replace hl := hl.keep kV (fun _ _ h => h)
  replace kk := kk.trans kV
  have lG := Whole.row (P := Try.prog) S_Catalog hG0 rowG
  unfold Whole at lG
  clear hG0 rowG
  rcases test_eq eb 0 with ⟨t, e⟩ | ⟨t, e⟩
  · have t' : (eb != 0) = false := by simp [e.out]
    go_wp2_with fail
    clear hst ho lG
    have henc : encGCatalog gd = l := HF.out e.out
    go_fit (wTCatalog_c _ (NewIn w8 w9) (fun b hb => Nat.lt_of_lt_of_le (hpG b hb) kV.size) gd cg (wGCatalog_to hG) (by rw [henc]; unfold far; omega))
    rintro e' w10 ⟨aq, cq, rfl, own, k1⟩
    replace hl := hl.keep k1 (fun _ _ h => h)
    replace kk := kk.trans k1
    have lq := Lies.of_owned own
    have HE := Lib.hid henc
    clear own k1 hG hpG kV henc
    rw [HE.out] at lq ⊢
    go_wp2_with fail
    go_fit (bytesT_c aq a n cq n cap l _ hn hn lq hl)
    rintro e'' w11 ⟨rfl, rfl⟩
    go_wp2
    go_ret
    exact ⟨rfl, kk⟩
  · have t' : (eb != 0) = true := by simp [e]
    have E := Lib.hid e
    clear e
    go_wp2_with fail
    go_ret
    exact ⟨rfl, kk⟩
  clear ld0
  go_fit (wawake_c _)
  rintro e w1 ⟨rfl, k1⟩
  go_wp2
  go_ret
  exact ⟨rfl, kk.trans k1⟩
theorem walk (W : World) (v0 v1 v2 : Value) (h0 : Arg Try.prog W 1048576 25 v0) (h1 : Arg Try.prog W 1048576 33 v1) (h2 : Arg Try.prog W 1048576 5 v2) :
    Calls Try.prog 5 #[v0, v1, v2] W fun e w' => e = .returned (.bool true) ∧ Keep Nix W w' := by
  obtain ⟨cs0, rfl, r0⟩ := h0.struct Try.underlying25
  obtain ⟨x0, g0, s0⟩ := redGCatalog r0
  have b0 : (encGCatalog x0).length ≤ far := by have := encGCatalog_len x0; unfold far; omega
  obtain ⟨c, n, cap, rfl, h3⟩ := h1.slice Try.underlying33
  obtain ⟨l, hn, hl, -, -, -⟩ := bytes_in Try.underlying33 Try.underlying5 (by kernel_rfl) (by kernel_rfl) h3
  obtain ⟨u, rfl, hu⟩ := h2.int Try.underlying5
  have hb := bounds_u8 hu
  obtain ⟨k, rfl⟩ : ∃ k : Nat, u = (k : Int) := ⟨u.toNat, by omega⟩
  exact walk' W x0 cs0 g0 b0 c n cap l hn hl k (by omega)
end wireCatalogs
end Go.Proofs.Ytabgbleldbapbaa
