/- ROOT: the law RootNumbers. Printed by mac.py. -/
import Derived.Test.YtibaehlfpgipfaaGreatQZRsX
import Derived.Test.YtibaehlfpgipfaaGreatQZRoJ
import Derived.Test.YtibaehlfpgipfaaGreatQZSaX
import Derived.Deep.DeepCutAuto
import Derived.Deep.CutBlock
namespace Go.Proofs.YtibaehlfpgipfaaGreat
open Go.RowKit
set_option linter.unusedSimpArgs false
theorem dec_same (R : RootS) (t : Int) (b : Bool) : (decideF R t b).2.2.begun = R.begun ∧ (decideF R t b).2.2.spare = R.spare := by
 unfold decideF
 repeat' split
 all_goals exact ⟨rfl, rfl⟩
theorem run_begun {R : RootS} {c : GCommand} (h : c.fKind ≠ 11) : (runF R c).2.begun = R.begun := by
 unfold runF
 rw [if_neg h]
 repeat' split
 all_goals first | rfl | exact (dec_same _ _ _).1 | (unfold changeP; split <;> rfl) | (unfold moveF moveP; split <;> rfl)
theorem run_spare (R : RootS) (c : GCommand) : (runF R c).2.spare = R.spare := by
 unfold runF
 repeat' split
 all_goals first | rfl | exact (dec_same _ _ _).2 | (unfold changeP; split <;> rfl) | (unfold moveF moveP; split <;> rfl)
theorem run_eleven {R : RootS} {c : GCommand} (h : c.fKind = 11) : runF R c = (repL (R.begun + 1) 0 (lastC R) R.routes, bump R) := by
 unfold runF
 rw [if_pos h]
structure NSta (W w : World) (O : Nat → Prop) (g m : Nat) (R : RootS) (k : Nat) : Prop where
 a : IsAt W w O g m R
 s : Small m R
 f : FitR R
 sp : R.spare = 3
 mk1 : m ≤ k
theorem NSta.nix {W w w' : World} {O : Nat → Prop} {g m : Nat} {R : RootS} {k : Nat} (h : NSta W w O g m R k) (kq : Keep Nix w w') : NSta W w' O g m R k := ⟨h.a.nix kq, h.s, h.f, h.sp, h.mk1⟩
theorem NSta.more {W w : World} {O : Nat → Prop} {g m : Nat} {R : RootS} {k k' : Nat} (h : NSta W w O g m R k) (hk : k ≤ k') : NSta W w O g m R k' := ⟨h.a, h.s, h.f, h.sp, Nat.le_trans h.mk1 hk⟩
theorem NSta.save {W w : World} {O : Nat → Prop} {g m : Nat} {R : RootS} {k : Nat} (h : NSta W w O g m R k) (hk : k ≤ 190) : SaveOk R m := ⟨h.f, ⟨by rw [h.sp]; decide, by rw [h.sp]; decide⟩, h.s.rt.len, by have := h.s.cats; have := h.mk1; omega, by have := h.mk1; omega⟩
theorem sub_ld {P : Program} {T T' n b : Nat} {w : World} {pre mid post : List Value} (S : StructT P T n) (row : RowIs w b T' (pre ++ (mid ++ post))) (hn : mid.length = n) : Whole P w T b pre.length mid := Whole.at S hn (fun j u hu => by
 rw [row.cell, List.getElem?_append_right (by omega), Nat.add_sub_cancel_left, List.getElem?_append_left (List.getElem?_eq_some_iff.1 hu).1]; exact hu)
theorem repL_open {w : World} {p : Nat → Prop} {cs : List Value} {t n : Int} {C : GCatalog} {G : GRoutes} (h : rGReply w p cs (repL t n C G)) : ∃ aP cP aQ cQ aT cT aX cX aS cS aU cU, cs = [.int .i64 0, .int .u64 t, .int .i64 n, .bool false, .slice aP 0 cP, .slice aQ 0 cQ, .int .i64 C.fVersion, .int .i64 C.fNext, .slice aT C.fTables.length cT, .slice aX C.fIndexes.length cX, .int .i64 G.fEpoch, .int .i64 G.fBase, .slice aS G.fSpans.length cS, .int .i64 G.fMoving, .slice aU G.fCut.length cU] ∧ rGCatalog w p [.int .i64 C.fVersion, .int .i64 C.fNext, .slice aT C.fTables.length cT, .slice aX C.fIndexes.length cX] C ∧ rGRoutes w p [.int .i64 G.fEpoch, .int .i64 G.fBase, .slice aS G.fSpans.length cS, .int .i64 G.fMoving, .slice aU G.fCut.length cU] G := by
 obtain ⟨aP, cP, aQ, cQ, aT, cT, aX, cX, aS, cS, aU, cU, rfl, -, -, -, -, -, h1, h2, -⟩ := rGReply_open h
 exact ⟨aP, cP, aQ, cQ, aT, cT, aX, cX, aS, cS, aU, cU, rfl, h1, h2⟩
theorem last_at {w : World} {O : Nat → Prop} {g n : Nat} {R : RootS} (H : IsRoot w O g n R) : ∃ k : Nat, (lastC R).fVersion = (k : Int) ∧ R.cats[k]? = some (lastC R) := by
 have h1 := H.last
 have hpos : 0 < R.cats.length := List.length_pos_iff.2 H.ok.ex
 refine ⟨R.cats.length - 1, by omega, ?_⟩
 unfold lastC
 rw [List.getLast?_eq_getElem?, List.getElem?_eq_getElem (by omega)]
 rfl
theorem start_fit : FitR (startS 3 ⟨0, 2, [⟨2 + 1, [120]⟩], 0, []⟩) := by
 refine ⟨fun c hc => ?_, fun o ho => ?_, Nat.zero_le _⟩
 ·have : c = cat1 := by simpa [startS] using hc
  subst this
  exact ⟨Nat.zero_le _, Nat.zero_le _, (fun t ht => by cases ht), (fun t ht => by cases ht)⟩
 ·have : o = ⟨2 + 1, [120]⟩ := by simpa [startS] using ho
  subst this
  exact (by decide : [(120 : UInt8)].length ≤ 600)
section
attribute [local go_sem ↓] stz_Reply ldz_Command ldz_Catalog stz_Catalog ldz_Routes
set_option maxRecDepth 100000 in
set_option maxHeartbeats 16000000 in
theorem numbers_walk (W : World) (a0 : Option Addr) (cap : Nat) (ls : List GOp) (HX : rList rGOp W (· < W.heap.size) [.slice a0 ls.length cap] ls) :
  Calls Tryz.prog 3 #[.slice a0 ls.length cap] W fun e w' => e = .returned (.bool true) ∧ Keep Nix W w' := by
 have HN := Lib.hid (rootNew_c 2 3 W ⟨by decide, by decide⟩ ⟨by decide, by decide⟩)
 have hcap2 : ls.length ≤ 140737488351232 := (rList_len HX).2.2
 replace HX := Lib.hid HX
 go_enter Tryz.func3, Tryz.ntmps3
 go_wp2_with fail
 go_fit HN.out
 rintro e w1 ⟨g, O, rfl, H1, hO1, k1⟩
 clear HN
 have N1 : NSta W w1 O g 0 _ 0 := ⟨⟨H1, hO1, k1⟩, start_small _ _ (start_rt 2 ⟨by decide, by decide⟩), start_fit, rfl, Nat.le_refl _⟩
 clear H1 hO1 k1
 obtain ⟨R0, hR0⟩ : ∃ r, Hid (startS 3 ⟨0, 2, [⟨2 + 1, [120]⟩], 0, []⟩ = r) := ⟨_, rfl⟩
 have hb0 : Hid (R0.begun = 0) := by show _ = _; rw [← hR0.out]; rfl
 rw [hR0.out] at N1
 have N1 := Lib.hid N1
 clear hR0
 go_wp2_with fail
 go_fit (roawake_c w1)
 rintro e w2 ⟨rfl, k2⟩
 have N2 := Lib.hid (N1.out.nix k2)
 clear N1 k2
 go_wp2_with fail
 go_loopw [5, 6] (fun v i wr => ∃ (k m : Nat) (O : Nat → Prop) (R : RootS), v = .int .u64 R.begun ∧ i = .int .i64 (k : Int) ∧ k ≤ ls.length ∧ k ≤ 60 ∧ NSta W wr O g m R (3 * k)) (fun _ i _ => ls.length - (intOf i).toNat)
 case atStart => exact ⟨0, 0, O, R0, by rw [hb0.out], rfl, Nat.zero_le _, Nat.zero_le _, N2.out⟩
 case round =>
  clear N2 hb0
  obtain ⟨k, m, O, R, rfl, rfl, hk, hk60, NS⟩ := hrel
  have N := Lib.hid NS
  clear NS
  by_cases hlt : k < ls.length
  ·by_cases h60 : k < 60
   ·have hi0 : (0 : Int) ≤ (k : Int) := by omega
    have hi1 : (k : Int) < (ls.length : Int) := by omega
    have hi2 : (k : Int) < 60 := by omega
    have hwk : IntKind.i64.wrap ((k : Int) + 1) = (k : Int) + 1 := by rw [IntKind.wrap_i64]; omega
    obtain ⟨b, o, cc, cs, e1, hbW, hb', rOp, hcl⟩ := rList_at rGOp_lawful (by decide) HX.out k hlt
    simp only [List.cons.injEq, Value.slice.injEq, and_true] at e1
    obtain ⟨rfl, -, -⟩ := e1
    obtain ⟨x, hxk⟩ : ∃ x, Hid (ls[k].fC = x) := ⟨ls[k].fC, rfl⟩
    obtain ⟨c0, rC, hcs⟩ := op_cmd rOp
    rw [hxk.out] at rC
    have hl0 := rGCommand_lawful.len rC
    obtain ⟨d0, d2, d3, d6, du⟩ := cmd_at rC
    have HWC : Hid (∀ w', Keep Nix W w' → (wholeSem 43 (.pointer (some ⟨b, o + k * 27, none⟩))).run Tryz.prog w' = .ok (.value (.agg c0.toArray)) w') := fun w' k' => Whole.at S_Command hl0 (fun i u hu => (k'.cell (p := ⟨b, _, none⟩) hb' id).trans (hcl i u (hcs i u hu)))
    have HD0 : Hid (∀ w', Keep Nix W w' → w'.cell? ⟨b, o + k * 27, none⟩ = some (.int .i64 x.fKind)) := fun w' k' => (k'.cell (p := ⟨b, o + k * 27, none⟩) hb' id).trans (by have h := hcl 0 _ (hcs 0 _ d0); simpa using h)
    have RC := Lib.hid rC
    have HC := Lib.hid (smallCmd_c x c0 wr (rGCommand_lawful.nix rC N.out.a.kept))
    have hWc := HWC.out wr N.out.a.kept
    obtain ⟨sx, HSX⟩ : ∃ y, Hid (smallCmd x = y) := ⟨_, rfl⟩
    rw [HSX.out] at HC
    clear rC d0 d2 d3 d6 hcl hcs rOp hl0 du
    go_wp2_with fail
    clear hWc
    go_fit HC.out
    rintro e w3 ⟨rfl, k3⟩
    have N3 := Lib.hid (N.out.nix k3)
    clear HC k3 N
    go_upto_if 38 with fail
    go_cut [5, 7] from 23 to 127 (fun s5 _ wx => ∃ (m : Nat) (O : Nat → Prop) (R : RootS), s5 = .int .u64 R.begun ∧ NSta W wx O g m R (3 * k + 1))
    case first =>
     cases sx with
     | false =>
      go_wp2_with fail
      go_meet
      exact ⟨m, O, R, rfl, N3.out.more (Nat.le_succ _)⟩
     | true =>
      have hWc := HWC.out w3 N3.out.a.kept
      have HC := run_all O g m R x c0 w3 N3.out.a.is N3.out.s (by have := N3.out.mk1; omega) (by have := N3.out.mk1; omega) (rGCommand_lawful.nix RC.out N3.out.a.kept) (fun b hb => Nat.lt_of_lt_of_le hb N3.out.a.kept.size) (small_idx HSX.out)
      have HFT := Lib.hid (N3.out.f.run N3.out.a.is.ok.ex x)
      have HSP := Lib.hid ((run_spare R x).trans N3.out.sp)
      have HSM := Lib.hid (N3.out.s.run x)
      have hbg : 0 ≤ R.begun ∧ R.begun ≤ 1000 := ⟨N3.out.a.is.ok.u64.1, by have := N3.out.s.beg; have := N3.out.mk1; omega⟩
      have HNB : Hid (x.fKind ≠ 11 → (runF R x).2.begun = R.begun) := fun h => run_begun h
      have HEL : Hid (x.fKind = 11 → (runF R x).1.fTxn = R.begun + 1 ∧ (runF R x).2.begun = R.begun + 1) := fun h => by rw [run_eleven h]; exact ⟨rfl, rfl⟩
      obtain ⟨Y, hY⟩ : ∃ Y, Hid (runF R x = Y) := ⟨_, rfl⟩
      rw [hY.out] at HC HFT HSP HSM HNB HEL
      replace HC := Lib.hid HC
      clear hY
      go_wp2_with fail
      clear hWc
      go_fit HC.out
      rintro e w5 hpost
      obtain ⟨cs5, O5, rfl, hr5, A5, k5, ho5⟩ := N3.out.a.run hpost
      have hmk := N3.out.mk1
      have hl5 := rGReply_lawful.len hr5
      have ho5' := rGReply_ones hr5
      obtain ⟨hst5, row5, kV5⟩ := boxed (P := Tryz.prog) (zs := [.int .i64 0, .int .u64 0, .int .i64 0, .bool false, .slice none 0 0, .slice none 0 0, .int .i64 0, .int .i64 0, .slice none 0 0, .slice none 0 0, .int .i64 0, .int .i64 0, .slice none 0 0, .int .i64 0, .slice none 0 0]) S_Reply w5 rfl hl5 ho5'
      have y1 := (row5.cell 1).trans (rep_cells hr5).2.1
      have N5 : Hid (NSta W ((w5.alloc (.cells ([.int .i64 0, .int .u64 0, .int .i64 0, .bool false, .slice none 0 0, .slice none 0 0, .int .i64 0, .int .i64 0, .slice none 0 0, .slice none 0 0, .int .i64 0, .int .i64 0, .slice none 0 0, .int .i64 0, .slice none 0 0] : List Value).toArray 55)).setRow w5.heap.size cs5.toArray) O5 g (m + 1) Y.2 (3 * k + 1)) := ⟨A5.nix kV5, HSM.out, HFT.out, HSP.out, by omega⟩
      have y0 := HD0.out _ N5.out.a.kept
      clear hpost hr5 k5 ho5 A5 N3 HC hl5 ho5' row5 kV5 HFT HSP HSM
      generalize ((w5.alloc (.cells ([.int .i64 0, .int .u64 0, .int .i64 0, .bool false, .slice none 0 0, .slice none 0 0, .int .i64 0, .int .i64 0, .slice none 0 0, .slice none 0 0, .int .i64 0, .int .i64 0, .slice none 0 0, .int .i64 0, .slice none 0 0] : List Value).toArray 55)).setRow w5.heap.size cs5.toArray) = w6 at *
      by_cases h11 : x.fKind = 11
      ·have ht : (x.fKind == 11) = true := by simp [h11]
       obtain ⟨q1, q2⟩ := HEL.out h11
       rw [q1] at y1
       have HQ2 := Lib.hid q2
       have hw : IntKind.u64.wrap (R.begun + 1) = R.begun + 1 := by rw [IntKind.wrap_u64]; omega
       clear h11 q1 q2 HEL HNB
       go_wp2_with fail
       go_meet
       exact ⟨m + 1, O5, Y.2, by rw [HQ2.out], N5.out⟩
      ·have ht : (x.fKind == 11) = false := by simp [h11]
       have HQ2 := Lib.hid (HNB.out h11)
       clear h11 HEL HNB
       go_wp2_with fail
       go_meet
       exact ⟨m + 1, O5, Y.2, by rw [HQ2.out], N5.out⟩
    case rest =>
     clear N3 HD0 HWC RC HSX
     obtain ⟨m, O, R, rfl, NS⟩ := hcut
     have N := Lib.hid NS
     clear NS
     have hbg : 0 ≤ R.begun ∧ R.begun ≤ 1000 := ⟨N.out.a.is.ok.u64.1, by have := N.out.s.beg; have := N.out.mk1; omega⟩
     have hm := N.out.mk1
     obtain ⟨kv, hkv, hcat⟩ := last_at N.out.a.is
     obtain ⟨C, hC⟩ : ∃ C, lastC R = C := ⟨_, rfl⟩
     obtain ⟨G, hG⟩ : ∃ G, R.routes = G := ⟨_, rfl⟩
     rw [hC] at hkv hcat
     have HKV := Lib.hid hkv
     have HCT := Lib.hid hcat
     have HRL := fun w' O' (H' : IsRoot w' O' g m R) => run_look O' g m R [.int .i64 20, .int .i64 0, .int .u64 0, .int .i64 0, .int .i64 0, .int .i64 0, .bool false, .slice none 0 0, .slice none 0 0, .slice none 0 0, .slice none 0 0, .slice none 0 0, .slice none 0 0, .int .i64 0, .string ⟨#[]⟩, .slice none 0 0, .slice none 0 0, .int .i64 0, .int .i64 0, .string ⟨#[]⟩, .slice none 0 0, .bool false, .int .i64 0, .bool false, .string ⟨#[]⟩] w' H' rfl (by omega)
     have HRB := fun w' O' (H' : IsRoot w' O' g (m + 1) R) => run_begin O' g (m + 1) R [.int .i64 11, .int .i64 0, .int .u64 0, .int .i64 0, .int .i64 0, .int .i64 0, .bool false, .slice none 0 0, .slice none 0 0, .slice none 0 0, .slice none 0 0, .slice none 0 0, .slice none 0 0, .int .i64 0, .string ⟨#[]⟩, .slice none 0 0, .slice none 0 0, .int .i64 0, .int .i64 0, .string ⟨#[]⟩, .slice none 0 0, .bool false, .int .i64 0, .bool false, .string ⟨#[]⟩] w' H' rfl (by omega)
     rw [hC, hG] at HRL HRB
     have HRL := Lib.hid HRL
     have HRB := Lib.hid HRB
     have HGR : Hid ((bump R).routes = G) := hG
     have HC := Lib.hid (rsave_c O g m R wc N.out.a.is (N.out.save (by omega)))
     clear hkv hcat hC hG
     go_wp2_with fail
     go_fit HC.out
     rintro e w8 ⟨ys, a8, c8, hR8, -, rfl, own8, k8⟩
     have N8 := Lib.hid (N.out.nix k8)
     have OW8 := Lib.hid own8
     have HR8 := Lib.hid hR8
     have hs8 := k8.size
     have HOW : Hid (∀ i, O i → i < wc.heap.size) := N.out.a.is.lt
     clear own8 hR8 k8 HC N
     go_wp2_with fail
     go_fit (HRL.out w8 O N8.out.a.is)
     rintro e w9 hpost
     obtain ⟨cs9, O9, rfl, hr9, A9, k9, ho9⟩ := N8.out.a.run hpost
     obtain ⟨aP, cP, aQ, cQ, aT, cT, aX, cX, aS, cS, aU, cU, rfl, hcA, hrA⟩ := repL_open hr9
     obtain ⟨hst, row9, kV⟩ := boxed (P := Tryz.prog) (zs := [.int .i64 0, .int .u64 0, .int .i64 0, .bool false, .slice none 0 0, .slice none 0 0, .int .i64 0, .int .i64 0, .slice none 0 0, .slice none 0 0, .int .i64 0, .int .i64 0, .slice none 0 0, .int .i64 0, .slice none 0 0]) (cs := [.int .i64 0, .int .u64 0, .int .i64 R.begun, .bool false, .slice aP 0 cP, .slice aQ 0 cQ, .int .i64 C.fVersion, .int .i64 C.fNext, .slice aT C.fTables.length cT, .slice aX C.fIndexes.length cX, .int .i64 G.fEpoch, .int .i64 G.fBase, .slice aS G.fSpans.length cS, .int .i64 G.fMoving, .slice aU G.fCut.length cU]) S_Reply w9 rfl rfl rfl
     have N10 : Hid (NSta W ((w9.alloc (.cells ([.int .i64 0, .int .u64 0, .int .i64 0, .bool false, .slice none 0 0, .slice none 0 0, .int .i64 0, .int .i64 0, .slice none 0 0, .slice none 0 0, .int .i64 0, .int .i64 0, .slice none 0 0, .int .i64 0, .slice none 0 0] : List Value).toArray 55)).setRow w9.heap.size ([.int .i64 0, .int .u64 0, .int .i64 R.begun, .bool false, .slice aP 0 cP, .slice aQ 0 cQ, .int .i64 C.fVersion, .int .i64 C.fNext, .slice aT C.fTables.length cT, .slice aX C.fIndexes.length cX, .int .i64 G.fEpoch, .int .i64 G.fBase, .slice aS G.fSpans.length cS, .int .i64 G.fMoving, .slice aU G.fCut.length cU] : List Value).toArray) O9 g (m + 1) R (3 * k + 2)) := ⟨A9.nix kV, N8.out.s.more, N8.out.f, N8.out.sp, by omega⟩
     have HCA := Lib.hid (rGCatalog_lawful.nix hcA kV)
     have HRA := Lib.hid (rGRoutes_lawful.nix hrA kV)
     have R9 := Lib.hid row9
     have OW8 := Lib.hid (owned_keep (owned_keep OW8.out k9 (fun i hi h => by have := (OW8.out.lt i hi).1; have := HOW.out i h; omega)) kV (fun _ _ h => h))
     have HB9 : Hid (∀ i, O9 i → i ≠ w9.heap.size) := fun i hi e => by have := A9.is.lt i hi; omega
     have hs9 := k9.size
     clear hpost hr9 k9 ho9 A9 hcA hrA row9 kV N8 HRL
     generalize ((w9.alloc (.cells ([.int .i64 0, .int .u64 0, .int .i64 0, .bool false, .slice none 0 0, .slice none 0 0, .int .i64 0, .int .i64 0, .slice none 0 0, .slice none 0 0, .int .i64 0, .int .i64 0, .slice none 0 0, .int .i64 0, .slice none 0 0] : List Value).toArray 55)).setRow w9.heap.size ([.int .i64 0, .int .u64 0, .int .i64 R.begun, .bool false, .slice aP 0 cP, .slice aQ 0 cQ, .int .i64 C.fVersion, .int .i64 C.fNext, .slice aT C.fTables.length cT, .slice aX C.fIndexes.length cX, .int .i64 G.fEpoch, .int .i64 G.fBase, .slice aS G.fSpans.length cS, .int .i64 G.fMoving, .slice aU G.fCut.length cU] : List Value).toArray) = w10 at *
     have HC := Lib.hid (rsave_c O9 g (m + 1) R w10 N10.out.a.is (N10.out.save (by omega)))
     go_wp2_with fail
     clear hst
     generalize w9.heap.size = b9 at *
     go_fit HC.out
     rintro e w11 ⟨ys2, a11, c11, hR11, -, rfl, own11, k11⟩
     obtain rfl := hR11.uniq HR8.out
     have HB := bytes_c a11 a8 (saveR R ys2).length c11 (saveR R ys2).length c8 (saveR R ys2) (saveR R ys2) w11 rfl rfl (Lies.of_owned own11) ((Lies.of_owned OW8.out).keep k11 (fun _ _ h => h))
     rw [show decide (saveR R ys2 = saveR R ys2) = true from decide_eq_true rfl] at HB
     have HB := Lib.hid HB
     have N11 := Lib.hid (N10.out.nix k11)
     have HCA1 := Lib.hid (rGCatalog_lawful.nix HCA.out k11)
     have HRA1 := Lib.hid (rGRoutes_lawful.nix HRA.out k11)
     have R91 := Lib.hid (R9.out.keep k11 id)
     have y2 : w11.cell? ⟨b9, 2, none⟩ = some (.int .i64 R.begun) := R91.out.cell 2
     have hcv : IntKind.i64.wrap R.begun = R.begun := by rw [IntKind.wrap_i64]; omega
     have hs11 := k11.size
     clear hR11 own11 k11 HC N10 HCA HRA R9 OW8 HR8
     go_wp2_with fail
     go_fit HB.out
     rintro e w12 ⟨rfl, rfl⟩
     clear HB
     have HC := Lib.hid (HRB.out w11 O9 N11.out.a.is)
     clear HRB
     go_wp2_with fail
     clear y2
     go_fit HC.out
     rintro e w13 hpost
     obtain ⟨cs13, O13, rfl, hr13, A13, k13, ho13⟩ := N11.out.a.run hpost
     obtain ⟨bP, dP, bQ, dQ, bT, dT, bX, dX, bS, dS, bU, dU, rfl, hcB, hrB⟩ := repL_open hr13
     obtain ⟨hst, row10, kV⟩ := boxed (P := Tryz.prog) (zs := [.int .i64 0, .int .u64 0, .int .i64 0, .bool false, .slice none 0 0, .slice none 0 0, .int .i64 0, .int .i64 0, .slice none 0 0, .slice none 0 0, .int .i64 0, .int .i64 0, .slice none 0 0, .int .i64 0, .slice none 0 0]) (cs := [.int .i64 0, .int .u64 (R.begun + 1), .int .i64 0, .bool false, .slice bP 0 dP, .slice bQ 0 dQ, .int .i64 C.fVersion, .int .i64 C.fNext, .slice bT C.fTables.length dT, .slice bX C.fIndexes.length dX, .int .i64 G.fEpoch, .int .i64 G.fBase, .slice bS G.fSpans.length dS, .int .i64 G.fMoving, .slice bU G.fCut.length dU]) S_Reply w13 rfl rfl rfl
     have hcs := N11.out.s
     have N14 : Hid (NSta W ((w13.alloc (.cells ([.int .i64 0, .int .u64 0, .int .i64 0, .bool false, .slice none 0 0, .slice none 0 0, .int .i64 0, .int .i64 0, .slice none 0 0, .slice none 0 0, .int .i64 0, .int .i64 0, .slice none 0 0, .int .i64 0, .slice none 0 0] : List Value).toArray 55)).setRow w13.heap.size ([.int .i64 0, .int .u64 (R.begun + 1), .int .i64 0, .bool false, .slice bP 0 dP, .slice bQ 0 dQ, .int .i64 C.fVersion, .int .i64 C.fNext, .slice bT C.fTables.length dT, .slice bX C.fIndexes.length dX, .int .i64 G.fEpoch, .int .i64 G.fBase, .slice bS G.fSpans.length dS, .int .i64 G.fMoving, .slice bU G.fCut.length dU] : List Value).toArray) O13 g (m + 1 + 1) (bump R) (3 * k + 3)) := ⟨A13.nix kV, ⟨by show R.cats.length ≤ _; have := hcs.cats; omega, by show R.order.length ≤ _; have := hcs.ord; omega, by show R.begun + 1 ≤ _; have := hcs.beg; omega, hcs.rt, fun t p hp => by have := hcs.dom t p hp; exact ⟨this.1, by show t ≤ R.begun + 1; omega⟩⟩, ⟨N11.out.f.cats, N11.out.f.rts⟩, N11.out.sp, by omega⟩
     have HCB := Lib.hid (rGCatalog_lawful.nix hcB kV)
     have HRB := Lib.hid (rGRoutes_lawful.nix hrB kV)
     have R10 := Lib.hid row10
     have HCA2 := Lib.hid (rGCatalog_lawful.nix (rGCatalog_lawful.keep HCA1.out k13 (fun i hi h => hi.2.2 h)) kV)
     have HRA2 := Lib.hid (rGRoutes_lawful.nix (rGRoutes_lawful.keep HRA1.out k13 (fun i hi h => hi.2.2 h)) kV)
     have R92 := Lib.hid ((R91.out.keep k13 (fun h => HB9.out _ h rfl)).keep kV id)
     clear hpost hr13 k13 ho13 A13 hcB hrB row10 kV N11 HC HCA1 HRA1 R91 HB9 hcs
     generalize ((w13.alloc (.cells ([.int .i64 0, .int .u64 0, .int .i64 0, .bool false, .slice none 0 0, .slice none 0 0, .int .i64 0, .int .i64 0, .slice none 0 0, .slice none 0 0, .int .i64 0, .int .i64 0, .slice none 0 0, .int .i64 0, .slice none 0 0] : List Value).toArray 55)).setRow w13.heap.size ([.int .i64 0, .int .u64 (R.begun + 1), .int .i64 0, .bool false, .slice bP 0 dP, .slice bQ 0 dQ, .int .i64 C.fVersion, .int .i64 C.fNext, .slice bT C.fTables.length dT, .slice bX C.fIndexes.length dX, .int .i64 G.fEpoch, .int .i64 G.fBase, .slice bS G.fSpans.length dS, .int .i64 G.fMoving, .slice bU G.fCut.length dU] : List Value).toArray) = w14 at *
     have y6 : w14.cell? ⟨b9, 6, none⟩ = some (.int .i64 C.fVersion) := R92.out.cell 6
     have hw : IntKind.u64.wrap (R.begun + 1) = R.begun + 1 := by rw [IntKind.wrap_u64]; omega
     have HC := catAt_c O13 g (m + 1 + 1) (bump R) kv C w14 N14.out.a.is HCT.out
     rw [← HKV.out] at HC
     have HC := Lib.hid HC
     go_wp2_with fail
     clear hst y6 hw
     generalize w13.heap.size = b10 at *
     go_fit HC.out
     rintro e w15 ⟨cs15, rfl, hr15, k15⟩
     have hr15' := hr15
     obtain ⟨fT, hT, fX, hX, rfl, -⟩ := rGCatalog_open hr15
     obtain ⟨hst, row11, kV⟩ := boxed (P := Tryz.prog) (zs := [.int .i64 0, .int .i64 0, .slice none 0 0, .slice none 0 0]) (cs := [.int .i64 C.fVersion, .int .i64 C.fNext, .slice fT C.fTables.length hT, .slice fX C.fIndexes.length hX]) S_Catalog w15 rfl rfl rfl
     have kW := k15.trans kV
     have N16 := Lib.hid (N14.out.nix kW)
     have HCD := Lib.hid (rGCatalog_lawful.nix hr15' kV)
     have HCB1 := Lib.hid (rGCatalog_lawful.nix HCB.out kW)
     have HRB1 := Lib.hid (rGRoutes_lawful.nix HRB.out kW)
     have HCA3 := Lib.hid (rGCatalog_lawful.nix HCA2.out kW)
     have HRA3 := Lib.hid (rGRoutes_lawful.nix HRA2.out kW)
     have R93 := Lib.hid (R92.out.keep kW id)
     have R101 := Lib.hid (R10.out.keep kW id)
     have R11 := Lib.hid row11
     clear hr15 hr15' row11 kV k15 kW N14 HC HCB HRB HCA2 HRA2 R92 R10 HCT HKV
     generalize ((w15.alloc (.cells ([.int .i64 0, .int .i64 0, .slice none 0 0, .slice none 0 0] : List Value).toArray 50)).setRow w15.heap.size ([.int .i64 C.fVersion, .int .i64 C.fNext, .slice fT C.fTables.length hT, .slice fX C.fIndexes.length hX] : List Value).toArray) = w16 at *
     go_upto_region 21 with fail
     clear hst
     generalize w15.heap.size = b11 at *
     have HSS : Hid (∀ w', Keep Nix w16 w' → w'.cell? ⟨b10, 1, none⟩ = some (.int .u64 (R.begun + 1)) ∧ (wholeSem 50 (.pointer (some ⟨b9, 6, none⟩))).run Tryz.prog w' = .ok (.value (.agg ([.int .i64 C.fVersion, .int .i64 C.fNext, .slice aT C.fTables.length cT, .slice aX C.fIndexes.length cX] : List Value).toArray)) w' ∧ (wholeSem 50 (.pointer (some ⟨b10, 6, none⟩))).run Tryz.prog w' = .ok (.value (.agg ([.int .i64 C.fVersion, .int .i64 C.fNext, .slice bT C.fTables.length dT, .slice bX C.fIndexes.length dX] : List Value).toArray)) w' ∧ (wholeSem 53 (.pointer (some ⟨b9, 10, none⟩))).run Tryz.prog w' = .ok (.value (.agg ([.int .i64 G.fEpoch, .int .i64 G.fBase, .slice aS G.fSpans.length cS, .int .i64 G.fMoving, .slice aU G.fCut.length cU] : List Value).toArray)) w' ∧ (wholeSem 53 (.pointer (some ⟨b10, 10, none⟩))).run Tryz.prog w' = .ok (.value (.agg ([.int .i64 G.fEpoch, .int .i64 G.fBase, .slice bS G.fSpans.length dS, .int .i64 G.fMoving, .slice bU G.fCut.length dU] : List Value).toArray)) w' ∧ (wholeSem 50 (.pointer (some ⟨b11, 0, none⟩))).run Tryz.prog w' = .ok (.value (.agg ([.int .i64 C.fVersion, .int .i64 C.fNext, .slice fT C.fTables.length hT, .slice fX C.fIndexes.length hX] : List Value).toArray)) w') := fun w' k' =>
      ⟨(R101.out.keep k' id).cell 1, sub_ld (pre := [.int .i64 0, .int .u64 0, .int .i64 R.begun, .bool false, .slice aP 0 cP, .slice aQ 0 cQ]) (mid := [.int .i64 C.fVersion, .int .i64 C.fNext, .slice aT C.fTables.length cT, .slice aX C.fIndexes.length cX]) (post := [.int .i64 G.fEpoch, .int .i64 G.fBase, .slice aS G.fSpans.length cS, .int .i64 G.fMoving, .slice aU G.fCut.length cU]) S_Catalog (R93.out.keep k' id) rfl, sub_ld (pre := [.int .i64 0, .int .u64 (R.begun + 1), .int .i64 0, .bool false, .slice bP 0 dP, .slice bQ 0 dQ]) (mid := [.int .i64 C.fVersion, .int .i64 C.fNext, .slice bT C.fTables.length dT, .slice bX C.fIndexes.length dX]) (post := [.int .i64 G.fEpoch, .int .i64 G.fBase, .slice bS G.fSpans.length dS, .int .i64 G.fMoving, .slice bU G.fCut.length dU]) S_Catalog (R101.out.keep k' id) rfl, sub_ld (pre := [.int .i64 0, .int .u64 0, .int .i64 R.begun, .bool false, .slice aP 0 cP, .slice aQ 0 cQ, .int .i64 C.fVersion, .int .i64 C.fNext, .slice aT C.fTables.length cT, .slice aX C.fIndexes.length cX]) (mid := [.int .i64 G.fEpoch, .int .i64 G.fBase, .slice aS G.fSpans.length cS, .int .i64 G.fMoving, .slice aU G.fCut.length cU]) (post := []) S_Routes (R93.out.keep k' id) rfl, sub_ld (pre := [.int .i64 0, .int .u64 (R.begun + 1), .int .i64 0, .bool false, .slice bP 0 dP, .slice bQ 0 dQ, .int .i64 C.fVersion, .int .i64 C.fNext, .slice bT C.fTables.length dT, .slice bX C.fIndexes.length dX]) (mid := [.int .i64 G.fEpoch, .int .i64 G.fBase, .slice bS G.fSpans.length dS, .int .i64 G.fMoving, .slice bU G.fCut.length dU]) (post := []) S_Routes (R101.out.keep k' id) rfl, Whole.row S_Catalog rfl (R11.out.keep k' id)⟩
     have KK := Lib.hid ((Keep.refl Nix w16).drew)
     refine wp_region_held_drew (S := (fun w' => w'.cell? ⟨b10, 1, none⟩ = some (.int .u64 (R.begun + 1)) ∧ (wholeSem 50 (.pointer (some ⟨b9, 6, none⟩))).run Tryz.prog w' = .ok (.value (.agg ([.int .i64 C.fVersion, .int .i64 C.fNext, .slice aT C.fTables.length cT, .slice aX C.fIndexes.length cX] : List Value).toArray)) w' ∧ (wholeSem 50 (.pointer (some ⟨b10, 6, none⟩))).run Tryz.prog w' = .ok (.value (.agg ([.int .i64 C.fVersion, .int .i64 C.fNext, .slice bT C.fTables.length dT, .slice bX C.fIndexes.length dX] : List Value).toArray)) w' ∧ (wholeSem 53 (.pointer (some ⟨b9, 10, none⟩))).run Tryz.prog w' = .ok (.value (.agg ([.int .i64 G.fEpoch, .int .i64 G.fBase, .slice aS G.fSpans.length cS, .int .i64 G.fMoving, .slice aU G.fCut.length cU] : List Value).toArray)) w' ∧ (wholeSem 53 (.pointer (some ⟨b10, 10, none⟩))).run Tryz.prog w' = .ok (.value (.agg ([.int .i64 G.fEpoch, .int .i64 G.fBase, .slice bS G.fSpans.length dS, .int .i64 G.fMoving, .slice bU G.fCut.length dU] : List Value).toArray)) w' ∧ (wholeSem 50 (.pointer (some ⟨b11, 0, none⟩))).run Tryz.prog w' = .ok (.value (.agg ([.int .i64 C.fVersion, .int .i64 C.fNext, .slice fT C.fTables.length hT, .slice fX C.fIndexes.length hX] : List Value).toArray)) w')) (by kernel_rfl) ((HSS.out _ KK.out)) (fun hHeld => ?_)
     generalize w16.drew = wd at *
     refine tk 0 (v := ?_) rfl ?_ hHeld ?_
     rotate_left
     ·intro w' hSw
      (try dsimp only at hSw)
      try simp only [zz1, zz2, zz3]
      go_simp
      try with_reducible rfl
     try simp only [Act.put, zz1, zz2, zz3, zz4, zz5, zz6]
     refine tk 1 (v := ?_) rfl ?_ hHeld ?_
     rotate_left
     ·intro w' hSw
      (try dsimp only at hSw)
      try simp only [zz1, zz2, zz3]
      go_simp
      try with_reducible rfl
     try simp only [Act.put, zz1, zz2, zz3, zz4, zz5, zz6]
     refine tk 2 (v := ?_) rfl ?_ hHeld ?_
     rotate_left
     ·intro w' hSw
      (try dsimp only at hSw)
      try simp only [zz1, zz2, zz3]
      go_simp
      try with_reducible rfl
     try simp only [Act.put, zz1, zz2, zz3, zz4, zz5, zz6]
     refine tk 3 (v := ?_) rfl ?_ hHeld ?_
     rotate_left
     ·intro w' hSw
      (try dsimp only at hSw)
      try simp only [zz1, zz2, zz3]
      go_simp
      try with_reducible rfl
     try simp only [Act.put, zz1, zz2, zz3, zz4, zz5, zz6]
     refine tk 4 (v := ?_) rfl ?_ hHeld ?_
     rotate_left
     ·intro w' hSw
      (try dsimp only at hSw)
      try simp only [zz1, zz2, zz3]
      go_simp
      try with_reducible rfl
     try simp only [Act.put, zz1, zz2, zz3, zz4, zz5, zz6]
     refine tk 5 (v := ?_) rfl ?_ hHeld ?_
     rotate_left
     ·intro w' hSw
      (try dsimp only at hSw)
      try simp only [zz1, zz2, zz3]
      go_simp
      try with_reducible rfl
     try simp only [Act.put, zz1, zz2, zz3, zz4, zz5, zz6]
     refine tk 6 (v := ?_) rfl ?_ hHeld ?_
     rotate_left
     ·intro w' hSw
      (try dsimp only at hSw)
      try simp only [zz1, zz2, zz3]
      go_simp
      try with_reducible rfl
     try simp only [Act.put, zz1, zz2, zz3, zz4, zz5, zz6]
     refine tk 7 (v := ?_) rfl ?_ hHeld ?_
     rotate_left
     ·intro w' hSw
      (try dsimp only at hSw)
      try simp only [zz1, zz2, zz3]
      go_simp
      try with_reducible rfl
     try simp only [Act.put, zz1, zz2, zz3, zz4, zz5, zz6]
     refine tk 8 (v := ?_) rfl ?_ hHeld ?_
     rotate_left
     ·intro w' hSw
      (try dsimp only at hSw)
      try simp only [zz1, zz2, zz3]
      go_simp
      try with_reducible rfl
     try simp only [Act.put, zz1, zz2, zz3, zz4, zz5, zz6]
     refine wpAnyH_ready (rs := [9]) (by kernel_rfl) (by simp) ?_
     refine AllReadyH.cons rfl (fun K hK => ?_) AllReadyH.nil
     rw [if_pos (by kernel_rfl)]
     go_simp
     go_fit (cmp_sCatalog_c _ C [.int .i64 C.fVersion, .int .i64 C.fNext, .slice aT C.fTables.length cT, .slice aX C.fIndexes.length cX] [.int .i64 C.fVersion, .int .i64 C.fNext, .slice bT C.fTables.length dT, .slice bX C.fIndexes.length dX] (rGCatalog_lawful.nix HCA3.out KK.out) (rGCatalog_lawful.nix HCB1.out KK.out))
     rintro e w18 ⟨rfl, k18⟩
     have KN := Lib.hid (KK.out.trans k18)
     clear KK k18
     have KK := KN
     clear KN
     go_wp2_with fail
     refine hK.out _ _ ((HSS.out _ KK.out)) (fun hHeld => ?_)
     clear hK K
     try simp only [Act.put, zz1, zz2, zz3, zz4, zz5, zz6]
     refine tk 10 (v := ?_) rfl ?_ hHeld ?_
     rotate_left
     ·intro w' hSw
      (try dsimp only at hSw)
      try simp only [zz1, zz2, zz3]
      go_simp
      try with_reducible rfl
     try simp only [Act.put, zz1, zz2, zz3, zz4, zz5, zz6]
     refine tk 11 (v := ?_) rfl ?_ hHeld ?_
     rotate_left
     ·intro w' hSw
      (try dsimp only at hSw)
      try simp only [zz1, zz2, zz3]
      go_simp
      try with_reducible rfl
     try simp only [Act.put, zz1, zz2, zz3, zz4, zz5, zz6]
     refine tk 12 (v := ?_) rfl ?_ hHeld ?_
     rotate_left
     ·intro w' hSw
      (try dsimp only at hSw)
      try simp only [zz1, zz2, zz3]
      go_simp
      try with_reducible rfl
     try simp only [Act.put, zz1, zz2, zz3, zz4, zz5, zz6]
     refine tk 13 (v := ?_) rfl ?_ hHeld ?_
     rotate_left
     ·intro w' hSw
      (try dsimp only at hSw)
      try simp only [zz1, zz2, zz3]
      go_simp
      try with_reducible rfl
     try simp only [Act.put, zz1, zz2, zz3, zz4, zz5, zz6]
     refine tk 14 (v := ?_) rfl ?_ hHeld ?_
     rotate_left
     ·intro w' hSw
      (try dsimp only at hSw)
      try simp only [zz1, zz2, zz3]
      go_simp
      try with_reducible rfl
     try simp only [Act.put, zz1, zz2, zz3, zz4, zz5, zz6]
     refine tk 15 (v := ?_) rfl ?_ hHeld ?_
     rotate_left
     ·intro w' hSw
      (try dsimp only at hSw)
      try simp only [zz1, zz2, zz3]
      go_simp
      try with_reducible rfl
     try simp only [Act.put, zz1, zz2, zz3, zz4, zz5, zz6]
     refine tk 16 (v := ?_) rfl ?_ hHeld ?_
     rotate_left
     ·intro w' hSw
      (try dsimp only at hSw)
      try simp only [zz1, zz2, zz3]
      go_simp
      try with_reducible rfl
     try simp only [Act.put, zz1, zz2, zz3, zz4, zz5, zz6]
     refine wpAnyH_ready (rs := [17]) (by kernel_rfl) (by simp) ?_
     refine AllReadyH.cons rfl (fun K hK => ?_) AllReadyH.nil
     rw [if_pos (by kernel_rfl)]
     go_simp
     go_fit (sRoutes_c _ G [.int .i64 G.fEpoch, .int .i64 G.fBase, .slice aS G.fSpans.length cS, .int .i64 G.fMoving, .slice aU G.fCut.length cU] [.int .i64 G.fEpoch, .int .i64 G.fBase, .slice bS G.fSpans.length dS, .int .i64 G.fMoving, .slice bU G.fCut.length dU] (rGRoutes_lawful.nix HRA3.out KK.out) (rGRoutes_lawful.nix HRB1.out KK.out))
     rintro e w18 ⟨rfl, k18⟩
     have KN := Lib.hid (KK.out.trans k18)
     clear KK k18
     have KK := KN
     clear KN
     go_wp2_with fail
     refine hK.out _ _ ((HSS.out _ KK.out)) (fun hHeld => ?_)
     clear hK K
     try simp only [Act.put, zz1, zz2, zz3, zz4, zz5, zz6]
     refine tk 18 (v := ?_) rfl ?_ hHeld ?_
     rotate_left
     ·intro w' hSw
      (try dsimp only at hSw)
      try simp only [zz1, zz2, zz3]
      go_simp
      try with_reducible rfl
     try simp only [Act.put, zz1, zz2, zz3, zz4, zz5, zz6]
     refine tk 19 (v := ?_) rfl ?_ hHeld ?_
     rotate_left
     ·intro w' hSw
      (try dsimp only at hSw)
      try simp only [zz1, zz2, zz3]
      go_simp
      try with_reducible rfl
     try simp only [Act.put, zz1, zz2, zz3, zz4, zz5, zz6]
     refine tk 20 (v := ?_) rfl ?_ hHeld ?_
     rotate_left
     ·intro w' hSw
      (try dsimp only at hSw)
      try simp only [zz1, zz2, zz3]
      go_simp
      try with_reducible rfl
     try simp only [Act.put, zz1, zz2, zz3, zz4, zz5, zz6]
     refine tk 21 (v := ?_) rfl ?_ hHeld ?_
     rotate_left
     ·intro w' hSw
      (try dsimp only at hSw)
      try simp only [zz1, zz2, zz3]
      go_simp
      try with_reducible rfl
     try simp only [Act.put, zz1, zz2, zz3, zz4, zz5, zz6]
     refine tk 22 (v := ?_) rfl ?_ hHeld ?_
     rotate_left
     ·intro w' hSw
      (try dsimp only at hSw)
      try simp only [zz1, zz2, zz3]
      go_simp
      try with_reducible rfl
     try simp only [Act.put, zz1, zz2, zz3, zz4, zz5, zz6]
     refine tk 23 (v := ?_) rfl ?_ hHeld ?_
     rotate_left
     ·intro w' hSw
      (try dsimp only at hSw)
      try simp only [zz1, zz2, zz3]
      go_simp
      try with_reducible rfl
     try simp only [Act.put, zz1, zz2, zz3, zz4, zz5, zz6]
     refine tk 24 (v := ?_) rfl ?_ hHeld ?_
     rotate_left
     ·intro w' hSw
      (try dsimp only at hSw)
      try simp only [zz1, zz2, zz3]
      go_simp
      try with_reducible rfl
     try simp only [Act.put, zz1, zz2, zz3, zz4, zz5, zz6]
     refine tk 25 (v := ?_) rfl ?_ hHeld ?_
     rotate_left
     ·intro w' hSw
      (try dsimp only at hSw)
      try simp only [zz1, zz2, zz3]
      go_simp
      try with_reducible rfl
     try simp only [Act.put, zz1, zz2, zz3, zz4, zz5, zz6]
     refine tk 26 (v := ?_) rfl ?_ hHeld ?_
     rotate_left
     ·intro w' hSw
      (try dsimp only at hSw)
      try simp only [zz1, zz2, zz3]
      go_simp
      try with_reducible rfl
     try simp only [Act.put, zz1, zz2, zz3, zz4, zz5, zz6]
     refine tk 27 (v := ?_) rfl ?_ hHeld ?_
     rotate_left
     ·intro w' hSw
      (try dsimp only at hSw)
      try simp only [zz1, zz2, zz3]
      go_simp
      try with_reducible rfl
     try simp only [Act.put, zz1, zz2, zz3, zz4, zz5, zz6]
     refine wpAnyH_ready (rs := [28]) (by kernel_rfl) (by simp) ?_
     refine AllReadyH.cons rfl (fun K hK => ?_) AllReadyH.nil
     rw [if_pos (by kernel_rfl)]
     go_simp
     go_fit (cmp_sCatalog_c _ C [.int .i64 C.fVersion, .int .i64 C.fNext, .slice fT C.fTables.length hT, .slice fX C.fIndexes.length hX] [.int .i64 C.fVersion, .int .i64 C.fNext, .slice aT C.fTables.length cT, .slice aX C.fIndexes.length cX] (rGCatalog_lawful.nix HCD.out KK.out) (rGCatalog_lawful.nix HCA3.out KK.out))
     rintro e w18 ⟨rfl, k18⟩
     have KN := Lib.hid (KK.out.trans k18)
     clear KK k18
     have KK := KN
     clear KN
     go_wp2_with fail
     refine hK.out _ _ ((HSS.out _ KK.out)) (fun hHeld => ?_)
     clear hK K
     try simp only [Act.put, zz1, zz2, zz3, zz4, zz5, zz6]
     refine tk 29 (v := ?_) rfl ?_ hHeld ?_
     rotate_left
     ·intro w' hSw
      (try dsimp only at hSw)
      try simp only [zz1, zz2, zz3]
      go_simp
      try with_reducible rfl
     try simp only [Act.put, zz1, zz2, zz3, zz4, zz5, zz6]
     refine tk 30 (v := ?_) rfl ?_ hHeld ?_
     rotate_left
     ·intro w' hSw
      (try dsimp only at hSw)
      try simp only [zz1, zz2, zz3]
      go_simp
      try with_reducible rfl
     try simp only [Act.put, zz1, zz2, zz3, zz4, zz5, zz6]
     refine tk 31 (v := ?_) rfl ?_ hHeld ?_
     rotate_left
     ·intro w' hSw
      (try dsimp only at hSw)
      try simp only [zz1, zz2, zz3]
      go_simp
      try with_reducible rfl
     try simp only [Act.put, zz1, zz2, zz3, zz4, zz5, zz6]
     refine tk 32 (v := ?_) rfl ?_ hHeld ?_
     rotate_left
     ·intro w' hSw
      (try dsimp only at hSw)
      try simp only [zz1, zz2, zz3]
      go_simp
      try with_reducible rfl
     try simp only [Act.put, zz1, zz2, zz3, zz4, zz5, zz6]
     refine tk 34 (v := ?_) rfl ?_ hHeld ?_
     rotate_left
     ·intro w' hSw
      (try dsimp only at hSw)
      try simp only [zz1, zz2, zz3]
      go_simp
      try with_reducible rfl
     try simp only [Act.put, zz1, zz2, zz3, zz4, zz5, zz6]
     refine tk 35 (v := ?_) rfl ?_ hHeld ?_
     rotate_left
     ·intro w' hSw
      (try dsimp only at hSw)
      try simp only [zz1, zz2, zz3]
      go_simp
      try with_reducible rfl
     try simp only [Act.put, zz1, zz2, zz3, zz4, zz5, zz6]
     refine wpAnyH_ready (rs := [33]) (by kernel_rfl) (by simp) ?_
     refine AllReadyH.cons rfl (fun K hK => ?_) AllReadyH.nil
     rw [if_pos (by kernel_rfl)]
     go_simp
     go_fit (routes_c O13 g (m + 1 + 1) (bump R) _ (N16.out.a.is.nix KK.out))
     rintro e w17 ⟨cr, rfl, hcr, k17⟩
     have KN := Lib.hid (KK.out.trans k17)
     rw [HGR.out] at hcr
     have HCR := Lib.hid hcr
     clear KK k17 hcr
     have KK := KN
     clear KN
     go_wp2_with fail
     refine hK.out _ _ ((HSS.out _ KK.out)) (fun hHeld => ?_)
     clear hK K
     try simp only [Act.put, zz1, zz2, zz3, zz4, zz5, zz6]
     refine wpAnyH_ready (rs := [36]) (by kernel_rfl) (by simp) ?_
     refine AllReadyH.cons rfl (fun K hK => ?_) AllReadyH.nil
     rw [if_pos (by kernel_rfl)]
     go_simp
     go_fit (sRoutes_c _ G cr [.int .i64 G.fEpoch, .int .i64 G.fBase, .slice aS G.fSpans.length cS, .int .i64 G.fMoving, .slice aU G.fCut.length cU] HCR.out (rGRoutes_lawful.nix HRA3.out KK.out))
     rintro e w18 ⟨rfl, k18⟩
     have KN := Lib.hid (KK.out.trans k18)
     clear KK k18
     have KK := KN
     clear KN
     go_wp2_with fail
     refine hK.out _ _ ((HSS.out _ KK.out)) (fun hHeld => ?_)
     clear hK K
     try simp only [Act.put, zz1, zz2, zz3, zz4, zz5, zz6]
     refine tk 37 (v := ?_) rfl ?_ hHeld ?_
     rotate_left
     ·intro w' hSw
      (try dsimp only at hSw)
      try simp only [zz1, zz2, zz3]
      go_simp
      try with_reducible rfl
     try simp only [Act.put, zz1, zz2, zz3, zz4, zz5, zz6]
     refine tk 38 (v := ?_) rfl ?_ hHeld ?_
     rotate_left
     ·intro w' hSw
      (try dsimp only at hSw)
      try simp only [zz1, zz2, zz3]
      go_simp
      try with_reducible rfl
     try simp only [Act.put, zz1, zz2, zz3, zz4, zz5, zz6]
     refine wpAnyH_done (by kernel_rfl) ?_ _
     have NF := Lib.hid (N16.out.nix KK.out)
     clear hHeld KK HSS N16 HCD HCB1 HRB1 HCA3 HRA3 R93 R101 R11 HCR
     go_wp2_with fail
     go_roundw
     case rel => exact ⟨k + 1, m + 1 + 1, O13, bump R, rfl, by go_num, by omega, by omega, NF.out.more (by omega)⟩
     case measure => simp [intOf]; omega
   ·have hi1 : (k : Int) < (ls.length : Int) := by omega
    have hi2 : ¬ (k : Int) < 60 := by omega
    go_wp2_with fail
    go_ret
    exact ⟨rfl, N.out.a.kept⟩
  ·have hi1 : ¬ (k : Int) < (ls.length : Int) := by omega
   go_wp2_with fail
   go_ret
   exact ⟨rfl, N.out.a.kept⟩
end
end Go.Proofs.YtibaehlfpgipfaaGreat
