/- SCHEMA: the law SchemaLife, its second loop. Printed by mac.py. -/
import Derived.Test.YtfogbbnfedcldaaSchFb
namespace Go.Proofs.Ytfogbbnfedcldaa
open Go.RowKit

namespace schemaLife

theorem nextF_i64' (s : Int) : isI64 (nextF s) := nextF_i64 s
section
attribute [local go_sem ↓] ldz_Catalog stz_Catalog ldz_Index stz_Index
set_option maxRecDepth 100000 in
set_option maxHeartbeats 32000000 in
theorem LIFE2 (w : World) (g5 g11 g17 : Nat) (c : GCatalog) (x z1 : GIndex) (aI : Option Addr) (cI : Nat) (csm0 csy0 : List Value) (x0 x1 x2 x3 x4 x6 x7 x8 x9 x10 x12 x13 x14 x15 x16 x18 x19 x20 x22 x23 x24 x25 x26 x27 x28 x29 x30 x31 x32 x33 x34 x35 x36 x37 x38 x39 x40 x41 x42 x43 x44 x45 x46 x47 x48 x49 x50 x51 x52 x53 x54 x55 x56 x57 x58 x59 x60 x61 x62 x63 x64 x65 x66 x67 x68 x69 x70 x71 x72 x73 x74 x75 x76 x77 x78 x79 x80 x81 x82 x83 x84 x85 x86 x87 x88 x89 x90 x91 x92 x93 x94 x95 x96 x97 x98 x99 x100 x101 x102 x103 x104 x105 x106 x107 x108 x109 x110 x111 x112 x113 x114 x115 x116 x117 x118 x119 x120 x121 x122 x123 x124 x125 x126 x127 x128 x129 x130 x131 x132 x133 x134 x135 x136 x137 x138 x139 x140 x141 x142 x143 x144 x145 x146 x147 x148 x149 x150 x151 x152 x153 x154 x155 x156 x157 x158 x159 x160 x161 x162 x163 x164 x165 x166 x167 x168 x169 x170 x171 x172 x173 x174 x175 x176 x177 x178 x179 x180 x181 x182 x183 x184 x185 x186 x187 x188 x189 x190 x191 x192 x193 x194 x195 x196 x197 x198 x199 x200 x201 x202 x203 x204 x205 x206 x207 x208 x209 x210 x211 x212 x213 x214 x215 x216 x217 x218 x219 x220 x221 x222 x223 x224 x225 x226 x227 x228 x229 x230 x231 x232 x233 x234 x235 x236 x237 x238 x239 x240 x241 x242 : Value)
    (rowX : RowIs w g5 37 [.int .i64 x.fID, .int .i64 x.fTable, .string (strB x.fName), .slice aI x.fColumns.length cI, .bool x.fUnique, .int .i64 x.fState, .bool x.fBad]) (rowN : RowIs w g17 25 csm0) (gn : rGCatalog w (fun b => b < w.heap.size ∧ b ≠ g11 ∧ b ≠ g17) csm0 (MC c z1 0)) (rowY : RowIs w g11 37 csy0) (hy : csy0.length = 7)
    (o1 : g5 < g11) (o2 : g11 < g17) (hnm : Hid (z1.fName = x.fName)) (hv1 : Hid (∀ k : Nat, k ≤ 3 → (MC c z1 k).fVersion ≤ 4611686018427387904))
    (hR : Hid (∀ k : Nat, k < 3 → stepF (MC c z1 k) z1.fID (5 + k) (nextF (5 + k)) false = (MC c z1 (k + 1), 0) ∧ firstB (fun o => decide (o.fName = z1.fName)) (MC c z1 k).fIndexes zIdx = (endX z1 (5 + k) false, true))) (hsm : Hid (∀ k, smallC (MC c z1 k)))
    (Q : Exit → Act → World → Prop)
    (hQ : Shut (∀ (u8 u12 u21 u22 u23 u197 u198 u199 u200 u201 u202 u203 u204 u205 u206 u207 u208 u209 u210 u211 u212 u213 u214 u215 u216 u217 u218 u219 u220 u221 u222 u223 u224 u225 : Value) (csm : List Value) (w' : World), RowIs w' g17 25 csm → rGCatalog w' (fun b => b < w'.heap.size ∧ b ≠ g11 ∧ b ≠ g17) csm (MC c z1 3) → Keep (fun b => b = g11 ∨ b = g17) w w' → Q (.exit 2) ⟨#[x0, x1, x2, x3, x4, .pointer (some ⟨g5, 0, none⟩), x6, x7, u8, x9, x10, .pointer (some ⟨g11, 0, none⟩), u12, x13, x14, x15, x16, .pointer (some ⟨g17, 0, none⟩), x18, x19, x20, u21, u22, u23, x24, x25, x26, x27, x28, x29, x30, x31, x32, x33, x34, x35, x36, x37, x38, x39, x40, x41, x42, x43, x44, x45, x46, x47, x48, x49, x50, x51, x52, x53, x54, x55, x56, x57, x58, x59, x60, x61, x62, x63, x64, x65, x66, x67, x68, x69, x70, x71, x72, x73, x74, x75, x76, x77, x78, x79, x80, x81, x82, x83, x84, x85, x86, x87, x88, x89, x90, x91, x92, x93, x94, x95, x96, x97, x98, x99, x100, x101, x102, x103, x104, x105, x106, x107, x108, x109, x110, x111, x112, x113, x114, x115, x116, x117, x118, x119, x120, x121, x122, x123, x124, x125, x126, x127, x128, x129, x130, x131, x132, x133, x134, x135, x136, x137, x138, x139, x140, x141, x142, x143, x144, x145, x146, x147, x148, x149, x150, x151, x152, x153, x154, x155, x156, x157, x158, x159, x160, x161, x162, x163, x164, x165, x166, x167, x168, x169, x170, x171, x172, x173, x174, x175, x176, x177, x178, x179, x180, x181, x182, x183, x184, x185, x186, x187, x188, x189, x190, x191, x192, x193, x194, x195, x196, u197, u198, u199, u200, u201, u202, u203, u204, u205, u206, u207, u208, u209, u210, u211, u212, u213, u214, u215, u216, u217, u218, u219, u220, u221, u222, u223, u224, u225, x226, x227, x228, x229, x230, x231, x232, x233, x234, x235, x236, x237, x238, x239, x240, x241, x242], []⟩ w')) :
    loop2.wp Try.prog Q ⟨#[x0, x1, x2, x3, x4, .pointer (some ⟨g5, 0, none⟩), x6, x7, x8, x9, x10, .pointer (some ⟨g11, 0, none⟩), x12, x13, x14, x15, x16, .pointer (some ⟨g17, 0, none⟩), x18, x19, x20, .int .i64 0, x22, x23, x24, x25, x26, x27, x28, x29, x30, x31, x32, x33, x34, x35, x36, x37, x38, x39, x40, x41, x42, x43, x44, x45, x46, x47, x48, x49, x50, x51, x52, x53, x54, x55, x56, x57, x58, x59, x60, x61, x62, x63, x64, x65, x66, x67, x68, x69, x70, x71, x72, x73, x74, x75, x76, x77, x78, x79, x80, x81, x82, x83, x84, x85, x86, x87, x88, x89, x90, x91, x92, x93, x94, x95, x96, x97, x98, x99, x100, x101, x102, x103, x104, x105, x106, x107, x108, x109, x110, x111, x112, x113, x114, x115, x116, x117, x118, x119, x120, x121, x122, x123, x124, x125, x126, x127, x128, x129, x130, x131, x132, x133, x134, x135, x136, x137, x138, x139, x140, x141, x142, x143, x144, x145, x146, x147, x148, x149, x150, x151, x152, x153, x154, x155, x156, x157, x158, x159, x160, x161, x162, x163, x164, x165, x166, x167, x168, x169, x170, x171, x172, x173, x174, x175, x176, x177, x178, x179, x180, x181, x182, x183, x184, x185, x186, x187, x188, x189, x190, x191, x192, x193, x194, x195, x196, x197, x198, x199, x200, x201, x202, x203, x204, x205, x206, x207, x208, x209, x210, x211, x212, x213, x214, x215, x216, x217, x218, x219, x220, x221, x222, x223, x224, x225, x226, x227, x228, x229, x230, x231, x232, x233, x234, x235, x236, x237, x238, x239, x240, x241, x242], []⟩ w := by
  conv => arg 2; whnf
  conv => arg 4; dsimp only
  go_loopw [21] (fun i wr => ∃ (k : Nat) (csn csy : List Value), k ≤ 3 ∧ i = .int .i64 k ∧ RowIs wr g17 25 csn ∧ rGCatalog wr (fun b => b < wr.heap.size ∧ b ≠ g11 ∧ b ≠ g17) csn (MC c z1 k) ∧ RowIs wr g11 37 csy ∧ Hid (csy.length = 7) ∧ Keep (fun b => b = g11 ∨ b = g17) w wr) (fun i _ => 3 - (intOf i).toNat)
  case atStart => exact ⟨0, csm0, csy0, by omega, rfl, rowN, gn, rowY, hy, Keep.refl _ _⟩
  case round =>
    clear rowN gn rowY hy
    obtain ⟨k, csn, csy, hk, rfl, rowN, gn, rowY, hy, kk⟩ := hrel
    replace rowX := rowX.keep kk (by omega)
    rcases Nat.lt_or_ge k 3 with hlt | hlt
    · have hlt' : (k : Int) < 3 := by omega
      obtain ⟨hstep0, hf⟩ := hR.out k hlt
      have hsn := Lib.hid (hsm.out k)
      have hvn := Lib.hid (hv1.out k (by omega))
      generalize (5 + (k : Int)) = s at *
      generalize MC c z1 k = n at *
      obtain ⟨m, HM⟩ : ∃ m, Hid (MC c z1 (k + 1) = m) := ⟨_, rfl⟩
      rw [HM.out] at hstep0
      have hstep := Lib.hid hstep0
      clear hstep0
      have htt : Hid (isI64 (nextF s)) := nextF_i64 s
      obtain ⟨bT, dT, bX, dX, rfl, -⟩ := rGCatalog_open gn
      have hy0 : g11 < wr.heap.size := rowY.lt
      have ldN := Whole.run (P := Try.prog) S_Catalog rfl rowN
      have x2 := rowX.cell 2
      (try simp only [List.getElem?_cons_succ] at x2); (try simp only [List.getElem?_cons_zero] at x2)
      have HC := sIndex_c n _ x.fName _ gn hsn.out.2.1
      rw [← hnm.out, hf] at HC
      have HCC := Lib.hid HC
      clear HC hf
      go_wp2_with fail
      clear ldN x2
      rw [← hnm.out]
      go_fit HCC.out
      rintro e w5 ⟨csy2, rfl, gy, k5⟩
      clear HCC
      obtain ⟨aY2, cY2, hcs, -⟩ := fGIndex_open gy
      replace hcs : csy2 = [.int .i64 z1.fID, .int .i64 z1.fTable, .string (strB z1.fName), .slice aY2 z1.fColumns.length cY2, .bool z1.fUnique, .int .i64 s, .bool false] := hcs
      subst hcs
      replace rowX := rowX.keep k5 id
      replace rowY := rowY.keep k5 id
      replace rowN := rowN.keep k5 id
      replace gn := rGCatalog_lawful.nix gn k5
      replace kk := kk.then k5.nix (fun i _ e => e)
      have hz5 := Lib.hid k5.size
      have hst := store_run (P := Try.prog) (cs := [.int .i64 z1.fID, .int .i64 z1.fTable, .string (strB z1.fName), .slice aY2 z1.fColumns.length cY2, .bool z1.fUnique, .int .i64 s, .bool false]) S_Index rowY hy.out rfl rfl
      have kG : Keep (· = g11) w5 (w5.setRow g11 ([.int .i64 z1.fID, .int .i64 z1.fTable, .string (strB z1.fName), .slice aY2 z1.fColumns.length cY2, .bool z1.fUnique, .int .i64 s, .bool false] : List Value).toArray) := (Keep.refl (· = g11) w5).setRow (fun _ => rfl) _
      have hyl := rowY.lt
      replace rowN := rowN.keep kG (by omega)
      replace rowX := rowX.keep kG (by omega)
      replace gn := rGCatalog_lawful.keep gn kG (fun b hb e => hb.2.1 e)
      have gyr := fGIndex_to (fGIndex_lawful.keep gy kG (fun b hb e => by have h1 := hb.1; omega))
      replace rowY := rowY.setRow [.int .i64 z1.fID, .int .i64 z1.fTable, .string (strB z1.fName), .slice aY2 z1.fColumns.length cY2, .bool z1.fUnique, .int .i64 s, .bool false]
      replace kk := kk.then kG (fun i _ e => .inl e)
      have hz6 := Lib.hid kG.size
      clear kG k5 gy hyl
      go_upto_region 32 with fail
      clear hst
      generalize w5.setRow g11 ([.int .i64 z1.fID, .int .i64 z1.fTable, .string (strB z1.fName), .slice aY2 z1.fColumns.length cY2, .bool z1.fUnique, .int .i64 s, .bool false] : List Value).toArray = wr2 at *
      go_cut [22, 23] from 197 to 225 (fun s15 s16 wx => Cut15 wr2 m s15 s16 wx)
      case first =>
        as_aux_lemma =>
        have kd : Keep Nix wr2 wr2.drew := (Keep.refl Nix wr2).drew
        have hS : ∀ w', Keep Nix wr2 w' → ((wholeSem 25 (.pointer (some ⟨g17, 0, none⟩))).run Try.prog w' = .ok (.value (.agg #[.int .i64 n.fVersion, .int .i64 n.fNext, .slice bT n.fTables.length dT, .slice bX n.fIndexes.length dX])) w' ∧ w'.cell? ⟨g11, 0, none⟩ = some (.int .i64 z1.fID) ∧ w'.cell? ⟨g11, 5, none⟩ = some (.int .i64 s) ∧ (wholeSem 37 (.pointer (some ⟨g11, 0, none⟩))).run Try.prog w' = .ok (.value (.agg #[.int .i64 z1.fID, .int .i64 z1.fTable, .string (strB z1.fName), .slice aY2 z1.fColumns.length cY2, .bool z1.fUnique, .int .i64 s, .bool false])) w') := fun w' k' => ⟨Whole.run S_Catalog rfl (rowN.keep k' id), (rowY.keep k' id).cell 0, (rowY.keep k' id).cell 5, Whole.run S_Index rfl (rowY.keep k' id)⟩
        have HS := Lib.hid hS
        clear hS
        refine wp_region_noPanic ?_
        refine wp_region_held_drew (S := (fun w' => ((wholeSem 25 (.pointer (some ⟨g17, 0, none⟩))).run Try.prog w' = .ok (.value (.agg #[.int .i64 n.fVersion, .int .i64 n.fNext, .slice bT n.fTables.length dT, .slice bX n.fIndexes.length dX])) w' ∧ w'.cell? ⟨g11, 0, none⟩ = some (.int .i64 z1.fID) ∧ w'.cell? ⟨g11, 5, none⟩ = some (.int .i64 s) ∧ (wholeSem 37 (.pointer (some ⟨g11, 0, none⟩))).run Try.prog w' = .ok (.value (.agg #[.int .i64 z1.fID, .int .i64 z1.fTable, .string (strB z1.fName), .slice aY2 z1.fColumns.length cY2, .bool z1.fUnique, .int .i64 s, .bool false])) w'))) (by kernel_rfl) ((HS.out _ kd)) (fun hHeld => ?_)
        generalize wr2.drew = wd at *
        refine wpAnyH_take (i := 0) (v := ?_) rfl (by kernel_rfl) (by kernel_rfl) (by kernel_rfl) (fun _ _ _ h => h) (Or.inl ⟨by kernel_rfl, ?_⟩) hHeld ?_
        rotate_left
        · intro w' hSw
          (try dsimp only at hSw)
          (try simp only [List.getElem_toArray]); (try simp only [List.getElem_cons_succ]); (try simp only [List.getElem_cons_zero])
          go_simp
          try with_reducible rfl
        (try simp only [Act.put]); (try simp only [List.getElem_toArray]); (try simp only [List.getElem_cons_succ]); (try simp only [List.getElem_cons_zero]); (try simp only [List.setIfInBounds_toArray]); (try simp only [List.set_cons_succ]); (try simp only [List.set_cons_zero])
        refine wpAnyH_take (i := 1) (v := ?_) rfl (by kernel_rfl) (by kernel_rfl) (by kernel_rfl) (fun _ _ _ h => h) (Or.inl ⟨by kernel_rfl, ?_⟩) hHeld ?_
        rotate_left
        · intro w' hSw
          (try dsimp only at hSw)
          (try simp only [List.getElem_toArray]); (try simp only [List.getElem_cons_succ]); (try simp only [List.getElem_cons_zero])
          go_simp
          try with_reducible rfl
        (try simp only [Act.put]); (try simp only [List.getElem_toArray]); (try simp only [List.getElem_cons_succ]); (try simp only [List.getElem_cons_zero]); (try simp only [List.setIfInBounds_toArray]); (try simp only [List.set_cons_succ]); (try simp only [List.set_cons_zero])
        refine wpAnyH_take (i := 2) (v := ?_) rfl (by kernel_rfl) (by kernel_rfl) (by kernel_rfl) (fun _ _ _ h => h) (Or.inl ⟨by kernel_rfl, ?_⟩) hHeld ?_
        rotate_left
        · intro w' hSw
          (try dsimp only at hSw)
          (try simp only [List.getElem_toArray]); (try simp only [List.getElem_cons_succ]); (try simp only [List.getElem_cons_zero])
          go_simp
          try with_reducible rfl
        (try simp only [Act.put]); (try simp only [List.getElem_toArray]); (try simp only [List.getElem_cons_succ]); (try simp only [List.getElem_cons_zero]); (try simp only [List.setIfInBounds_toArray]); (try simp only [List.set_cons_succ]); (try simp only [List.set_cons_zero])
        refine wpAnyH_take (i := 3) (v := ?_) rfl (by kernel_rfl) (by kernel_rfl) (by kernel_rfl) (fun _ _ _ h => h) (Or.inl ⟨by kernel_rfl, ?_⟩) hHeld ?_
        rotate_left
        · intro w' hSw
          (try dsimp only at hSw)
          (try simp only [List.getElem_toArray]); (try simp only [List.getElem_cons_succ]); (try simp only [List.getElem_cons_zero])
          go_simp
          try with_reducible rfl
        (try simp only [Act.put]); (try simp only [List.getElem_toArray]); (try simp only [List.getElem_cons_succ]); (try simp only [List.getElem_cons_zero]); (try simp only [List.setIfInBounds_toArray]); (try simp only [List.set_cons_succ]); (try simp only [List.set_cons_zero])
        refine wpAnyH_take (i := 4) (v := ?_) rfl (by kernel_rfl) (by kernel_rfl) (by kernel_rfl) (fun _ _ _ h => h) (Or.inl ⟨by kernel_rfl, ?_⟩) hHeld ?_
        rotate_left
        · intro w' hSw
          (try dsimp only at hSw)
          (try simp only [List.getElem_toArray]); (try simp only [List.getElem_cons_succ]); (try simp only [List.getElem_cons_zero])
          go_simp
          try with_reducible rfl
        (try simp only [Act.put]); (try simp only [List.getElem_toArray]); (try simp only [List.getElem_cons_succ]); (try simp only [List.getElem_cons_zero]); (try simp only [List.setIfInBounds_toArray]); (try simp only [List.set_cons_succ]); (try simp only [List.set_cons_zero])
        refine wpAnyH_take (i := 5) (v := ?_) rfl (by kernel_rfl) (by kernel_rfl) (by kernel_rfl) (fun _ _ _ h => h) (Or.inl ⟨by kernel_rfl, ?_⟩) hHeld ?_
        rotate_left
        · intro w' hSw
          (try dsimp only at hSw)
          (try simp only [List.getElem_toArray]); (try simp only [List.getElem_cons_succ]); (try simp only [List.getElem_cons_zero])
          go_simp
          try with_reducible rfl
        (try simp only [Act.put]); (try simp only [List.getElem_toArray]); (try simp only [List.getElem_cons_succ]); (try simp only [List.getElem_cons_zero]); (try simp only [List.setIfInBounds_toArray]); (try simp only [List.set_cons_succ]); (try simp only [List.set_cons_zero])
        refine wpAnyH_ready (rs := [6, 11]) (by kernel_rfl) (by simp) ?_
        refine AllReadyH.cons rfl (fun K hK => ?_) (AllReadyH.cons rfl (fun K hK => ?_) AllReadyH.nil)
        · go_simp
          go_fit (sNext_c _ _ _ (rGIndex_lawful.nix gyr kd))
          rintro e w1 ⟨rfl, k1⟩
          (try replace rowM := rowM.keep k1 id)
          replace kd := kd.trans k1
          clear k1
          go_wp2_with fail
          refine hK.out _ _ ((HS.out _ kd)) (fun hHeld => ?_)
          clear hK K
          (try simp only [Act.put]); (try simp only [List.getElem_toArray]); (try simp only [List.getElem_cons_succ]); (try simp only [List.getElem_cons_zero]); (try simp only [List.setIfInBounds_toArray]); (try simp only [List.set_cons_succ]); (try simp only [List.set_cons_zero])
          refine wpAnyH_ready (rs := [7, 11]) (by kernel_rfl) (by simp) ?_
          refine AllReadyH.cons rfl (fun K hK => ?_) (AllReadyH.cons rfl (fun K hK => ?_) AllReadyH.nil)
          · go_simp
            go_fit (sStep_c n _ z1.fID s (nextF s) false _ (rGCatalog_lawful.nix gn kd) hsn.out hvn.out htt.out)
            rw [hstep.out]
            rintro e w1 ⟨csm, rfl, gm, ho, k1⟩
            (try have hnM := rowM.lt)
            (try replace rowM := rowM.keep k1 id)
            have hsz := kd.size
            have hs1 := k1.size
            replace kd := kd.trans k1
            clear k1
            have hlm := rGCatalog_lawful.len gm
            go_wp2_with fail
            refine hK.out _ _ ((HS.out _ kd)) (fun hHeld => ?_)
            clear hK K
            (try simp only [Act.put]); (try simp only [List.getElem_toArray]); (try simp only [List.getElem_cons_succ]); (try simp only [List.getElem_cons_zero]); (try simp only [List.setIfInBounds_toArray]); (try simp only [List.set_cons_succ]); (try simp only [List.set_cons_zero])
            refine wpAnyH_take (i := 8) (v := ?_) rfl (by kernel_rfl) (by kernel_rfl) (by kernel_rfl) (fun _ _ _ h => h) (Or.inl ⟨by kernel_rfl, ?_⟩) hHeld ?_
            rotate_left
            · intro w' hSw
              (try dsimp only at hSw)
              (try simp only [List.getElem_toArray]); (try simp only [List.getElem_cons_succ]); (try simp only [List.getElem_cons_zero])
              go_simp
              try with_reducible rfl
            (try simp only [Act.put]); (try simp only [List.getElem_toArray]); (try simp only [List.getElem_cons_succ]); (try simp only [List.getElem_cons_zero]); (try simp only [List.setIfInBounds_toArray]); (try simp only [List.set_cons_succ]); (try simp only [List.set_cons_zero])
            refine wpAnyH_take (i := 9) (v := ?_) rfl (by kernel_rfl) (by kernel_rfl) (by kernel_rfl) (fun _ _ _ h => h) (Or.inl ⟨by kernel_rfl, ?_⟩) hHeld ?_
            rotate_left
            · intro w' hSw
              (try dsimp only at hSw)
              (try simp only [List.getElem_toArray]); (try simp only [List.getElem_cons_succ]); (try simp only [List.getElem_cons_zero])
              go_simp
              try with_reducible rfl
            (try simp only [Act.put]); (try simp only [List.getElem_toArray]); (try simp only [List.getElem_cons_succ]); (try simp only [List.getElem_cons_zero]); (try simp only [List.setIfInBounds_toArray]); (try simp only [List.set_cons_succ]); (try simp only [List.set_cons_zero])
            refine wpAnyH_take (i := 10) (v := ?_) rfl (by kernel_rfl) (by kernel_rfl) (by kernel_rfl) (fun _ _ _ h => h) (Or.inl ⟨by kernel_rfl, ?_⟩) hHeld ?_
            rotate_left
            · intro w' hSw
              (try dsimp only at hSw)
              (try simp only [List.getElem_toArray]); (try simp only [List.getElem_cons_succ]); (try simp only [List.getElem_cons_zero])
              go_simp
              try with_reducible rfl
            (try simp only [Act.put]); (try simp only [List.getElem_toArray]); (try simp only [List.getElem_cons_succ]); (try simp only [List.getElem_cons_zero]); (try simp only [List.setIfInBounds_toArray]); (try simp only [List.set_cons_succ]); (try simp only [List.set_cons_zero])
            refine wpAnyH_ready (rs := [11]) (by kernel_rfl) (by simp) ?_
            refine AllReadyH.cons rfl (fun K hK => ?_) AllReadyH.nil
            go_simp
            obtain ⟨rowM, kA, hgm, hgmA⟩ := kk_alloc kd #[.int .i64 0, .int .i64 0, .slice none 0 0, .slice none 0 0] 25
            (try replace gm := rGCatalog_lawful.nix gm ((Keep.refl Nix _).alloc (.cells #[.int .i64 0, .int .i64 0, .slice none 0 0, .slice none 0 0] 25)))
            have hA : Hid (_ ≤ _) := hgmA
            replace kd := kA
            clear kA
            refine hK.out _ _ ((HS.out _ kd)) (fun hHeld => ?_)
            clear hK K
            (try simp only [Act.put]); (try simp only [List.getElem_toArray]); (try simp only [List.getElem_cons_succ]); (try simp only [List.getElem_cons_zero]); (try simp only [List.setIfInBounds_toArray]); (try simp only [List.set_cons_succ]); (try simp only [List.set_cons_zero])
            refine wpAnyH_ready (rs := [12]) (by kernel_rfl) (by simp) ?_
            refine AllReadyH.cons rfl (fun K hK => ?_) AllReadyH.nil
            have hst2 := store_run (P := Try.prog) (cs := csm) S_Catalog rowM rfl hlm ho
            (try simp only [List.getElem_toArray]); (try simp only [List.getElem_cons_succ]); (try simp only [List.getElem_cons_zero])
            go_simp
            clear hst2
            replace rowM := rowM.setRow csm
            obtain ⟨kd, kS⟩ := kk_set kd hgm csm.toArray
            have hsS := kS.size
            have hsA := hA.out
            replace gm := rGCatalog_lawful.keep gm kS (fun b hb e => by have h1 := hb.1; have h2 := hb.2; omega)
            refine hK.out _ _ ((HS.out _ kd)) (fun hHeld => ?_)
            clear hK K
            (try simp only [Act.put]); (try simp only [List.getElem_toArray]); (try simp only [List.getElem_cons_succ]); (try simp only [List.getElem_cons_zero]); (try simp only [List.setIfInBounds_toArray]); (try simp only [List.set_cons_succ]); (try simp only [List.set_cons_zero])
            refine wpAnyH_take (i := 13) (v := ?_) rfl (by kernel_rfl) (by kernel_rfl) (by kernel_rfl) (fun _ _ _ h => h) (Or.inl ⟨by kernel_rfl, ?_⟩) hHeld ?_
            rotate_left
            · intro w' hSw
              (try dsimp only at hSw)
              (try simp only [List.getElem_toArray]); (try simp only [List.getElem_cons_succ]); (try simp only [List.getElem_cons_zero])
              go_simp
              try with_reducible rfl
            (try simp only [Act.put]); (try simp only [List.getElem_toArray]); (try simp only [List.getElem_cons_succ]); (try simp only [List.getElem_cons_zero]); (try simp only [List.setIfInBounds_toArray]); (try simp only [List.set_cons_succ]); (try simp only [List.set_cons_zero])
            refine wpAnyH_done (by kernel_rfl) ?_ _
            refine NoPanic.normal ?_
            clear hHeld HS
            go_wp2_with fail
            go_meet
            case rel => exact ⟨_, csm, rfl, rfl, hgm, rowM, rGCatalog_lawful.mono gm (fun b hb => ⟨by have h1 := hb.1; omega, by have h2 := hb.2; omega⟩), kd⟩
          · go_simp
            obtain ⟨rowM, kA, hgm, hgmA⟩ := kk_alloc kd #[.int .i64 0, .int .i64 0, .slice none 0 0, .slice none 0 0] 25
            (try replace gm := rGCatalog_lawful.nix gm ((Keep.refl Nix _).alloc (.cells #[.int .i64 0, .int .i64 0, .slice none 0 0, .slice none 0 0] 25)))
            have hA : Hid (_ ≤ _) := hgmA
            replace kd := kA
            clear kA
            refine hK.out _ _ ((HS.out _ kd)) (fun hHeld => ?_)
            clear hK K
            (try simp only [Act.put]); (try simp only [List.getElem_toArray]); (try simp only [List.getElem_cons_succ]); (try simp only [List.getElem_cons_zero]); (try simp only [List.setIfInBounds_toArray]); (try simp only [List.set_cons_succ]); (try simp only [List.set_cons_zero])
            refine wpAnyH_ready (rs := [7]) (by kernel_rfl) (by simp) ?_
            refine AllReadyH.cons rfl (fun K hK => ?_) AllReadyH.nil
            go_simp
            go_fit (sStep_c n _ z1.fID s (nextF s) false _ (rGCatalog_lawful.nix gn kd) hsn.out hvn.out htt.out)
            rw [hstep.out]
            rintro e w1 ⟨csm, rfl, gm, ho, k1⟩
            (try have hnM := rowM.lt)
            (try replace rowM := rowM.keep k1 id)
            have hsz := kd.size
            have hs1 := k1.size
            replace kd := kd.trans k1
            clear k1
            have hlm := rGCatalog_lawful.len gm
            go_wp2_with fail
            refine hK.out _ _ ((HS.out _ kd)) (fun hHeld => ?_)
            clear hK K
            (try simp only [Act.put]); (try simp only [List.getElem_toArray]); (try simp only [List.getElem_cons_succ]); (try simp only [List.getElem_cons_zero]); (try simp only [List.setIfInBounds_toArray]); (try simp only [List.set_cons_succ]); (try simp only [List.set_cons_zero])
            refine wpAnyH_take (i := 8) (v := ?_) rfl (by kernel_rfl) (by kernel_rfl) (by kernel_rfl) (fun _ _ _ h => h) (Or.inl ⟨by kernel_rfl, ?_⟩) hHeld ?_
            rotate_left
            · intro w' hSw
              (try dsimp only at hSw)
              (try simp only [List.getElem_toArray]); (try simp only [List.getElem_cons_succ]); (try simp only [List.getElem_cons_zero])
              go_simp
              try with_reducible rfl
            (try simp only [Act.put]); (try simp only [List.getElem_toArray]); (try simp only [List.getElem_cons_succ]); (try simp only [List.getElem_cons_zero]); (try simp only [List.setIfInBounds_toArray]); (try simp only [List.set_cons_succ]); (try simp only [List.set_cons_zero])
            refine wpAnyH_take (i := 9) (v := ?_) rfl (by kernel_rfl) (by kernel_rfl) (by kernel_rfl) (fun _ _ _ h => h) (Or.inl ⟨by kernel_rfl, ?_⟩) hHeld ?_
            rotate_left
            · intro w' hSw
              (try dsimp only at hSw)
              (try simp only [List.getElem_toArray]); (try simp only [List.getElem_cons_succ]); (try simp only [List.getElem_cons_zero])
              go_simp
              try with_reducible rfl
            (try simp only [Act.put]); (try simp only [List.getElem_toArray]); (try simp only [List.getElem_cons_succ]); (try simp only [List.getElem_cons_zero]); (try simp only [List.setIfInBounds_toArray]); (try simp only [List.set_cons_succ]); (try simp only [List.set_cons_zero])
            refine wpAnyH_take (i := 10) (v := ?_) rfl (by kernel_rfl) (by kernel_rfl) (by kernel_rfl) (fun _ _ _ h => h) (Or.inl ⟨by kernel_rfl, ?_⟩) hHeld ?_
            rotate_left
            · intro w' hSw
              (try dsimp only at hSw)
              (try simp only [List.getElem_toArray]); (try simp only [List.getElem_cons_succ]); (try simp only [List.getElem_cons_zero])
              go_simp
              try with_reducible rfl
            (try simp only [Act.put]); (try simp only [List.getElem_toArray]); (try simp only [List.getElem_cons_succ]); (try simp only [List.getElem_cons_zero]); (try simp only [List.setIfInBounds_toArray]); (try simp only [List.set_cons_succ]); (try simp only [List.set_cons_zero])
            refine wpAnyH_ready (rs := [12]) (by kernel_rfl) (by simp) ?_
            refine AllReadyH.cons rfl (fun K hK => ?_) AllReadyH.nil
            have hst2 := store_run (P := Try.prog) (cs := csm) S_Catalog rowM rfl hlm ho
            (try simp only [List.getElem_toArray]); (try simp only [List.getElem_cons_succ]); (try simp only [List.getElem_cons_zero])
            go_simp
            clear hst2
            replace rowM := rowM.setRow csm
            obtain ⟨kd, kS⟩ := kk_set kd hgm csm.toArray
            have hsS := kS.size
            have hsA := hA.out
            replace gm := rGCatalog_lawful.keep gm kS (fun b hb e => by have h1 := hb.1; have h2 := hb.2; omega)
            refine hK.out _ _ ((HS.out _ kd)) (fun hHeld => ?_)
            clear hK K
            (try simp only [Act.put]); (try simp only [List.getElem_toArray]); (try simp only [List.getElem_cons_succ]); (try simp only [List.getElem_cons_zero]); (try simp only [List.setIfInBounds_toArray]); (try simp only [List.set_cons_succ]); (try simp only [List.set_cons_zero])
            refine wpAnyH_take (i := 13) (v := ?_) rfl (by kernel_rfl) (by kernel_rfl) (by kernel_rfl) (fun _ _ _ h => h) (Or.inl ⟨by kernel_rfl, ?_⟩) hHeld ?_
            rotate_left
            · intro w' hSw
              (try dsimp only at hSw)
              (try simp only [List.getElem_toArray]); (try simp only [List.getElem_cons_succ]); (try simp only [List.getElem_cons_zero])
              go_simp
              try with_reducible rfl
            (try simp only [Act.put]); (try simp only [List.getElem_toArray]); (try simp only [List.getElem_cons_succ]); (try simp only [List.getElem_cons_zero]); (try simp only [List.setIfInBounds_toArray]); (try simp only [List.set_cons_succ]); (try simp only [List.set_cons_zero])
            refine wpAnyH_done (by kernel_rfl) ?_ _
            refine NoPanic.normal ?_
            clear hHeld HS
            go_wp2_with fail
            go_meet
            case rel => exact ⟨_, csm, rfl, rfl, hgm, rowM, rGCatalog_lawful.mono gm (fun b hb => ⟨by have h1 := hb.1; omega, by have h2 := hb.2; omega⟩), kd⟩
        · go_simp
          obtain ⟨rowM, kA, hgm, hgmA⟩ := kk_alloc kd #[.int .i64 0, .int .i64 0, .slice none 0 0, .slice none 0 0] 25
          (try replace gm := rGCatalog_lawful.nix gm ((Keep.refl Nix _).alloc (.cells #[.int .i64 0, .int .i64 0, .slice none 0 0, .slice none 0 0] 25)))
          have hA : Hid (_ ≤ _) := hgmA
          replace kd := kA
          clear kA
          refine hK.out _ _ ((HS.out _ kd)) (fun hHeld => ?_)
          clear hK K
          (try simp only [Act.put]); (try simp only [List.getElem_toArray]); (try simp only [List.getElem_cons_succ]); (try simp only [List.getElem_cons_zero]); (try simp only [List.setIfInBounds_toArray]); (try simp only [List.set_cons_succ]); (try simp only [List.set_cons_zero])
          refine wpAnyH_ready (rs := [6]) (by kernel_rfl) (by simp) ?_
          refine AllReadyH.cons rfl (fun K hK => ?_) AllReadyH.nil
          go_simp
          go_fit (sNext_c _ _ _ (rGIndex_lawful.nix gyr kd))
          rintro e w1 ⟨rfl, k1⟩
          (try replace rowM := rowM.keep k1 id)
          replace kd := kd.trans k1
          clear k1
          go_wp2_with fail
          refine hK.out _ _ ((HS.out _ kd)) (fun hHeld => ?_)
          clear hK K
          (try simp only [Act.put]); (try simp only [List.getElem_toArray]); (try simp only [List.getElem_cons_succ]); (try simp only [List.getElem_cons_zero]); (try simp only [List.setIfInBounds_toArray]); (try simp only [List.set_cons_succ]); (try simp only [List.set_cons_zero])
          refine wpAnyH_ready (rs := [7]) (by kernel_rfl) (by simp) ?_
          refine AllReadyH.cons rfl (fun K hK => ?_) AllReadyH.nil
          go_simp
          go_fit (sStep_c n _ z1.fID s (nextF s) false _ (rGCatalog_lawful.nix gn kd) hsn.out hvn.out htt.out)
          rw [hstep.out]
          rintro e w1 ⟨csm, rfl, gm, ho, k1⟩
          (try have hnM := rowM.lt)
          (try replace rowM := rowM.keep k1 id)
          have hsz := kd.size
          have hs1 := k1.size
          replace kd := kd.trans k1
          clear k1
          have hlm := rGCatalog_lawful.len gm
          go_wp2_with fail
          refine hK.out _ _ ((HS.out _ kd)) (fun hHeld => ?_)
          clear hK K
          (try simp only [Act.put]); (try simp only [List.getElem_toArray]); (try simp only [List.getElem_cons_succ]); (try simp only [List.getElem_cons_zero]); (try simp only [List.setIfInBounds_toArray]); (try simp only [List.set_cons_succ]); (try simp only [List.set_cons_zero])
          refine wpAnyH_take (i := 8) (v := ?_) rfl (by kernel_rfl) (by kernel_rfl) (by kernel_rfl) (fun _ _ _ h => h) (Or.inl ⟨by kernel_rfl, ?_⟩) hHeld ?_
          rotate_left
          · intro w' hSw
            (try dsimp only at hSw)
            (try simp only [List.getElem_toArray]); (try simp only [List.getElem_cons_succ]); (try simp only [List.getElem_cons_zero])
            go_simp
            try with_reducible rfl
          (try simp only [Act.put]); (try simp only [List.getElem_toArray]); (try simp only [List.getElem_cons_succ]); (try simp only [List.getElem_cons_zero]); (try simp only [List.setIfInBounds_toArray]); (try simp only [List.set_cons_succ]); (try simp only [List.set_cons_zero])
          refine wpAnyH_take (i := 9) (v := ?_) rfl (by kernel_rfl) (by kernel_rfl) (by kernel_rfl) (fun _ _ _ h => h) (Or.inl ⟨by kernel_rfl, ?_⟩) hHeld ?_
          rotate_left
          · intro w' hSw
            (try dsimp only at hSw)
            (try simp only [List.getElem_toArray]); (try simp only [List.getElem_cons_succ]); (try simp only [List.getElem_cons_zero])
            go_simp
            try with_reducible rfl
          (try simp only [Act.put]); (try simp only [List.getElem_toArray]); (try simp only [List.getElem_cons_succ]); (try simp only [List.getElem_cons_zero]); (try simp only [List.setIfInBounds_toArray]); (try simp only [List.set_cons_succ]); (try simp only [List.set_cons_zero])
          refine wpAnyH_take (i := 10) (v := ?_) rfl (by kernel_rfl) (by kernel_rfl) (by kernel_rfl) (fun _ _ _ h => h) (Or.inl ⟨by kernel_rfl, ?_⟩) hHeld ?_
          rotate_left
          · intro w' hSw
            (try dsimp only at hSw)
            (try simp only [List.getElem_toArray]); (try simp only [List.getElem_cons_succ]); (try simp only [List.getElem_cons_zero])
            go_simp
            try with_reducible rfl
          (try simp only [Act.put]); (try simp only [List.getElem_toArray]); (try simp only [List.getElem_cons_succ]); (try simp only [List.getElem_cons_zero]); (try simp only [List.setIfInBounds_toArray]); (try simp only [List.set_cons_succ]); (try simp only [List.set_cons_zero])
          refine wpAnyH_ready (rs := [12]) (by kernel_rfl) (by simp) ?_
          refine AllReadyH.cons rfl (fun K hK => ?_) AllReadyH.nil
          have hst2 := store_run (P := Try.prog) (cs := csm) S_Catalog rowM rfl hlm ho
          (try simp only [List.getElem_toArray]); (try simp only [List.getElem_cons_succ]); (try simp only [List.getElem_cons_zero])
          go_simp
          clear hst2
          replace rowM := rowM.setRow csm
          obtain ⟨kd, kS⟩ := kk_set kd hgm csm.toArray
          have hsS := kS.size
          have hsA := hA.out
          replace gm := rGCatalog_lawful.keep gm kS (fun b hb e => by have h1 := hb.1; have h2 := hb.2; omega)
          refine hK.out _ _ ((HS.out _ kd)) (fun hHeld => ?_)
          clear hK K
          (try simp only [Act.put]); (try simp only [List.getElem_toArray]); (try simp only [List.getElem_cons_succ]); (try simp only [List.getElem_cons_zero]); (try simp only [List.setIfInBounds_toArray]); (try simp only [List.set_cons_succ]); (try simp only [List.set_cons_zero])
          refine wpAnyH_take (i := 13) (v := ?_) rfl (by kernel_rfl) (by kernel_rfl) (by kernel_rfl) (fun _ _ _ h => h) (Or.inl ⟨by kernel_rfl, ?_⟩) hHeld ?_
          rotate_left
          · intro w' hSw
            (try dsimp only at hSw)
            (try simp only [List.getElem_toArray]); (try simp only [List.getElem_cons_succ]); (try simp only [List.getElem_cons_zero])
            go_simp
            try with_reducible rfl
          (try simp only [Act.put]); (try simp only [List.getElem_toArray]); (try simp only [List.getElem_cons_succ]); (try simp only [List.getElem_cons_zero]); (try simp only [List.setIfInBounds_toArray]); (try simp only [List.set_cons_succ]); (try simp only [List.set_cons_zero])
          refine wpAnyH_done (by kernel_rfl) ?_ _
          refine NoPanic.normal ?_
          clear hHeld HS
          go_wp2_with fail
          go_meet
          case rel => exact ⟨_, csm, rfl, rfl, hgm, rowM, rGCatalog_lawful.mono gm (fun b hb => ⟨by have h1 := hb.1; omega, by have h2 := hb.2; omega⟩), kd⟩
      case rest =>
      obtain ⟨gM, csm, rfl, rfl, hgm, rowM, gm1, kd⟩ := hcut
      have hlN : g17 < wr2.heap.size := rowN.lt
      have hlY : g11 < wr2.heap.size := rowY.lt
      replace rowN := rowN.keep kd id
      replace rowY := rowY.keep kd id
      have hlm := rGCatalog_lawful.len gm1
      have ldM := Whole.run (P := Try.prog) S_Catalog hlm rowM
      have hst := store_run (P := Try.prog) (cs := csm) S_Catalog rowN rfl hlm (rGCatalog_ones gm1)
      have kG : Keep (· = g17) wc (wc.setRow g17 csm.toArray) := (Keep.refl (· = g17) wc).setRow (fun _ => rfl) _
      replace gm1 := rGCatalog_lawful.keep gm1 kG (fun b hb e => by have := hb.1; omega)
      have HG : Hid (rGCatalog (wc.setRow g17 csm.toArray) (fun b => b < (wc.setRow g17 csm.toArray).heap.size ∧ b ≠ g11 ∧ b ≠ g17) csm (MC c z1 (k + 1))) := (by rw [HM.out]; exact rGCatalog_lawful.mono gm1 (fun b hb => ⟨by have := kG.size; have := hb.2; omega, by have := hb.1; omega, by have := hb.1; omega⟩))
      have HRN := Lib.hid (rowN.setRow csm)
      have HRY := Lib.hid (rowY.keep kG (by omega))
      have HKK := Lib.hid ((kk.then kd.nix (fun i _ e => e)).then kG (fun i _ e => .inr e))
      clear gm1 kG rowY kk kd rowN gn rowX gyr
      go_wp2_with fail
      clear hst ldM
      go_roundw
      case rel => exact ⟨k + 1, csm, _, by omega, by go_num, HRN.out, HG.out, HRY.out, Lib.hid rfl, HKK.out⟩
      case measure => simp [intOf]; omega
    · obtain rfl : k = 3 := by omega
      have hlt' : (3 : Int) ≤ ((3 : Nat) : Int) := by omega
      go_wp2_with fail
      exact hQ.out _ _ _ _ _ _ _ _ _ _ _ _ _ _ _ _ _ _ _ _ _ _ _ _ _ _ _ _ _ _ _ _ _ _ _ _ rowN gn kk
end
end schemaLife
end Go.Proofs.Ytfogbbnfedcldaa
