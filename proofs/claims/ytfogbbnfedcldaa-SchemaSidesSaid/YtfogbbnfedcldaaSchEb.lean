/- SCHEMA: the law SchemaSides, its inner loop. Printed by mac.py. -/
import Derived.Test.YtfogbbnfedcldaaSchEa
import Derived.Test.YtfogbbnfedcldaaSchD0
import Derived.Deep.DeepCutAuto
import Derived.Deep.CutBlock
namespace Go.Proofs.Ytfogbbnfedcldaa
open Go.RowKit

/-- The state's class. -/
theorem side_ways {a b : Int} (h : Sides a b) :
    (readsB a = false ∧ writesB a = false ∧ readsB b = false ∧ writesB b = false) ∨
    (readsB a = false ∧ writesB a = false ∧ deletesB a = true ∧ readsB b = false ∧ writesB b = true ∧ deletesB b = true) ∨
    (readsB a = false ∧ writesB a = true ∧ deletesB a = true ∧ readsB b = false ∧ writesB b = false ∧ deletesB b = true) ∨
    (readsB a = false ∧ writesB a = true ∧ deletesB a = true ∧ readsB b = false ∧ writesB b = true ∧ deletesB b = true) ∨
    (readsB a = false ∧ writesB a = true ∧ deletesB a = true ∧ readsB b = true ∧ writesB b = true ∧ deletesB b = true) ∨
    (readsB a = true ∧ writesB a = true ∧ deletesB a = true ∧ readsB b = false ∧ writesB b = true ∧ deletesB b = true) ∨
    (readsB a = true ∧ writesB a = true ∧ deletesB a = true ∧ readsB b = true ∧ writesB b = true ∧ deletesB b = true) := by
  obtain ⟨h1, h2, h3, h4, -, -⟩ := h
  by_cases a4 : a = 4 <;> by_cases aw : 2 ≤ a ∧ a ≤ 5 <;> by_cases ad : 1 ≤ a ∧ a ≤ 7 <;> by_cases b4 : b = 4 <;> by_cases bw : 2 ≤ b ∧ b ≤ 5 <;> by_cases bd : 1 ≤ b ∧ b ≤ 7 <;> first | (exfalso; omega) | simp [readsB, writesB, deletesB, a4, aw, ad, b4, bw, bd]
def innerOf : Code → Option Code
  | .loop c => loopAt c
  | _ => none
namespace schemaSides
noncomputable def innC : Code := (((Try.f8.body.bind loopAt).bind innerOf).getD .skip)
section
attribute [local go_sem ↓] ldz_Catalog stz_Catalog
set_option maxRecDepth 100000 in
set_option maxHeartbeats 32000000 in
theorem INNER {p q : Nat → Prop} (w : World) (g2 g8 : Nat) (c n : GCatalog) (csc csn : List Value) (x0 x1 x3 x4 x5 x6 x7 x10 x11 x12 x13 x14 x15 x16 x17 x18 x19 x20 x21 x22 x23 x24 x25 x26 x27 x28 x29 x30 x31 x32 x33 x34 x35 x36 x37 x38 x39 x40 x41 x42 x43 x44 x45 x46 x47 x48 x49 x50 x51 x52 x53 x54 x55 x56 x57 x58 x59 x60 x61 x62 x63 x64 x65 x66 x67 x68 x69 x70 x71 x72 x73 x74 x75 x76 x77 x78 x79 x80 x81 x82 x83 x84 x85 x86 x87 x88 x89 x90 x91 x92 x93 x94 x95 x96 x97 x98 x99 x100 x101 x102 x103 x104 x105 x106 x107 x108 x109 x110 x111 x112 x113 x114 x115 x116 x117 x118 x119 x120 x121 x122 x123 x124 x125 x126 x127 x128 x129 x130 x131 x132 x133 x134 x135 x136 x137 x138 x139 x140 x141 x142 x143 x144 x145 x146 x147 x148 x149 x150 x151 x152 x153 x154 x155 x156 x157 x158 x159 x160 x161 x162 x163 x164 x165 x166 x167 x168 x169 x170 x171 x172 x173 x174 x175 x176 x177 x178 x179 x180 x181 x182 x183 x184 x185 x186 x187 x188 x189 x190 x191 x192 x193 x194 x195 x196 x197 x198 x199 x200 x201 x202 x203 x204 x205 x206 x207 x208 x209 x210 x211 x212 x213 x214 x215 x216 x217 x218 x219 x220 x221 x222 x223 x224 x225 x226 x227 x228 x229 x230 x231 x232 : Value) (row0 : RowIs w g2 25 csc) (rowN : RowIs w g8 25 csn) (gc : rGCatalog w p csc c) (gn : rGCatalog w q csn n) (hS : Hid (∀ d, Sides (stateV c d) (stateV n d)))
    (Q : Exit → Act → World → Prop) (hQ : Shut (∀ (u4 u9 u10 u11 u12 u139 u140 u141 u142 u143 u144 u145 u146 u147 u148 u149 u150 u151 u152 u153 u154 u155 u156 u157 u158 u159 u160 u161 u162 u163 u164 u165 u166 u167 u168 u169 u170 u171 u172 u173 u174 u175 u176 u177 u178 u179 u180 u181 u182 u183 u184 u185 u186 u187 u188 u189 u190 u191 u192 u193 u194 u195 u196 u197 u198 u199 u200 u201 u202 u203 u204 u205 u206 u207 u208 u209 u210 u211 u212 u213 u214 u215 u216 u217 u218 u219 u220 u221 u222 u223 u224 u225 u226 u227 u228 u229 u230 u231 : Value) (w' : World), Keep Nix w w' → Q (.exit 3) ⟨#[x0, x1, .pointer (some ⟨g2, 0, none⟩), x3, u4, x5, x6, x7, .pointer (some ⟨g8, 0, none⟩), u9, u10, u11, u12, x13, x14, x15, x16, x17, x18, x19, x20, x21, x22, x23, x24, x25, x26, x27, x28, x29, x30, x31, x32, x33, x34, x35, x36, x37, x38, x39, x40, x41, x42, x43, x44, x45, x46, x47, x48, x49, x50, x51, x52, x53, x54, x55, x56, x57, x58, x59, x60, x61, x62, x63, x64, x65, x66, x67, x68, x69, x70, x71, x72, x73, x74, x75, x76, x77, x78, x79, x80, x81, x82, x83, x84, x85, x86, x87, x88, x89, x90, x91, x92, x93, x94, x95, x96, x97, x98, x99, x100, x101, x102, x103, x104, x105, x106, x107, x108, x109, x110, x111, x112, x113, x114, x115, x116, x117, x118, x119, x120, x121, x122, x123, x124, x125, x126, x127, x128, x129, x130, x131, x132, x133, x134, x135, x136, x137, x138, u139, u140, u141, u142, u143, u144, u145, u146, u147, u148, u149, u150, u151, u152, u153, u154, u155, u156, u157, u158, u159, u160, u161, u162, u163, u164, u165, u166, u167, u168, u169, u170, u171, u172, u173, u174, u175, u176, u177, u178, u179, u180, u181, u182, u183, u184, u185, u186, u187, u188, u189, u190, u191, u192, u193, u194, u195, u196, u197, u198, u199, u200, u201, u202, u203, u204, u205, u206, u207, u208, u209, u210, u211, u212, u213, u214, u215, u216, u217, u218, u219, u220, u221, u222, u223, u224, u225, u226, u227, u228, u229, u230, u231, x232], []⟩ w')) :
    innC.wp Try.prog Q ⟨#[x0, x1, .pointer (some ⟨g2, 0, none⟩), x3, x4, x5, x6, x7, .pointer (some ⟨g8, 0, none⟩), .int .i64 0, x10, x11, x12, x13, x14, x15, x16, x17, x18, x19, x20, x21, x22, x23, x24, x25, x26, x27, x28, x29, x30, x31, x32, x33, x34, x35, x36, x37, x38, x39, x40, x41, x42, x43, x44, x45, x46, x47, x48, x49, x50, x51, x52, x53, x54, x55, x56, x57, x58, x59, x60, x61, x62, x63, x64, x65, x66, x67, x68, x69, x70, x71, x72, x73, x74, x75, x76, x77, x78, x79, x80, x81, x82, x83, x84, x85, x86, x87, x88, x89, x90, x91, x92, x93, x94, x95, x96, x97, x98, x99, x100, x101, x102, x103, x104, x105, x106, x107, x108, x109, x110, x111, x112, x113, x114, x115, x116, x117, x118, x119, x120, x121, x122, x123, x124, x125, x126, x127, x128, x129, x130, x131, x132, x133, x134, x135, x136, x137, x138, x139, x140, x141, x142, x143, x144, x145, x146, x147, x148, x149, x150, x151, x152, x153, x154, x155, x156, x157, x158, x159, x160, x161, x162, x163, x164, x165, x166, x167, x168, x169, x170, x171, x172, x173, x174, x175, x176, x177, x178, x179, x180, x181, x182, x183, x184, x185, x186, x187, x188, x189, x190, x191, x192, x193, x194, x195, x196, x197, x198, x199, x200, x201, x202, x203, x204, x205, x206, x207, x208, x209, x210, x211, x212, x213, x214, x215, x216, x217, x218, x219, x220, x221, x222, x223, x224, x225, x226, x227, x228, x229, x230, x231, x232], []⟩ w := by
  conv => arg 2; whnf
  conv => arg 4; dsimp only
  obtain ⟨aT, cT, aX, cX, rfl, -⟩ := rGCatalog_open gc
  obtain ⟨bT, dT, bX, dX, rfl, -⟩ := rGCatalog_open gn
  go_loopw [9] (fun i wr => ∃ k : Nat, k ≤ 20 ∧ i = .int .i64 k ∧ Keep Nix w wr) (fun i _ => 20 - (intOf i).toNat)
  case atStart => exact ⟨0, by omega, rfl, Keep.refl _ _⟩
  case round =>
    obtain ⟨k, hk, rfl, kk⟩ := hrel
    replace row0 := row0.keep kk id
    replace rowN := rowN.keep kk id
    replace gc := rGCatalog_lawful.nix gc kk
    replace gn := rGCatalog_lawful.nix gn kk
    rcases Nat.lt_or_ge k 20 with hlt | hlt
    · have hlt' : (k : Int) < 20 := by omega
      have hi0 : (0 : Int) ≤ (k : Int) := by omega
      have x3 := row0.cell 3
      (try simp only [List.getElem?_cons_succ] at x3); (try simp only [List.getElem?_cons_zero] at x3)
      have n3 := rowN.cell 3
      (try simp only [List.getElem?_cons_succ] at n3); (try simp only [List.getElem?_cons_zero] at n3)
      go_upto_block 5 with fail
      go_cut [10] from 139 to 231 (fun s10 wx => ∃ id : Int, s10 = .int .i64 id ∧ wr = wx)
      case first =>
        rcases Nat.lt_or_ge k n.fIndexes.length with ha | ha
        · obtain ⟨b, o, cc, cs, e1, -, hb, r, hcl⟩ := rList_at rGIndex_lawful (by decide) (cat_idx gn) k ha
          simp only [List.cons.injEq, Value.slice.injEq, and_true] at e1
          obtain ⟨rfl, -, -⟩ := e1
          generalize n.fIndexes[k] = x at r
          obtain ⟨_, _, rfl, -⟩ := rGIndex_open r
          have y0 := hcl 0 _ rfl
          rw [Nat.add_zero] at y0
          clear r hcl
          have ha' : (k : Int) < (n.fIndexes.length : Int) := by omega
          go_wp2_with fail
          go_meet
          case rel => exact ⟨_, rfl, rfl⟩
        · have ha' : (n.fIndexes.length : Int) ≤ (k : Int) := by omega
          rcases Nat.lt_or_ge k 10 with hb | hb
          · have hb' : (k : Int) < 10 := by omega
            go_wp2_with fail
            go_roundw
            case rel => exact ⟨k + 1, by omega, by go_num, kk⟩
            case measure => simp [intOf]; omega
          · have hb' : (10 : Int) ≤ (k : Int) := by omega
            rcases Nat.lt_or_ge (k - 10) c.fIndexes.length with hc | hc
            · obtain ⟨b, o, cc, cs, e1, -, hb2, r, hcl⟩ := rList_at rGIndex_lawful (by decide) (cat_idx gc) (k - 10) hc
              simp only [List.cons.injEq, Value.slice.injEq, and_true] at e1
              obtain ⟨rfl, -, -⟩ := e1
              generalize c.fIndexes[k - 10] = x at r
              obtain ⟨_, _, rfl, -⟩ := rGIndex_open r
              have y0 := hcl 0 _ rfl
              rw [Nat.add_zero] at y0
              clear r hcl
              have hc' : (k : Int) - 10 < (c.fIndexes.length : Int) := by omega
              have hc0 : (0 : Int) ≤ (k : Int) - 10 := by omega
              have hw : IntKind.i64.wrap ((k : Int) - 10) = (k : Int) - 10 := IntWalk.i64_in _ (by omega)
              have ht : ((k : Int) - 10).toNat = k - 10 := by omega
              go_wp2_with fail
              go_meet
              case rel => exact ⟨_, rfl, rfl⟩
            · have hc' : (c.fIndexes.length : Int) ≤ (k : Int) - 10 := by omega
              have hw : IntKind.i64.wrap ((k : Int) - 10) = (k : Int) - 10 := IntWalk.i64_in _ (by omega)
              go_wp2_with fail
              clear hw
              go_roundw
              case rel => exact ⟨k + 1, by omega, by go_num, kk⟩
              case measure => simp [intOf]; omega
      case rest =>
      obtain ⟨id, rfl, rfl⟩ := hcut
      obtain ⟨o1, HO⟩ : ∃ o1, Hid (stateV c id = o1) := ⟨_, rfl⟩
      obtain ⟨n1, HN⟩ : ∃ n1, Hid (stateV n id = n1) := ⟨_, rfl⟩
      have HSd : Hid (Sides o1 n1) := by have := hS.out id; rw [HO.out, HN.out] at this; exact this
      go_upto_region 31 with fail
      go_cut [11, 12] from 139 to 231 (fun s11 s12 wx => s11 = .int .i64 o1 ∧ s12 = .int .i64 n1 ∧ Keep Nix wr wx)
      case first =>
        refine wp_region_noPanic ?_
        have kd : Keep Nix wr wr.drew := (Keep.refl Nix wr).drew
        have hS : ∀ w', Keep Nix wr w' → ((wholeSem 25 (.pointer (some ⟨g2, 0, none⟩))).run Try.prog w' = .ok (.value (.agg #[.int .i64 c.fVersion, .int .i64 c.fNext, .slice aT c.fTables.length cT, .slice aX c.fIndexes.length cX])) w' ∧ (wholeSem 25 (.pointer (some ⟨g8, 0, none⟩))).run Try.prog w' = .ok (.value (.agg #[.int .i64 n.fVersion, .int .i64 n.fNext, .slice bT n.fTables.length dT, .slice bX n.fIndexes.length dX])) w') := fun w' k' => ⟨Whole.run S_Catalog rfl (row0.keep k' _root_.id), Whole.run S_Catalog rfl (rowN.keep k' _root_.id)⟩
        have HS := Lib.hid hS
        clear hS
        refine wp_region_held_drew (S := (fun w' => ((wholeSem 25 (.pointer (some ⟨g2, 0, none⟩))).run Try.prog w' = .ok (.value (.agg #[.int .i64 c.fVersion, .int .i64 c.fNext, .slice aT c.fTables.length cT, .slice aX c.fIndexes.length cX])) w' ∧ (wholeSem 25 (.pointer (some ⟨g8, 0, none⟩))).run Try.prog w' = .ok (.value (.agg #[.int .i64 n.fVersion, .int .i64 n.fNext, .slice bT n.fTables.length dT, .slice bX n.fIndexes.length dX])) w'))) (by kernel_rfl) ((HS.out _ kd)) (fun hHeld => ?_)
        generalize wr.drew = wd at *
        refine wpAnyH_take (i := 0) (v := ?_) rfl (by kernel_rfl) (by kernel_rfl) (by kernel_rfl) (fun _ _ _ h => h) (Or.inl ⟨by kernel_rfl, ?_⟩) hHeld ?_
        rotate_left
        · intro w' hSw
          (try dsimp only at hSw)
          (try simp only [List.getElem_toArray]); (try simp only [List.getElem_cons_succ]); (try simp only [List.getElem_cons_zero])
          go_simp
          try with_reducible rfl
        (try simp only [Act.put]); (try simp only [List.getElem_toArray]); (try simp only [List.getElem_cons_succ]); (try simp only [List.getElem_cons_zero]); (try simp only [List.setIfInBounds_toArray]); (try simp only [List.set_cons_succ]); (try simp only [List.set_cons_zero])
        refine wpAnyH_take (i := 1) (v := ?_) rfl (by kernel_rfl) (by kernel_rfl) (by kernel_rfl) (fun _ _ _ h => h) (Or.inl ⟨by kernel_rfl, ?_⟩) hHeld ?_
        rotate_left
        · intro w' hSw
          (try dsimp only at hSw)
          (try simp only [List.getElem_toArray]); (try simp only [List.getElem_cons_succ]); (try simp only [List.getElem_cons_zero])
          go_simp
          try with_reducible rfl
        (try simp only [Act.put]); (try simp only [List.getElem_toArray]); (try simp only [List.getElem_cons_succ]); (try simp only [List.getElem_cons_zero]); (try simp only [List.setIfInBounds_toArray]); (try simp only [List.set_cons_succ]); (try simp only [List.set_cons_zero])
        refine wpAnyH_take (i := 3) (v := ?_) rfl (by kernel_rfl) (by kernel_rfl) (by kernel_rfl) (fun _ _ _ h => h) (Or.inl ⟨by kernel_rfl, ?_⟩) hHeld ?_
        rotate_left
        · intro w' hSw
          (try dsimp only at hSw)
          (try simp only [List.getElem_toArray]); (try simp only [List.getElem_cons_succ]); (try simp only [List.getElem_cons_zero])
          go_simp
          try with_reducible rfl
        (try simp only [Act.put]); (try simp only [List.getElem_toArray]); (try simp only [List.getElem_cons_succ]); (try simp only [List.getElem_cons_zero]); (try simp only [List.setIfInBounds_toArray]); (try simp only [List.set_cons_succ]); (try simp only [List.set_cons_zero])
        refine wpAnyH_take (i := 4) (v := ?_) rfl (by kernel_rfl) (by kernel_rfl) (by kernel_rfl) (fun _ _ _ h => h) (Or.inl ⟨by kernel_rfl, ?_⟩) hHeld ?_
        rotate_left
        · intro w' hSw
          (try dsimp only at hSw)
          (try simp only [List.getElem_toArray]); (try simp only [List.getElem_cons_succ]); (try simp only [List.getElem_cons_zero])
          go_simp
          try with_reducible rfl
        (try simp only [Act.put]); (try simp only [List.getElem_toArray]); (try simp only [List.getElem_cons_succ]); (try simp only [List.getElem_cons_zero]); (try simp only [List.setIfInBounds_toArray]); (try simp only [List.set_cons_succ]); (try simp only [List.set_cons_zero])
        refine wpAnyH_ready (rs := [2]) (by kernel_rfl) (by simp) ?_
        refine AllReadyH.cons rfl (fun K hK => ?_) AllReadyH.nil
        go_simp
        have HC := stateOf_c c _ id wd (rGCatalog_lawful.nix gc kd)
        rw [HO.out] at HC
        have HCC := Lib.hid HC
        clear HC
        go_fit HCC.out
        rintro e w5 ⟨rfl, k5⟩
        replace kd := kd.trans k5
        clear k5 HCC
        go_wp2_with fail
        refine hK.out _ _ ((HS.out _ kd)) (fun hHeld => ?_)
        clear hK K
        (try simp only [Act.put]); (try simp only [List.getElem_toArray]); (try simp only [List.getElem_cons_succ]); (try simp only [List.getElem_cons_zero]); (try simp only [List.setIfInBounds_toArray]); (try simp only [List.set_cons_succ]); (try simp only [List.set_cons_zero])
        refine wpAnyH_ready (rs := [5]) (by kernel_rfl) (by simp) ?_
        refine AllReadyH.cons rfl (fun K hK => ?_) AllReadyH.nil
        go_simp
        have HC := stateOf_c n _ id w5 (rGCatalog_lawful.nix gn kd)
        rw [HN.out] at HC
        have HCC := Lib.hid HC
        clear HC
        go_fit HCC.out
        rintro e w6 ⟨rfl, k6⟩
        replace kd := kd.trans k6
        clear k6 HCC
        go_wp2_with fail
        refine hK.out _ _ ((HS.out _ kd)) (fun hHeld => ?_)
        clear hK K
        (try simp only [Act.put]); (try simp only [List.getElem_toArray]); (try simp only [List.getElem_cons_succ]); (try simp only [List.getElem_cons_zero]); (try simp only [List.setIfInBounds_toArray]); (try simp only [List.set_cons_succ]); (try simp only [List.set_cons_zero])
        refine wpAnyH_take (i := 6) (v := ?_) rfl (by kernel_rfl) (by kernel_rfl) (by kernel_rfl) (fun _ _ _ h => h) (Or.inl ⟨by kernel_rfl, ?_⟩) hHeld ?_
        rotate_left
        · intro w' hSw
          (try dsimp only at hSw)
          (try simp only [List.getElem_toArray]); (try simp only [List.getElem_cons_succ]); (try simp only [List.getElem_cons_zero])
          go_simp
          try with_reducible rfl
        (try simp only [Act.put]); (try simp only [List.getElem_toArray]); (try simp only [List.getElem_cons_succ]); (try simp only [List.getElem_cons_zero]); (try simp only [List.setIfInBounds_toArray]); (try simp only [List.set_cons_succ]); (try simp only [List.set_cons_zero])
        refine wpAnyH_take (i := 7) (v := ?_) rfl (by kernel_rfl) (by kernel_rfl) (by kernel_rfl) (fun _ _ _ h => h) (Or.inl ⟨by kernel_rfl, ?_⟩) hHeld ?_
        rotate_left
        · intro w' hSw
          (try dsimp only at hSw)
          (try simp only [List.getElem_toArray]); (try simp only [List.getElem_cons_succ]); (try simp only [List.getElem_cons_zero])
          go_simp
          try with_reducible rfl
        (try simp only [Act.put]); (try simp only [List.getElem_toArray]); (try simp only [List.getElem_cons_succ]); (try simp only [List.getElem_cons_zero]); (try simp only [List.setIfInBounds_toArray]); (try simp only [List.set_cons_succ]); (try simp only [List.set_cons_zero])
        refine wpAnyH_done (by kernel_rfl) ?_ _
        refine NoPanic.normal ?_
        clear hHeld HS
        go_wp2_with fail
        go_meet
        case rel => exact ⟨rfl, rfl, kd⟩
      case rest =>
      obtain ⟨rfl, rfl, kd⟩ := hcut
      clear HO HN hS row0 rowN gc gn x3 n3
      replace kk := kk.trans kd
      clear kd
      go_upto_region 32 with fail
      go_cut [212] from 139 to 231 (fun s212 wx => s212 = .bool false ∧ wc = wx)
      case first =>
        rcases side_ways HSd.out with ⟨e1, e2, e4, e5⟩ | ⟨e1, e2, e3, e4, e5, e6⟩ | ⟨e1, e2, e3, e4, e5, e6⟩ | ⟨e1, e2, e3, e4, e5, e6⟩ | ⟨e1, e2, e3, e4, e5, e6⟩ | ⟨e1, e2, e3, e4, e5, e6⟩ | ⟨e1, e2, e3, e4, e5, e6⟩
        all_goals
          go_wp2_with (first | (go_at_call 24; refine (sReads_c _ _).mono ?_; rintro e w' ⟨rfl, rfl⟩) | (go_at_call 26; refine (sWrites_c _ _).mono ?_; rintro e w' ⟨rfl, rfl⟩) | (go_at_call 28; refine (sDeletes_c _ _).mono ?_; rintro e w' ⟨rfl, rfl⟩))
          go_meet
          case rel => exact ⟨rfl, rfl⟩
      case rest =>
      obtain ⟨rfl, rfl⟩ := hcut
      by_cases he : n1 = o1
      · subst he
        clear HSd
        go_wp2_with fail
        go_roundw
        case rel => exact ⟨k + 1, by omega, by go_num, kk⟩
        case measure => simp [intOf]; omega
      · have hne : (n1 != o1) = true := by rw [bne_iff_ne]; exact he
        by_cases h4 : n1 = 4
        · have h3 := HSd.out.p he h4
          have t1 : (n1 == 4) = true := by simp [h4]
          have t2 : (o1 != 3) = false := by simp [h3]
          have t3 : (n1 == 3) = false := by simp [h4]
          clear h3 h4 he HSd
          go_wp2_with fail
          go_roundw
          case rel => exact ⟨k + 1, by omega, by go_num, kk⟩
          case measure => simp [intOf]; omega
        · have t1 : (n1 == 4) = false := by simp [h4]
          by_cases h3 : n1 = 3
          · have h2 := HSd.out.b he h3
            have t2 : (o1 != 2) = false := by simp [h2]
            have t3 : (n1 == 3) = true := by simp [h3]
            clear h2 h3 h4 he HSd
            go_wp2_with fail
            go_roundw
            case rel => exact ⟨k + 1, by omega, by go_num, kk⟩
            case measure => simp [intOf]; omega
          · have t3 : (n1 == 3) = false := by simp [h3]
            clear h3 h4 he HSd
            go_wp2_with fail
            go_roundw
            case rel => exact ⟨k + 1, by omega, by go_num, kk⟩
            case measure => simp [intOf]; omega
    · have hlt' : (20 : Int) ≤ (k : Int) := by omega
      go_wp2_with fail
      exact hQ.out _ _ _ _ _ _ _ _ _ _ _ _ _ _ _ _ _ _ _ _ _ _ _ _ _ _ _ _ _ _ _ _ _ _ _ _ _ _ _ _ _ _ _ _ _ _ _ _ _ _ _ _ _ _ _ _ _ _ _ _ _ _ _ _ _ _ _ _ _ _ _ _ _ _ _ _ _ _ _ _ _ _ _ _ _ _ _ _ _ _ _ _ _ _ _ _ _ _ _ kk
end
end schemaSides
end Go.Proofs.Ytfogbbnfedcldaa
