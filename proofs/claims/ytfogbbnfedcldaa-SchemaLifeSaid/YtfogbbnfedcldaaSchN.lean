/- SCHEMA: the two great tests of the reference's Right: regions 8 and 21. Printed by mac.py. -/
import Derived.Test.YtfogbbnfedcldaaSchC
import Derived.Test.YtfogbbnfedcldaaOpt
namespace Go.Proofs.Ytfogbbnfedcldaa
open Go.RowKit
noncomputable def reg8 : Code := ((Try.f13.body.bind (regionAt 8)).getD .skip)
section
attribute [local go_sem ↓] ldz_Table
set_option maxRecDepth 100000 in
set_option maxHeartbeats 16000000 in
theorem R8 (w : World) (bc bt b o nT cT k ci : Nat) (ai : Option Addr) (ver nx u : Int) (vX : Value) (x : GTable) (aC : Option Addr) (cC : Nat) (aK : Option Addr) (cK : Nat) (x0 x2 x6 x7 x8 x9 x10 x11 x12 x13 x14 x15 x16 x17 x18 x19 x20 x21 x22 x23 x24 x25 x26 x27 x28 x29 x30 x31 x32 x33 x34 x35 x36 x37 x38 x39 x40 x41 x42 x43 x44 x45 x46 x47 x48 x49 x50 x51 x52 x53 x54 x55 x56 x57 x58 x59 x60 x61 x62 x63 x64 x65 x66 x67 x68 x69 x70 x71 x72 x73 x74 x75 x76 x77 x78 x79 x80 x81 x82 x83 x84 x85 x86 x87 x88 x89 x90 x91 x92 x93 x94 x95 x96 x97 x98 x99 x100 x101 x102 x103 x104 x105 x106 x107 x108 x109 x110 x111 x112 x113 x114 x115 x116 x117 x118 x119 x120 x121 x122 x123 x124 x125 x126 x127 x128 x129 x130 x131 x132 x133 x134 x135 x136 x137 x138 x139 x140 x141 x142 x143 x144 x145 x146 x147 x148 x149 x150 x151 x152 x153 x154 x155 x156 x157 x158 x159 x160 x161 x162 x163 x164 x165 x166 x167 x168 x169 x170 x171 x172 x173 x174 x175 x176 x177 x178 x179 x180 x181 x182 x183 x184 x185 x186 x187 x188 x189 x190 x191 x192 x193 x194 x195 x196 x197 x198 x199 x200 x201 x202 x203 : Value) (p1 p2 p3 p4 p5 p6 e2 e3 e4 e5 q : Bool)
    (row0 : RowIs w bc 25 [.int .i64 ver, .int .i64 nx, .slice (some ⟨b, o, none⟩) nT cT, vX]) (rowT : RowIs w bt 33 [.int .i64 x.fID, .string (strB x.fName), .slice aC x.fColumns.length cC, .slice aK x.fKey.length cK]) (hkT : k < nT) (mT : nT ≤ 140737488351232) (hb : b < w.heap.size)
    (hz : p4 = true → w.cell? ⟨b, o + (k - 1) * 4, none⟩ = some (.int .i64 u))
    (HIN : Hid (∀ w', Keep Nix w w' → Calls Try.prog 49 #[.slice ai k ci, .int .i64 x.fID] w' fun e w'' => e = .returned (.bool p3) ∧ w' = w''))
    (HTR : Hid (∀ w', Keep Nix w w' → Calls Try.prog 50 #[.agg #[.int .i64 x.fID, .string (strB x.fName), .slice aC x.fColumns.length cC, .slice aK x.fKey.length cK]] w' fun e w'' => e = .returned (.bool p6) ∧ Keep Nix w' w''))
    (h1 : decide (x.fID < 1) = p1) (h2 : decide (nx ≤ x.fID) = p2) (h4 : decide (0 < k) = p4) (h5 : decide (x.fID ≤ u) = p5)
    (E2 : Hid (e2 = (p1 || p2))) (E3 : Hid (e3 = (e2 || p3))) (EQ : Hid (q = (p4 && p5))) (E4 : Hid (e4 = (e3 || q))) (E5 : Hid (e5 = (e4 || !p6)))
    (Q : Exit → Act → World → Prop) (hQ : Shut (∀ (u49 u50 u51 u52 u53 u54 u55 u56 u57 u58 u59 u60 u61 u62 u63 u64 u65 u66 u67 u68 u69 u70 u71 u72 u73 u74 u75 u76 u77 u78 u79 u80 u81 u82 u83 u84 : Value) (w' : World), Keep Nix w w' → Q .normal ⟨#[x0, .pointer (some ⟨bc, 0, none⟩), x2, .slice ai k ci, .int .i64 k, .pointer (some ⟨bt, 0, none⟩), x6, x7, x8, x9, x10, x11, x12, x13, x14, x15, x16, x17, x18, x19, x20, x21, x22, x23, x24, x25, x26, x27, x28, x29, x30, x31, x32, x33, x34, x35, x36, x37, x38, x39, x40, x41, x42, x43, x44, x45, x46, x47, x48, u49, u50, u51, u52, u53, u54, u55, u56, u57, u58, u59, u60, u61, u62, u63, u64, u65, u66, u67, u68, u69, u70, u71, u72, u73, u74, u75, u76, u77, u78, u79, u80, u81, u82, u83, u84, .bool e5, x86, x87, x88, x89, x90, x91, x92, x93, x94, x95, x96, x97, x98, x99, x100, x101, x102, x103, x104, x105, x106, x107, x108, x109, x110, x111, x112, x113, x114, x115, x116, x117, x118, x119, x120, x121, x122, x123, x124, x125, x126, x127, x128, x129, x130, x131, x132, x133, x134, x135, x136, x137, x138, x139, x140, x141, x142, x143, x144, x145, x146, x147, x148, x149, x150, x151, x152, x153, x154, x155, x156, x157, x158, x159, x160, x161, x162, x163, x164, x165, x166, x167, x168, x169, x170, x171, x172, x173, x174, x175, x176, x177, x178, x179, x180, x181, x182, x183, x184, x185, x186, x187, x188, x189, x190, x191, x192, x193, x194, x195, x196, x197, x198, x199, x200, x201, x202, x203], []⟩ w')) :
    reg8.wp Try.prog Q ⟨#[x0, .pointer (some ⟨bc, 0, none⟩), x2, .slice ai k ci, .int .i64 k, .pointer (some ⟨bt, 0, none⟩), x6, x7, x8, x9, x10, x11, x12, x13, x14, x15, x16, x17, x18, x19, x20, x21, x22, x23, x24, x25, x26, x27, x28, x29, x30, x31, x32, x33, x34, x35, x36, x37, x38, x39, x40, x41, x42, x43, x44, x45, x46, x47, x48, x49, x50, x51, x52, x53, x54, x55, x56, x57, x58, x59, x60, x61, x62, x63, x64, x65, x66, x67, x68, x69, x70, x71, x72, x73, x74, x75, x76, x77, x78, x79, x80, x81, x82, x83, x84, x85, x86, x87, x88, x89, x90, x91, x92, x93, x94, x95, x96, x97, x98, x99, x100, x101, x102, x103, x104, x105, x106, x107, x108, x109, x110, x111, x112, x113, x114, x115, x116, x117, x118, x119, x120, x121, x122, x123, x124, x125, x126, x127, x128, x129, x130, x131, x132, x133, x134, x135, x136, x137, x138, x139, x140, x141, x142, x143, x144, x145, x146, x147, x148, x149, x150, x151, x152, x153, x154, x155, x156, x157, x158, x159, x160, x161, x162, x163, x164, x165, x166, x167, x168, x169, x170, x171, x172, x173, x174, x175, x176, x177, x178, x179, x180, x181, x182, x183, x184, x185, x186, x187, x188, x189, x190, x191, x192, x193, x194, x195, x196, x197, x198, x199, x200, x201, x202, x203], []⟩ w := by
  conv => arg 2; whnf
  refine wp_region_noPanic ?_
  have kk : Keep Nix w w.drew := (Keep.refl Nix w).drew
  have hS : ∀ w', Keep Nix w w' → (w'.cell? ⟨bt, 0, none⟩ = some (.int .i64 x.fID) ∧ w'.cell? ⟨bc, 1, none⟩ = some (.int .i64 nx) ∧ w'.cell? ⟨bc, 2, none⟩ = some (.slice (some ⟨b, o, none⟩) nT cT) ∧ (p4 = true → w'.cell? ⟨b, o + (k - 1) * 4, none⟩ = some (.int .i64 u)) ∧ (wholeSem 33 (.pointer (some ⟨bt, 0, none⟩))).run Try.prog w' = .ok (.value (.agg #[.int .i64 x.fID, .string (strB x.fName), .slice aC x.fColumns.length cC, .slice aK x.fKey.length cK])) w') :=
    fun w' k => ⟨(rowT.keep k id).cell 0, (row0.keep k id).cell 1, (row0.keep k id).cell 2, fun h => (k.cell hb id).trans (hz h), Whole.row S_Table rfl (rowT.keep k id)⟩
  have HS := Lib.hid hS
  clear hS hz row0 rowT
  refine wp_region_held_drew (S := fun w' => w'.cell? ⟨bt, 0, none⟩ = some (.int .i64 x.fID) ∧ w'.cell? ⟨bc, 1, none⟩ = some (.int .i64 nx) ∧ w'.cell? ⟨bc, 2, none⟩ = some (.slice (some ⟨b, o, none⟩) nT cT) ∧ (p4 = true → w'.cell? ⟨b, o + (k - 1) * 4, none⟩ = some (.int .i64 u)) ∧ (wholeSem 33 (.pointer (some ⟨bt, 0, none⟩))).run Try.prog w' = .ok (.value (.agg #[.int .i64 x.fID, .string (strB x.fName), .slice aC x.fColumns.length cC, .slice aK x.fKey.length cK])) w') (by kernel_rfl) (HS.out _ kk) (fun hHeld => ?_)
  refine wpAnyH_take (i := 0) (v := ?_) rfl (by kernel_rfl) (by kernel_rfl) (by kernel_rfl) (fun _ _ _ h => h) (Or.inl ⟨by kernel_rfl, ?_⟩) hHeld ?_
  rotate_left
  · intro w' hSw
    (try dsimp only at hSw)
    (try simp only [List.getElem_toArray]); (try simp only [List.getElem_cons_succ]); (try simp only [List.getElem_cons_zero])
    go_simp
    try with_reducible rfl
  (try simp only [Act.put]); (try simp only [List.getElem_toArray]); (try simp only [List.getElem_cons_succ]); (try simp only [List.getElem_cons_zero]); (try simp only [List.setIfInBounds_toArray]); (try simp only [List.set_cons_succ]); (try simp only [List.set_cons_zero])
  refine wpAnyH_take (i := 1) (v := ?_) rfl (by kernel_rfl) (by kernel_rfl) (by kernel_rfl) (fun _ _ _ h => h) (Or.inl ⟨by kernel_rfl, ?_⟩) hHeld ?_
  rotate_left
  · intro w' hSw
    (try dsimp only at hSw)
    (try simp only [List.getElem_toArray]); (try simp only [List.getElem_cons_succ]); (try simp only [List.getElem_cons_zero])
    go_simp
    try with_reducible rfl
  (try simp only [Act.put]); (try simp only [List.getElem_toArray]); (try simp only [List.getElem_cons_succ]); (try simp only [List.getElem_cons_zero]); (try simp only [List.setIfInBounds_toArray]); (try simp only [List.set_cons_succ]); (try simp only [List.set_cons_zero])
  refine wpAnyH_take (i := 2) (v := ?_) rfl (by kernel_rfl) (by kernel_rfl) (by kernel_rfl) (fun _ _ _ h => h) (Or.inl ⟨by kernel_rfl, ?_⟩) hHeld ?_
  rotate_left
  · intro w' hSw
    (try dsimp only at hSw)
    (try simp only [List.getElem_toArray]); (try simp only [List.getElem_cons_succ]); (try simp only [List.getElem_cons_zero])
    go_simp
    try with_reducible rfl
  (try simp only [Act.put]); (try simp only [List.getElem_toArray]); (try simp only [List.getElem_cons_succ]); (try simp only [List.getElem_cons_zero]); (try simp only [List.setIfInBounds_toArray]); (try simp only [List.set_cons_succ]); (try simp only [List.set_cons_zero])
  (try simp only [h1])
  refine wpAnyH_take (i := 3) (v := ?_) rfl (by kernel_rfl) (by kernel_rfl) (by kernel_rfl) (fun _ _ _ h => h) (Or.inl ⟨by kernel_rfl, ?_⟩) hHeld ?_
  rotate_left
  · intro w' hSw
    (try dsimp only at hSw)
    (try simp only [List.getElem_toArray]); (try simp only [List.getElem_cons_succ]); (try simp only [List.getElem_cons_zero])
    go_simp
    try with_reducible rfl
  (try simp only [Act.put]); (try simp only [List.getElem_toArray]); (try simp only [List.getElem_cons_succ]); (try simp only [List.getElem_cons_zero]); (try simp only [List.setIfInBounds_toArray]); (try simp only [List.set_cons_succ]); (try simp only [List.set_cons_zero])
  refine wpAnyH_opt (i := 4) (!p1) (v := ?_) rfl (by kernel_rfl) (by kernel_rfl) (by kernel_rfl) (fun _ _ _ h => h) (by cases p1 <;> kernel_rfl) hHeld ?_ ?_
  rotate_left
  · intro hg w' hSw
    obtain rfl : p1 = false := by cases p1 <;> first | rfl | exact nomatch hg
    (try dsimp only at hSw)
    (try simp only [List.getElem_toArray]); (try simp only [List.getElem_cons_succ]); (try simp only [List.getElem_cons_zero])
    (try simp only [Bool.not_false]); (try simp only [Bool.and_true]); (try simp only [opt_t])
    go_simp
    try with_reducible rfl
  (try simp only [Act.put]); (try simp only [List.getElem_toArray]); (try simp only [List.getElem_cons_succ]); (try simp only [List.getElem_cons_zero]); (try simp only [List.setIfInBounds_toArray]); (try simp only [List.set_cons_succ]); (try simp only [List.set_cons_zero])
  refine wpAnyH_opt (i := 5) (!p1) (v := ?_) rfl (by kernel_rfl) (by kernel_rfl) (by kernel_rfl) (fun _ _ _ h => h) (by cases p1 <;> kernel_rfl) hHeld ?_ ?_
  rotate_left
  · intro hg w' hSw
    obtain rfl : p1 = false := by cases p1 <;> first | rfl | exact nomatch hg
    (try dsimp only at hSw)
    (try simp only [List.getElem_toArray]); (try simp only [List.getElem_cons_succ]); (try simp only [List.getElem_cons_zero])
    (try simp only [Bool.not_false]); (try simp only [Bool.and_true]); (try simp only [opt_t])
    go_simp
    try with_reducible rfl
  (try simp only [Act.put]); (try simp only [List.getElem_toArray]); (try simp only [List.getElem_cons_succ]); (try simp only [List.getElem_cons_zero]); (try simp only [List.setIfInBounds_toArray]); (try simp only [List.set_cons_succ]); (try simp only [List.set_cons_zero])
  refine wpAnyH_opt (i := 6) (!p1) (v := ?_) rfl (by kernel_rfl) (by kernel_rfl) (by kernel_rfl) (fun _ _ _ h => h) (by cases p1 <;> kernel_rfl) hHeld ?_ ?_
  rotate_left
  · intro hg w' hSw
    obtain rfl : p1 = false := by cases p1 <;> first | rfl | exact nomatch hg
    (try dsimp only at hSw)
    (try simp only [List.getElem_toArray]); (try simp only [List.getElem_cons_succ]); (try simp only [List.getElem_cons_zero])
    (try simp only [Bool.not_false]); (try simp only [Bool.and_true]); (try simp only [opt_t])
    go_simp
    try with_reducible rfl
  (try simp only [Act.put]); (try simp only [List.getElem_toArray]); (try simp only [List.getElem_cons_succ]); (try simp only [List.getElem_cons_zero]); (try simp only [List.setIfInBounds_toArray]); (try simp only [List.set_cons_succ]); (try simp only [List.set_cons_zero])
  refine wpAnyH_opt (i := 7) (!p1) (v := ?_) rfl (by kernel_rfl) (by kernel_rfl) (by kernel_rfl) (fun _ _ _ h => h) (by cases p1 <;> kernel_rfl) hHeld ?_ ?_
  rotate_left
  · intro hg w' hSw
    obtain rfl : p1 = false := by cases p1 <;> first | rfl | exact nomatch hg
    (try dsimp only at hSw)
    (try simp only [List.getElem_toArray]); (try simp only [List.getElem_cons_succ]); (try simp only [List.getElem_cons_zero])
    (try simp only [Bool.not_false]); (try simp only [Bool.and_true]); (try simp only [opt_t])
    go_simp
    try with_reducible rfl
  (try simp only [Act.put]); (try simp only [List.getElem_toArray]); (try simp only [List.getElem_cons_succ]); (try simp only [List.getElem_cons_zero]); (try simp only [List.setIfInBounds_toArray]); (try simp only [List.set_cons_succ]); (try simp only [List.set_cons_zero])
  refine wpAnyH_opt (i := 8) (!p1) (v := ?_) rfl (by kernel_rfl) (by kernel_rfl) (by kernel_rfl) (fun _ _ _ h => h) (by cases p1 <;> kernel_rfl) hHeld ?_ ?_
  rotate_left
  · intro hg w' hSw
    obtain rfl : p1 = false := by cases p1 <;> first | rfl | exact nomatch hg
    (try dsimp only at hSw)
    (try simp only [List.getElem_toArray]); (try simp only [List.getElem_cons_succ]); (try simp only [List.getElem_cons_zero])
    (try simp only [Bool.not_false]); (try simp only [Bool.and_true]); (try simp only [opt_t])
    go_simp
    try with_reducible rfl
  (try simp only [Act.put]); (try simp only [List.getElem_toArray]); (try simp only [List.getElem_cons_succ]); (try simp only [List.getElem_cons_zero]); (try simp only [List.setIfInBounds_toArray]); (try simp only [List.set_cons_succ]); (try simp only [List.set_cons_zero])
  (try simp only [h2])
  refine wpAnyH_take (i := 9) (v := .bool e2) rfl (by kernel_rfl) (by kernel_rfl) (by kernel_rfl) (fun _ _ _ h => h) (Or.inl ⟨by kernel_rfl, fun w' _ => ?_⟩) hHeld ?_
  · have E2' := E2.out; clear E2; subst E2'; cases p1 <;> cases p2 <;> (show _ = _; kernel_rfl)
  (try simp only [Act.put]); (try simp only [List.getElem_toArray]); (try simp only [List.getElem_cons_succ]); (try simp only [List.getElem_cons_zero]); (try simp only [List.setIfInBounds_toArray]); (try simp only [List.set_cons_succ]); (try simp only [List.set_cons_zero])
  refine wpAnyH_take (i := 10) (v := ?_) rfl (by kernel_rfl) (by kernel_rfl) (by kernel_rfl) (fun _ _ _ h => h) (Or.inl ⟨by kernel_rfl, ?_⟩) hHeld ?_
  rotate_left
  · intro w' hSw
    (try dsimp only at hSw)
    (try simp only [List.getElem_toArray]); (try simp only [List.getElem_cons_succ]); (try simp only [List.getElem_cons_zero])
    go_simp
    try with_reducible rfl
  (try simp only [Act.put]); (try simp only [List.getElem_toArray]); (try simp only [List.getElem_cons_succ]); (try simp only [List.getElem_cons_zero]); (try simp only [List.setIfInBounds_toArray]); (try simp only [List.set_cons_succ]); (try simp only [List.set_cons_zero])
  refine wpAnyH_opt (i := 11) (!e2) (v := ?_) rfl (by kernel_rfl) (by kernel_rfl) (by kernel_rfl) (fun _ _ _ h => h) (by cases e2 <;> kernel_rfl) hHeld ?_ ?_
  rotate_left
  · intro hg w' hSw
    obtain rfl : e2 = false := by cases e2 <;> first | rfl | exact nomatch hg
    (try dsimp only at hSw)
    (try simp only [List.getElem_toArray]); (try simp only [List.getElem_cons_succ]); (try simp only [List.getElem_cons_zero])
    (try simp only [Bool.not_false]); (try simp only [Bool.and_true]); (try simp only [opt_t])
    go_simp
    try with_reducible rfl
  (try simp only [Act.put]); (try simp only [List.getElem_toArray]); (try simp only [List.getElem_cons_succ]); (try simp only [List.getElem_cons_zero]); (try simp only [List.setIfInBounds_toArray]); (try simp only [List.set_cons_succ]); (try simp only [List.set_cons_zero])
  refine wpAnyH_opt (i := 12) (!e2) (v := ?_) rfl (by kernel_rfl) (by kernel_rfl) (by kernel_rfl) (fun _ _ _ h => h) (by cases e2 <;> kernel_rfl) hHeld ?_ ?_
  rotate_left
  · intro hg w' hSw
    obtain rfl : e2 = false := by cases e2 <;> first | rfl | exact nomatch hg
    (try dsimp only at hSw)
    (try simp only [List.getElem_toArray]); (try simp only [List.getElem_cons_succ]); (try simp only [List.getElem_cons_zero])
    (try simp only [Bool.not_false]); (try simp only [Bool.and_true]); (try simp only [opt_t])
    go_simp
    try with_reducible rfl
  (try simp only [Act.put]); (try simp only [List.getElem_toArray]); (try simp only [List.getElem_cons_succ]); (try simp only [List.getElem_cons_zero]); (try simp only [List.setIfInBounds_toArray]); (try simp only [List.set_cons_succ]); (try simp only [List.set_cons_zero])
  refine wpAnyH_opt (i := 13) (!e2) (v := ?_) rfl (by kernel_rfl) (by kernel_rfl) (by kernel_rfl) (fun _ _ _ h => h) (by cases e2 <;> kernel_rfl) hHeld ?_ ?_
  rotate_left
  · intro hg w' hSw
    obtain rfl : e2 = false := by cases e2 <;> first | rfl | exact nomatch hg
    (try dsimp only at hSw)
    (try simp only [List.getElem_toArray]); (try simp only [List.getElem_cons_succ]); (try simp only [List.getElem_cons_zero])
    (try simp only [Bool.not_false]); (try simp only [Bool.and_true]); (try simp only [opt_t])
    go_simp
    try with_reducible rfl
  (try simp only [Act.put]); (try simp only [List.getElem_toArray]); (try simp only [List.getElem_cons_succ]); (try simp only [List.getElem_cons_zero]); (try simp only [List.setIfInBounds_toArray]); (try simp only [List.set_cons_succ]); (try simp only [List.set_cons_zero])
  refine wpAnyH_optcall (i := 14) (!e2) (v := .bool p3) (Keep Nix w) rfl (by kernel_rfl) (by cases e2 <;> kernel_rfl) ?_ kk (fun w' k => HS.out w' k) ?_
  · intro hg K hK
    obtain rfl : e2 = false := by cases e2 <;> first | rfl | exact nomatch hg
    (try simp only [Bool.not_false]); (try simp only [opt_t])
    go_simp
    go_fit (HIN.out _ kk)
    rintro e w1 ⟨rfl, rfl⟩
    go_wp2_with fail
    exact hK.out _ kk
  clear hHeld kk
  intro w1 kk hHeld
  (try simp only [Act.put]); (try simp only [List.getElem_toArray]); (try simp only [List.getElem_cons_succ]); (try simp only [List.getElem_cons_zero]); (try simp only [List.setIfInBounds_toArray]); (try simp only [List.set_cons_succ]); (try simp only [List.set_cons_zero])
  refine wpAnyH_take (i := 15) (v := .bool e3) rfl (by kernel_rfl) (by kernel_rfl) (by kernel_rfl) (fun _ _ _ h => h) (Or.inl ⟨by kernel_rfl, fun w' _ => ?_⟩) hHeld ?_
  · have E3' := E3.out; clear E3; subst E3'; cases e2 <;> cases p3 <;> (show _ = _; kernel_rfl)
  (try simp only [Act.put]); (try simp only [List.getElem_toArray]); (try simp only [List.getElem_cons_succ]); (try simp only [List.getElem_cons_zero]); (try simp only [List.setIfInBounds_toArray]); (try simp only [List.set_cons_succ]); (try simp only [List.set_cons_zero])
  refine wpAnyH_take (i := 16) (v := ?_) rfl (by kernel_rfl) (by kernel_rfl) (by kernel_rfl) (fun _ _ _ h => h) (Or.inl ⟨by kernel_rfl, ?_⟩) hHeld ?_
  rotate_left
  · intro w' hSw
    (try dsimp only at hSw)
    (try simp only [List.getElem_toArray]); (try simp only [List.getElem_cons_succ]); (try simp only [List.getElem_cons_zero])
    go_simp
    try with_reducible rfl
  (try simp only [Act.put]); (try simp only [List.getElem_toArray]); (try simp only [List.getElem_cons_succ]); (try simp only [List.getElem_cons_zero]); (try simp only [List.setIfInBounds_toArray]); (try simp only [List.set_cons_succ]); (try simp only [List.set_cons_zero])
  refine wpAnyH_opt (i := 17) (!e3) (v := ?_) rfl (by kernel_rfl) (by kernel_rfl) (by kernel_rfl) (fun _ _ _ h => h) (by cases e3 <;> kernel_rfl) hHeld ?_ ?_
  rotate_left
  · intro hg w' hSw
    obtain rfl : e3 = false := by cases e3 <;> first | rfl | exact nomatch hg
    (try dsimp only at hSw)
    (try simp only [List.getElem_toArray]); (try simp only [List.getElem_cons_succ]); (try simp only [List.getElem_cons_zero])
    (try simp only [Bool.not_false]); (try simp only [Bool.and_true]); (try simp only [opt_t])
    go_simp
    try with_reducible rfl
  (try simp only [Act.put]); (try simp only [List.getElem_toArray]); (try simp only [List.getElem_cons_succ]); (try simp only [List.getElem_cons_zero]); (try simp only [List.setIfInBounds_toArray]); (try simp only [List.set_cons_succ]); (try simp only [List.set_cons_zero])
  refine wpAnyH_opt (i := 18) (!e3) (v := ?_) rfl (by kernel_rfl) (by kernel_rfl) (by kernel_rfl) (fun _ _ _ h => h) (by cases e3 <;> kernel_rfl) hHeld ?_ ?_
  rotate_left
  · intro hg w' hSw
    obtain rfl : e3 = false := by cases e3 <;> first | rfl | exact nomatch hg
    (try dsimp only at hSw)
    (try simp only [List.getElem_toArray]); (try simp only [List.getElem_cons_succ]); (try simp only [List.getElem_cons_zero])
    (try simp only [Bool.not_false]); (try simp only [Bool.and_true]); (try simp only [opt_t])
    go_simp
    try with_reducible rfl
  (try simp only [Act.put]); (try simp only [List.getElem_toArray]); (try simp only [List.getElem_cons_succ]); (try simp only [List.getElem_cons_zero]); (try simp only [List.setIfInBounds_toArray]); (try simp only [List.set_cons_succ]); (try simp only [List.set_cons_zero])
  (try simp only [h4])
  refine wpAnyH_opt (i := 19) (!e3) (v := ?_) rfl (by kernel_rfl) (by kernel_rfl) (by kernel_rfl) (fun _ _ _ h => h) (by cases e3 <;> kernel_rfl) hHeld ?_ ?_
  rotate_left
  · intro hg w' hSw
    obtain rfl : e3 = false := by cases e3 <;> first | rfl | exact nomatch hg
    (try dsimp only at hSw)
    (try simp only [List.getElem_toArray]); (try simp only [List.getElem_cons_succ]); (try simp only [List.getElem_cons_zero])
    (try simp only [Bool.not_false]); (try simp only [Bool.and_true]); (try simp only [opt_t])
    go_simp
    try with_reducible rfl
  (try simp only [Act.put]); (try simp only [List.getElem_toArray]); (try simp only [List.getElem_cons_succ]); (try simp only [List.getElem_cons_zero]); (try simp only [List.setIfInBounds_toArray]); (try simp only [List.set_cons_succ]); (try simp only [List.set_cons_zero])
  refine wpAnyH_opt (i := 20) (!e3 && p4) (v := ?_) rfl (by kernel_rfl) (by kernel_rfl) (by kernel_rfl) (fun _ _ _ h => h) (by cases e3 <;> cases p4 <;> kernel_rfl) hHeld ?_ ?_
  rotate_left
  · intro hg w' hSw
    obtain rfl : e3 = false := by cases e3 <;> first | rfl | exact nomatch hg
    obtain rfl : p4 = true := by cases p4 <;> first | rfl | exact nomatch hg
    (try dsimp only at hSw)
    (try simp only [List.getElem_toArray]); (try simp only [List.getElem_cons_succ]); (try simp only [List.getElem_cons_zero])
    (try simp only [Bool.not_false]); (try simp only [Bool.and_true]); (try simp only [opt_t])
    go_simp
    try with_reducible rfl
  (try simp only [Act.put]); (try simp only [List.getElem_toArray]); (try simp only [List.getElem_cons_succ]); (try simp only [List.getElem_cons_zero]); (try simp only [List.setIfInBounds_toArray]); (try simp only [List.set_cons_succ]); (try simp only [List.set_cons_zero])
  refine wpAnyH_opt (i := 21) (!e3 && p4) (v := ?_) rfl (by kernel_rfl) (by kernel_rfl) (by kernel_rfl) (fun _ _ _ h => h) (by cases e3 <;> cases p4 <;> kernel_rfl) hHeld ?_ ?_
  rotate_left
  · intro hg w' hSw
    obtain rfl : e3 = false := by cases e3 <;> first | rfl | exact nomatch hg
    obtain rfl : p4 = true := by cases p4 <;> first | rfl | exact nomatch hg
    (try dsimp only at hSw)
    (try simp only [List.getElem_toArray]); (try simp only [List.getElem_cons_succ]); (try simp only [List.getElem_cons_zero])
    (try simp only [Bool.not_false]); (try simp only [Bool.and_true]); (try simp only [opt_t])
    go_simp
    try with_reducible rfl
  (try simp only [Act.put]); (try simp only [List.getElem_toArray]); (try simp only [List.getElem_cons_succ]); (try simp only [List.getElem_cons_zero]); (try simp only [List.setIfInBounds_toArray]); (try simp only [List.set_cons_succ]); (try simp only [List.set_cons_zero])
  refine wpAnyH_opt (i := 22) (!e3 && p4) (v := ?_) rfl (by kernel_rfl) (by kernel_rfl) (by kernel_rfl) (fun _ _ _ h => h) (by cases e3 <;> cases p4 <;> kernel_rfl) hHeld ?_ ?_
  rotate_left
  · intro hg w' hSw
    obtain rfl : e3 = false := by cases e3 <;> first | rfl | exact nomatch hg
    obtain rfl : p4 = true := by cases p4 <;> first | rfl | exact nomatch hg
    (try dsimp only at hSw)
    (try simp only [List.getElem_toArray]); (try simp only [List.getElem_cons_succ]); (try simp only [List.getElem_cons_zero])
    (try simp only [Bool.not_false]); (try simp only [Bool.and_true]); (try simp only [opt_t])
    go_simp
    try with_reducible rfl
  (try simp only [Act.put]); (try simp only [List.getElem_toArray]); (try simp only [List.getElem_cons_succ]); (try simp only [List.getElem_cons_zero]); (try simp only [List.setIfInBounds_toArray]); (try simp only [List.set_cons_succ]); (try simp only [List.set_cons_zero])
  refine wpAnyH_opt (i := 23) (!e3 && p4) (v := ?_) rfl (by kernel_rfl) (by kernel_rfl) (by kernel_rfl) (fun _ _ _ h => h) (by cases e3 <;> cases p4 <;> kernel_rfl) hHeld ?_ ?_
  rotate_left
  · intro hg w' hSw
    obtain rfl : e3 = false := by cases e3 <;> first | rfl | exact nomatch hg
    obtain rfl : p4 = true := by cases p4 <;> first | rfl | exact nomatch hg
    (try dsimp only at hSw)
    (try simp only [List.getElem_toArray]); (try simp only [List.getElem_cons_succ]); (try simp only [List.getElem_cons_zero])
    (try simp only [Bool.not_false]); (try simp only [Bool.and_true]); (try simp only [opt_t])
    go_simp
    try with_reducible rfl
  (try simp only [Act.put]); (try simp only [List.getElem_toArray]); (try simp only [List.getElem_cons_succ]); (try simp only [List.getElem_cons_zero]); (try simp only [List.setIfInBounds_toArray]); (try simp only [List.set_cons_succ]); (try simp only [List.set_cons_zero])
  refine wpAnyH_opt (i := 24) (!e3 && p4) (v := ?_) rfl (by kernel_rfl) (by kernel_rfl) (by kernel_rfl) (fun _ _ _ h => h) (by cases e3 <;> cases p4 <;> kernel_rfl) hHeld ?_ ?_
  rotate_left
  · intro hg w' hSw
    obtain rfl : e3 = false := by cases e3 <;> first | rfl | exact nomatch hg
    obtain rfl : p4 = true := by cases p4 <;> first | rfl | exact nomatch hg
    (try dsimp only at hSw)
    (try simp only [List.getElem_toArray]); (try simp only [List.getElem_cons_succ]); (try simp only [List.getElem_cons_zero])
    (try simp only [Bool.not_false]); (try simp only [Bool.and_true]); (try simp only [opt_t])
    go_simp
    try with_reducible rfl
  (try simp only [Act.put]); (try simp only [List.getElem_toArray]); (try simp only [List.getElem_cons_succ]); (try simp only [List.getElem_cons_zero]); (try simp only [List.setIfInBounds_toArray]); (try simp only [List.set_cons_succ]); (try simp only [List.set_cons_zero])
  refine wpAnyH_opt (i := 25) (!e3 && p4) (v := ?_) rfl (by kernel_rfl) (by kernel_rfl) (by kernel_rfl) (fun _ _ _ h => h) (by cases e3 <;> cases p4 <;> kernel_rfl) hHeld ?_ ?_
  rotate_left
  · intro hg w' hSw
    obtain rfl : e3 = false := by cases e3 <;> first | rfl | exact nomatch hg
    obtain rfl : p4 = true := by cases p4 <;> first | rfl | exact nomatch hg
    have d0 : 0 < k := of_decide_eq_true h4
    have d5 : IntKind.i64.wrap ((k : Int) - 1) = (k : Int) - 1 := IntWalk.i64_in _ (by omega)
    have d6 : (0 : Int) ≤ (k : Int) - 1 := by omega
    have d6b : (1 : Int) ≤ (k : Int) := by omega
    have d7 : ((k : Int) - 1).toNat = k - 1 := by omega
    have d8 : (k : Int) - 1 < (nT : Int) := by omega
    (try dsimp only at hSw)
    (try simp only [List.getElem_toArray]); (try simp only [List.getElem_cons_succ]); (try simp only [List.getElem_cons_zero])
    (try simp only [Bool.not_false]); (try simp only [Bool.and_true]); (try simp only [opt_t])
    go_simp
    try with_reducible rfl
  (try simp only [Act.put]); (try simp only [List.getElem_toArray]); (try simp only [List.getElem_cons_succ]); (try simp only [List.getElem_cons_zero]); (try simp only [List.setIfInBounds_toArray]); (try simp only [List.set_cons_succ]); (try simp only [List.set_cons_zero])
  refine wpAnyH_opt (i := 26) (!e3 && p4) (v := ?_) rfl (by kernel_rfl) (by kernel_rfl) (by kernel_rfl) (fun _ _ _ h => h) (by cases e3 <;> cases p4 <;> kernel_rfl) hHeld ?_ ?_
  rotate_left
  · intro hg w' hSw
    obtain rfl : e3 = false := by cases e3 <;> first | rfl | exact nomatch hg
    obtain rfl : p4 = true := by cases p4 <;> first | rfl | exact nomatch hg
    have d0 : 0 < k := of_decide_eq_true h4
    have d5 : IntKind.i64.wrap ((k : Int) - 1) = (k : Int) - 1 := IntWalk.i64_in _ (by omega)
    have d6 : (0 : Int) ≤ (k : Int) - 1 := by omega
    have d6b : (1 : Int) ≤ (k : Int) := by omega
    have d7 : ((k : Int) - 1).toNat = k - 1 := by omega
    have d8 : (k : Int) - 1 < (nT : Int) := by omega
    (try dsimp only at hSw)
    (try simp only [List.getElem_toArray]); (try simp only [List.getElem_cons_succ]); (try simp only [List.getElem_cons_zero])
    (try simp only [Bool.not_false]); (try simp only [Bool.and_true]); (try simp only [opt_t])
    go_simp
    try with_reducible rfl
  (try simp only [Act.put]); (try simp only [List.getElem_toArray]); (try simp only [List.getElem_cons_succ]); (try simp only [List.getElem_cons_zero]); (try simp only [List.setIfInBounds_toArray]); (try simp only [List.set_cons_succ]); (try simp only [List.set_cons_zero])
  refine wpAnyH_opt (i := 27) (!e3 && p4) (v := ?_) rfl (by kernel_rfl) (by kernel_rfl) (by kernel_rfl) (fun _ _ _ h => h) (by cases e3 <;> cases p4 <;> kernel_rfl) hHeld ?_ ?_
  rotate_left
  · intro hg w' hSw
    obtain rfl : e3 = false := by cases e3 <;> first | rfl | exact nomatch hg
    obtain rfl : p4 = true := by cases p4 <;> first | rfl | exact nomatch hg
    have d0 : 0 < k := of_decide_eq_true h4
    have d5 : IntKind.i64.wrap ((k : Int) - 1) = (k : Int) - 1 := IntWalk.i64_in _ (by omega)
    have d6 : (0 : Int) ≤ (k : Int) - 1 := by omega
    have d6b : (1 : Int) ≤ (k : Int) := by omega
    have d7 : ((k : Int) - 1).toNat = k - 1 := by omega
    have d8 : (k : Int) - 1 < (nT : Int) := by omega
    (try dsimp only at hSw)
    (try simp only [List.getElem_toArray]); (try simp only [List.getElem_cons_succ]); (try simp only [List.getElem_cons_zero])
    (try simp only [Bool.not_false]); (try simp only [Bool.and_true]); (try simp only [opt_t])
    go_simp
    try with_reducible rfl
  (try simp only [Act.put]); (try simp only [List.getElem_toArray]); (try simp only [List.getElem_cons_succ]); (try simp only [List.getElem_cons_zero]); (try simp only [List.setIfInBounds_toArray]); (try simp only [List.set_cons_succ]); (try simp only [List.set_cons_zero])
  refine wpAnyH_opt (i := 28) (!e3 && p4) (v := ?_) rfl (by kernel_rfl) (by kernel_rfl) (by kernel_rfl) (fun _ _ _ h => h) (by cases e3 <;> cases p4 <;> kernel_rfl) hHeld ?_ ?_
  rotate_left
  · intro hg w' hSw
    obtain rfl : e3 = false := by cases e3 <;> first | rfl | exact nomatch hg
    obtain rfl : p4 = true := by cases p4 <;> first | rfl | exact nomatch hg
    have d0 : 0 < k := of_decide_eq_true h4
    have d5 : IntKind.i64.wrap ((k : Int) - 1) = (k : Int) - 1 := IntWalk.i64_in _ (by omega)
    have d6 : (0 : Int) ≤ (k : Int) - 1 := by omega
    have d6b : (1 : Int) ≤ (k : Int) := by omega
    have d7 : ((k : Int) - 1).toNat = k - 1 := by omega
    have d8 : (k : Int) - 1 < (nT : Int) := by omega
    (try dsimp only at hSw)
    (try simp only [List.getElem_toArray]); (try simp only [List.getElem_cons_succ]); (try simp only [List.getElem_cons_zero])
    (try simp only [Bool.not_false]); (try simp only [Bool.and_true]); (try simp only [opt_t])
    go_simp
    try with_reducible rfl
  (try simp only [Act.put]); (try simp only [List.getElem_toArray]); (try simp only [List.getElem_cons_succ]); (try simp only [List.getElem_cons_zero]); (try simp only [List.setIfInBounds_toArray]); (try simp only [List.set_cons_succ]); (try simp only [List.set_cons_zero])
  refine wpAnyH_opt (i := 29) (!e3 && p4) (v := ?_) rfl (by kernel_rfl) (by kernel_rfl) (by kernel_rfl) (fun _ _ _ h => h) (by cases e3 <;> cases p4 <;> kernel_rfl) hHeld ?_ ?_
  rotate_left
  · intro hg w' hSw
    obtain rfl : e3 = false := by cases e3 <;> first | rfl | exact nomatch hg
    obtain rfl : p4 = true := by cases p4 <;> first | rfl | exact nomatch hg
    have d0 : 0 < k := of_decide_eq_true h4
    have d5 : IntKind.i64.wrap ((k : Int) - 1) = (k : Int) - 1 := IntWalk.i64_in _ (by omega)
    have d6 : (0 : Int) ≤ (k : Int) - 1 := by omega
    have d6b : (1 : Int) ≤ (k : Int) := by omega
    have d7 : ((k : Int) - 1).toNat = k - 1 := by omega
    have d8 : (k : Int) - 1 < (nT : Int) := by omega
    (try dsimp only at hSw)
    (try simp only [List.getElem_toArray]); (try simp only [List.getElem_cons_succ]); (try simp only [List.getElem_cons_zero])
    (try simp only [Bool.not_false]); (try simp only [Bool.and_true]); (try simp only [opt_t])
    go_simp
    try with_reducible rfl
  (try simp only [Act.put]); (try simp only [List.getElem_toArray]); (try simp only [List.getElem_cons_succ]); (try simp only [List.getElem_cons_zero]); (try simp only [List.setIfInBounds_toArray]); (try simp only [List.set_cons_succ]); (try simp only [List.set_cons_zero])
  (try simp only [h5])
  refine wpAnyH_opt (i := 30) (!e3) (v := .bool q) rfl (by kernel_rfl) (by kernel_rfl) (by kernel_rfl) (fun _ _ _ h => h) (by cases e3 <;> kernel_rfl) hHeld ?_ ?_
  · intro hg w' _
    obtain rfl : e3 = false := by cases e3 <;> first | rfl | exact nomatch hg
    have EQ' := EQ.out; clear EQ; subst EQ'; cases p4 <;> cases p5 <;> (show _ = _; kernel_rfl)
  (try simp only [Act.put]); (try simp only [List.getElem_toArray]); (try simp only [List.getElem_cons_succ]); (try simp only [List.getElem_cons_zero]); (try simp only [List.setIfInBounds_toArray]); (try simp only [List.set_cons_succ]); (try simp only [List.set_cons_zero])
  refine wpAnyH_take (i := 31) (v := .bool e4) rfl (by kernel_rfl) (by kernel_rfl) (by kernel_rfl) (fun _ _ _ h => h) (Or.inl ⟨by kernel_rfl, fun w' _ => ?_⟩) hHeld ?_
  · have E4' := E4.out; clear E4; subst E4'; cases e3 <;> cases q <;> (show _ = _; kernel_rfl)
  (try simp only [Act.put]); (try simp only [List.getElem_toArray]); (try simp only [List.getElem_cons_succ]); (try simp only [List.getElem_cons_zero]); (try simp only [List.setIfInBounds_toArray]); (try simp only [List.set_cons_succ]); (try simp only [List.set_cons_zero])
  refine wpAnyH_take (i := 32) (v := ?_) rfl (by kernel_rfl) (by kernel_rfl) (by kernel_rfl) (fun _ _ _ h => h) (Or.inl ⟨by kernel_rfl, ?_⟩) hHeld ?_
  rotate_left
  · intro w' hSw
    (try dsimp only at hSw)
    (try simp only [List.getElem_toArray]); (try simp only [List.getElem_cons_succ]); (try simp only [List.getElem_cons_zero])
    go_simp
    try with_reducible rfl
  (try simp only [Act.put]); (try simp only [List.getElem_toArray]); (try simp only [List.getElem_cons_succ]); (try simp only [List.getElem_cons_zero]); (try simp only [List.setIfInBounds_toArray]); (try simp only [List.set_cons_succ]); (try simp only [List.set_cons_zero])
  refine wpAnyH_opt (i := 33) (!e4) (v := ?_) rfl (by kernel_rfl) (by kernel_rfl) (by kernel_rfl) (fun _ _ _ h => h) (by cases e4 <;> kernel_rfl) hHeld ?_ ?_
  rotate_left
  · intro hg w' hSw
    obtain rfl : e4 = false := by cases e4 <;> first | rfl | exact nomatch hg
    (try dsimp only at hSw)
    (try simp only [List.getElem_toArray]); (try simp only [List.getElem_cons_succ]); (try simp only [List.getElem_cons_zero])
    (try simp only [Bool.not_false]); (try simp only [Bool.and_true]); (try simp only [opt_t])
    go_simp
    try with_reducible rfl
  (try simp only [Act.put]); (try simp only [List.getElem_toArray]); (try simp only [List.getElem_cons_succ]); (try simp only [List.getElem_cons_zero]); (try simp only [List.setIfInBounds_toArray]); (try simp only [List.set_cons_succ]); (try simp only [List.set_cons_zero])
  refine wpAnyH_optcall (i := 34) (!e4) (v := .bool p6) (Keep Nix w) rfl (by kernel_rfl) (by cases e4 <;> kernel_rfl) ?_ kk (fun w' k => HS.out w' k) ?_
  · intro hg K hK
    obtain rfl : e4 = false := by cases e4 <;> first | rfl | exact nomatch hg
    (try simp only [Bool.not_false]); (try simp only [opt_t])
    go_simp
    go_fit (HTR.out _ kk)
    rintro e w2 ⟨rfl, k2⟩
    go_wp2_with fail
    exact hK.out _ (kk.trans k2)
  clear hHeld kk
  intro w2 kk hHeld
  (try simp only [Act.put]); (try simp only [List.getElem_toArray]); (try simp only [List.getElem_cons_succ]); (try simp only [List.getElem_cons_zero]); (try simp only [List.setIfInBounds_toArray]); (try simp only [List.set_cons_succ]); (try simp only [List.set_cons_zero])
  refine wpAnyH_opt (i := 35) (!e4) (v := ?_) rfl (by kernel_rfl) (by kernel_rfl) (by kernel_rfl) (fun _ _ _ h => h) (by cases e4 <;> kernel_rfl) hHeld ?_ ?_
  rotate_left
  · intro hg w' hSw
    obtain rfl : e4 = false := by cases e4 <;> first | rfl | exact nomatch hg
    (try dsimp only at hSw)
    (try simp only [List.getElem_toArray]); (try simp only [List.getElem_cons_succ]); (try simp only [List.getElem_cons_zero])
    (try simp only [Bool.not_false]); (try simp only [Bool.and_true]); (try simp only [opt_t])
    go_simp
    try with_reducible rfl
  (try simp only [Act.put]); (try simp only [List.getElem_toArray]); (try simp only [List.getElem_cons_succ]); (try simp only [List.getElem_cons_zero]); (try simp only [List.setIfInBounds_toArray]); (try simp only [List.set_cons_succ]); (try simp only [List.set_cons_zero])
  refine wpAnyH_take (i := 36) (v := .bool e5) rfl (by kernel_rfl) (by kernel_rfl) (by kernel_rfl) (fun _ _ _ h => h) (Or.inl ⟨by kernel_rfl, fun w' _ => ?_⟩) hHeld ?_
  · have E5' := E5.out; clear E5; subst E5'; cases e4 <;> cases p6 <;> (show _ = _; kernel_rfl)
  (try simp only [Act.put]); (try simp only [List.getElem_toArray]); (try simp only [List.getElem_cons_succ]); (try simp only [List.getElem_cons_zero]); (try simp only [List.setIfInBounds_toArray]); (try simp only [List.set_cons_succ]); (try simp only [List.set_cons_zero])
  refine wpAnyH_done (by kernel_rfl) ?_ _
  exact NoPanic.normal (hQ.out _ _ _ _ _ _ _ _ _ _ _ _ _ _ _ _ _ _ _ _ _ _ _ _ _ _ _ _ _ _ _ _ _ _ _ _ _ kk)
end
noncomputable def reg21 : Code := ((Try.f13.body.bind (regionAt 21)).getD .skip)
section
set_option maxRecDepth 100000 in
set_option maxHeartbeats 16000000 in
theorem R21 (w : World) (bc bx bt b o nX cX k n ci : Nat) (ai : Option Addr) (ver nx u : Int) (vT : Value) (x : GIndex) (tt : GTable) (aI : Option Addr) (cI : Nat) (aC : Option Addr) (cC : Nat) (aK : Option Addr) (cK : Nat) (x0 x2 x4 x5 x6 x11 x12 x13 x14 x15 x16 x17 x18 x19 x20 x21 x22 x23 x24 x25 x26 x27 x28 x29 x30 x31 x32 x33 x34 x35 x36 x37 x38 x39 x40 x41 x42 x43 x44 x45 x46 x47 x48 x49 x50 x51 x52 x53 x54 x55 x56 x57 x58 x59 x60 x61 x62 x63 x64 x65 x66 x67 x68 x69 x70 x71 x72 x73 x74 x75 x76 x77 x78 x79 x80 x81 x82 x83 x84 x85 x86 x87 x88 x89 x90 x91 x92 x93 x94 x95 x96 x97 x98 x99 x100 x101 x102 x103 x104 x105 x106 x107 x108 x109 x110 x111 x112 x113 x114 x115 x116 x117 x118 x119 x120 x121 x122 x123 x124 x125 x126 x127 x128 x129 x130 x131 x132 x133 x134 x135 x136 x137 x138 x139 x140 x141 x142 x143 x144 x145 x146 x147 x148 x149 x150 x151 x152 x153 x154 x155 x156 x157 x158 x159 x160 x161 x162 x163 x164 x165 x166 x167 x168 x169 x170 x171 x172 x173 x174 x175 x176 x177 x178 x179 x180 x181 x182 x183 x184 x185 x186 x187 x188 x189 x190 x191 x192 x193 x194 x195 x196 x197 x198 x199 x200 x201 x202 x203 : Value) (p1 p2 p3 p4 p5 is pn pp s1 s2 e2 e3 e4 e5 e6 e7 e8 e9 q : Bool)
    (row0 : RowIs w bc 25 [.int .i64 ver, .int .i64 nx, vT, .slice (some ⟨b, o, none⟩) nX cX]) (rowX : RowIs w bx 37 [.int .i64 x.fID, .int .i64 x.fTable, .string (strB x.fName), .slice aI x.fColumns.length cI, .bool x.fUnique, .int .i64 x.fState, .bool x.fBad]) (rowT : RowIs w bt 33 [.int .i64 tt.fID, .string (strB tt.fName), .slice aC tt.fColumns.length cC, .slice aK tt.fKey.length cK]) (hkT : k < nX) (mX : nX ≤ 140737488351232) (hb : b < w.heap.size)
    (hz : p4 = true → w.cell? ⟨b, o + (k - 1) * 7, none⟩ = some (.int .i64 u))
    (HIN : Hid (∀ w', Keep Nix w w' → Calls Try.prog 49 #[.slice ai n ci, .int .i64 x.fID] w' fun e w'' => e = .returned (.bool p3) ∧ w' = w''))
    (HNM : Hid (∀ w', Keep Nix w w' → Calls Try.prog 52 #[.string (strB x.fName)] w' fun e w'' => e = .returned (.bool pn) ∧ w' = w''))
    (HPL : Hid (∀ w', Keep Nix w w' → Calls Try.prog 53 #[.slice aI x.fColumns.length cI, .int .i64 tt.fColumns.length] w' fun e w'' => e = .returned (.bool pp) ∧ ∃ q, w'' = w'.drewN q))
    (h1 : decide (x.fID < 1) = p1) (h2 : decide (nx ≤ x.fID) = p2) (h4 : decide (0 < k) = p4) (h5 : decide (x.fID ≤ u) = p5) (h6 : decide (x.fState < 1) = s1) (h7 : decide (7 < x.fState) = s2)
    (E2 : Hid (e2 = (p1 || p2))) (E3 : Hid (e3 = (e2 || p3))) (EQ : Hid (q = (p4 && p5))) (E4 : Hid (e4 = (e3 || q))) (E5 : Hid (e5 = (e4 || !is))) (E6 : Hid (e6 = (e5 || !pn))) (E7 : Hid (e7 = (e6 || !pp))) (E8 : Hid (e8 = (e7 || s1))) (E9 : Hid (e9 = (e8 || s2)))
    (Q : Exit → Act → World → Prop) (hQ : Shut (∀ (u124 u125 u126 u127 u128 u129 u130 u131 u132 u133 u134 u135 u136 u137 u138 u139 u140 u141 u142 u143 u144 u145 u146 u147 u148 u149 u150 u151 u152 u153 u154 u155 u156 u157 u158 u159 u160 u161 u162 u163 u164 u165 u166 u167 u168 u169 u170 u171 u172 u173 u174 u175 u176 u177 u178 u179 u180 u181 u182 u183 : Value) (w' : World), Keep Nix w w' → Q .normal ⟨#[x0, .pointer (some ⟨bc, 0, none⟩), x2, .slice ai n ci, x4, x5, x6, .int .i64 k, .pointer (some ⟨bx, 0, none⟩), .pointer (some ⟨bt, 0, none⟩), .bool is, x11, x12, x13, x14, x15, x16, x17, x18, x19, x20, x21, x22, x23, x24, x25, x26, x27, x28, x29, x30, x31, x32, x33, x34, x35, x36, x37, x38, x39, x40, x41, x42, x43, x44, x45, x46, x47, x48, x49, x50, x51, x52, x53, x54, x55, x56, x57, x58, x59, x60, x61, x62, x63, x64, x65, x66, x67, x68, x69, x70, x71, x72, x73, x74, x75, x76, x77, x78, x79, x80, x81, x82, x83, x84, x85, x86, x87, x88, x89, x90, x91, x92, x93, x94, x95, x96, x97, x98, x99, x100, x101, x102, x103, x104, x105, x106, x107, x108, x109, x110, x111, x112, x113, x114, x115, x116, x117, x118, x119, x120, x121, x122, x123, u124, u125, u126, u127, u128, u129, u130, u131, u132, u133, u134, u135, u136, u137, u138, u139, u140, u141, u142, u143, u144, u145, u146, u147, u148, u149, u150, u151, u152, u153, u154, u155, u156, u157, u158, u159, u160, u161, u162, u163, u164, u165, u166, u167, u168, u169, u170, u171, u172, u173, u174, u175, u176, u177, u178, u179, u180, u181, u182, u183, .bool e9, x185, x186, x187, x188, x189, x190, x191, x192, x193, x194, x195, x196, x197, x198, x199, x200, x201, x202, x203], []⟩ w')) :
    reg21.wp Try.prog Q ⟨#[x0, .pointer (some ⟨bc, 0, none⟩), x2, .slice ai n ci, x4, x5, x6, .int .i64 k, .pointer (some ⟨bx, 0, none⟩), .pointer (some ⟨bt, 0, none⟩), .bool is, x11, x12, x13, x14, x15, x16, x17, x18, x19, x20, x21, x22, x23, x24, x25, x26, x27, x28, x29, x30, x31, x32, x33, x34, x35, x36, x37, x38, x39, x40, x41, x42, x43, x44, x45, x46, x47, x48, x49, x50, x51, x52, x53, x54, x55, x56, x57, x58, x59, x60, x61, x62, x63, x64, x65, x66, x67, x68, x69, x70, x71, x72, x73, x74, x75, x76, x77, x78, x79, x80, x81, x82, x83, x84, x85, x86, x87, x88, x89, x90, x91, x92, x93, x94, x95, x96, x97, x98, x99, x100, x101, x102, x103, x104, x105, x106, x107, x108, x109, x110, x111, x112, x113, x114, x115, x116, x117, x118, x119, x120, x121, x122, x123, x124, x125, x126, x127, x128, x129, x130, x131, x132, x133, x134, x135, x136, x137, x138, x139, x140, x141, x142, x143, x144, x145, x146, x147, x148, x149, x150, x151, x152, x153, x154, x155, x156, x157, x158, x159, x160, x161, x162, x163, x164, x165, x166, x167, x168, x169, x170, x171, x172, x173, x174, x175, x176, x177, x178, x179, x180, x181, x182, x183, x184, x185, x186, x187, x188, x189, x190, x191, x192, x193, x194, x195, x196, x197, x198, x199, x200, x201, x202, x203], []⟩ w := by
  conv => arg 2; whnf
  refine wp_region_noPanic ?_
  have kk : Keep Nix w w.drew := (Keep.refl Nix w).drew
  have hS : ∀ w', Keep Nix w w' → (w'.cell? ⟨bx, 0, none⟩ = some (.int .i64 x.fID) ∧ w'.cell? ⟨bx, 2, none⟩ = some (.string (strB x.fName)) ∧ w'.cell? ⟨bx, 3, none⟩ = some (.slice aI x.fColumns.length cI) ∧ w'.cell? ⟨bx, 5, none⟩ = some (.int .i64 x.fState) ∧ w'.cell? ⟨bc, 1, none⟩ = some (.int .i64 nx) ∧ w'.cell? ⟨bc, 3, none⟩ = some (.slice (some ⟨b, o, none⟩) nX cX) ∧ (p4 = true → w'.cell? ⟨b, o + (k - 1) * 7, none⟩ = some (.int .i64 u)) ∧ w'.cell? ⟨bt, 2, none⟩ = some (.slice aC tt.fColumns.length cC)) :=
    fun w' k => ⟨(rowX.keep k id).cell 0, (rowX.keep k id).cell 2, (rowX.keep k id).cell 3, (rowX.keep k id).cell 5, (row0.keep k id).cell 1, (row0.keep k id).cell 3, fun h => (k.cell hb id).trans (hz h), (rowT.keep k id).cell 2⟩
  have HS := Lib.hid hS
  clear hS hz row0 rowT rowX
  refine wp_region_held_drew (S := fun w' => (w'.cell? ⟨bx, 0, none⟩ = some (.int .i64 x.fID) ∧ w'.cell? ⟨bx, 2, none⟩ = some (.string (strB x.fName)) ∧ w'.cell? ⟨bx, 3, none⟩ = some (.slice aI x.fColumns.length cI) ∧ w'.cell? ⟨bx, 5, none⟩ = some (.int .i64 x.fState) ∧ w'.cell? ⟨bc, 1, none⟩ = some (.int .i64 nx) ∧ w'.cell? ⟨bc, 3, none⟩ = some (.slice (some ⟨b, o, none⟩) nX cX) ∧ (p4 = true → w'.cell? ⟨b, o + (k - 1) * 7, none⟩ = some (.int .i64 u)) ∧ w'.cell? ⟨bt, 2, none⟩ = some (.slice aC tt.fColumns.length cC))) (by kernel_rfl) (HS.out _ kk) (fun hHeld => ?_)
  refine wpAnyH_take (i := 0) (v := ?_) rfl (by kernel_rfl) (by kernel_rfl) (by kernel_rfl) (fun _ _ _ h => h) (Or.inl ⟨by kernel_rfl, ?_⟩) hHeld ?_
  rotate_left
  · intro w' hSw
    (try dsimp only at hSw)
    (try simp only [List.getElem_toArray]); (try simp only [List.getElem_cons_succ]); (try simp only [List.getElem_cons_zero])
    go_simp
    try with_reducible rfl
  (try simp only [Act.put]); (try simp only [List.getElem_toArray]); (try simp only [List.getElem_cons_succ]); (try simp only [List.getElem_cons_zero]); (try simp only [List.setIfInBounds_toArray]); (try simp only [List.set_cons_succ]); (try simp only [List.set_cons_zero])
  refine wpAnyH_take (i := 1) (v := ?_) rfl (by kernel_rfl) (by kernel_rfl) (by kernel_rfl) (fun _ _ _ h => h) (Or.inl ⟨by kernel_rfl, ?_⟩) hHeld ?_
  rotate_left
  · intro w' hSw
    (try dsimp only at hSw)
    (try simp only [List.getElem_toArray]); (try simp only [List.getElem_cons_succ]); (try simp only [List.getElem_cons_zero])
    go_simp
    try with_reducible rfl
  (try simp only [Act.put]); (try simp only [List.getElem_toArray]); (try simp only [List.getElem_cons_succ]); (try simp only [List.getElem_cons_zero]); (try simp only [List.setIfInBounds_toArray]); (try simp only [List.set_cons_succ]); (try simp only [List.set_cons_zero])
  refine wpAnyH_take (i := 2) (v := ?_) rfl (by kernel_rfl) (by kernel_rfl) (by kernel_rfl) (fun _ _ _ h => h) (Or.inl ⟨by kernel_rfl, ?_⟩) hHeld ?_
  rotate_left
  · intro w' hSw
    (try dsimp only at hSw)
    (try simp only [List.getElem_toArray]); (try simp only [List.getElem_cons_succ]); (try simp only [List.getElem_cons_zero])
    go_simp
    try with_reducible rfl
  (try simp only [Act.put]); (try simp only [List.getElem_toArray]); (try simp only [List.getElem_cons_succ]); (try simp only [List.getElem_cons_zero]); (try simp only [List.setIfInBounds_toArray]); (try simp only [List.set_cons_succ]); (try simp only [List.set_cons_zero])
  (try simp only [h1])
  refine wpAnyH_take (i := 3) (v := ?_) rfl (by kernel_rfl) (by kernel_rfl) (by kernel_rfl) (fun _ _ _ h => h) (Or.inl ⟨by kernel_rfl, ?_⟩) hHeld ?_
  rotate_left
  · intro w' hSw
    (try dsimp only at hSw)
    (try simp only [List.getElem_toArray]); (try simp only [List.getElem_cons_succ]); (try simp only [List.getElem_cons_zero])
    go_simp
    try with_reducible rfl
  (try simp only [Act.put]); (try simp only [List.getElem_toArray]); (try simp only [List.getElem_cons_succ]); (try simp only [List.getElem_cons_zero]); (try simp only [List.setIfInBounds_toArray]); (try simp only [List.set_cons_succ]); (try simp only [List.set_cons_zero])
  refine wpAnyH_opt (i := 4) (!p1) (v := ?_) rfl (by kernel_rfl) (by kernel_rfl) (by kernel_rfl) (fun _ _ _ h => h) (by cases p1 <;> kernel_rfl) hHeld ?_ ?_
  rotate_left
  · intro hg w' hSw
    obtain rfl : p1 = false := by cases p1 <;> first | rfl | exact nomatch hg
    (try dsimp only at hSw)
    (try simp only [List.getElem_toArray]); (try simp only [List.getElem_cons_succ]); (try simp only [List.getElem_cons_zero])
    (try simp only [Bool.not_false]); (try simp only [Bool.and_true]); (try simp only [opt_t])
    go_simp
    try with_reducible rfl
  (try simp only [Act.put]); (try simp only [List.getElem_toArray]); (try simp only [List.getElem_cons_succ]); (try simp only [List.getElem_cons_zero]); (try simp only [List.setIfInBounds_toArray]); (try simp only [List.set_cons_succ]); (try simp only [List.set_cons_zero])
  refine wpAnyH_opt (i := 5) (!p1) (v := ?_) rfl (by kernel_rfl) (by kernel_rfl) (by kernel_rfl) (fun _ _ _ h => h) (by cases p1 <;> kernel_rfl) hHeld ?_ ?_
  rotate_left
  · intro hg w' hSw
    obtain rfl : p1 = false := by cases p1 <;> first | rfl | exact nomatch hg
    (try dsimp only at hSw)
    (try simp only [List.getElem_toArray]); (try simp only [List.getElem_cons_succ]); (try simp only [List.getElem_cons_zero])
    (try simp only [Bool.not_false]); (try simp only [Bool.and_true]); (try simp only [opt_t])
    go_simp
    try with_reducible rfl
  (try simp only [Act.put]); (try simp only [List.getElem_toArray]); (try simp only [List.getElem_cons_succ]); (try simp only [List.getElem_cons_zero]); (try simp only [List.setIfInBounds_toArray]); (try simp only [List.set_cons_succ]); (try simp only [List.set_cons_zero])
  refine wpAnyH_opt (i := 6) (!p1) (v := ?_) rfl (by kernel_rfl) (by kernel_rfl) (by kernel_rfl) (fun _ _ _ h => h) (by cases p1 <;> kernel_rfl) hHeld ?_ ?_
  rotate_left
  · intro hg w' hSw
    obtain rfl : p1 = false := by cases p1 <;> first | rfl | exact nomatch hg
    (try dsimp only at hSw)
    (try simp only [List.getElem_toArray]); (try simp only [List.getElem_cons_succ]); (try simp only [List.getElem_cons_zero])
    (try simp only [Bool.not_false]); (try simp only [Bool.and_true]); (try simp only [opt_t])
    go_simp
    try with_reducible rfl
  (try simp only [Act.put]); (try simp only [List.getElem_toArray]); (try simp only [List.getElem_cons_succ]); (try simp only [List.getElem_cons_zero]); (try simp only [List.setIfInBounds_toArray]); (try simp only [List.set_cons_succ]); (try simp only [List.set_cons_zero])
  refine wpAnyH_opt (i := 7) (!p1) (v := ?_) rfl (by kernel_rfl) (by kernel_rfl) (by kernel_rfl) (fun _ _ _ h => h) (by cases p1 <;> kernel_rfl) hHeld ?_ ?_
  rotate_left
  · intro hg w' hSw
    obtain rfl : p1 = false := by cases p1 <;> first | rfl | exact nomatch hg
    (try dsimp only at hSw)
    (try simp only [List.getElem_toArray]); (try simp only [List.getElem_cons_succ]); (try simp only [List.getElem_cons_zero])
    (try simp only [Bool.not_false]); (try simp only [Bool.and_true]); (try simp only [opt_t])
    go_simp
    try with_reducible rfl
  (try simp only [Act.put]); (try simp only [List.getElem_toArray]); (try simp only [List.getElem_cons_succ]); (try simp only [List.getElem_cons_zero]); (try simp only [List.setIfInBounds_toArray]); (try simp only [List.set_cons_succ]); (try simp only [List.set_cons_zero])
  refine wpAnyH_opt (i := 8) (!p1) (v := ?_) rfl (by kernel_rfl) (by kernel_rfl) (by kernel_rfl) (fun _ _ _ h => h) (by cases p1 <;> kernel_rfl) hHeld ?_ ?_
  rotate_left
  · intro hg w' hSw
    obtain rfl : p1 = false := by cases p1 <;> first | rfl | exact nomatch hg
    (try dsimp only at hSw)
    (try simp only [List.getElem_toArray]); (try simp only [List.getElem_cons_succ]); (try simp only [List.getElem_cons_zero])
    (try simp only [Bool.not_false]); (try simp only [Bool.and_true]); (try simp only [opt_t])
    go_simp
    try with_reducible rfl
  (try simp only [Act.put]); (try simp only [List.getElem_toArray]); (try simp only [List.getElem_cons_succ]); (try simp only [List.getElem_cons_zero]); (try simp only [List.setIfInBounds_toArray]); (try simp only [List.set_cons_succ]); (try simp only [List.set_cons_zero])
  (try simp only [h2])
  refine wpAnyH_take (i := 9) (v := .bool e2) rfl (by kernel_rfl) (by kernel_rfl) (by kernel_rfl) (fun _ _ _ h => h) (Or.inl ⟨by kernel_rfl, fun w' _ => ?_⟩) hHeld ?_
  · have E2' := E2.out; clear E2; subst E2'; cases p1 <;> cases p2 <;> (show _ = _; kernel_rfl)
  (try simp only [Act.put]); (try simp only [List.getElem_toArray]); (try simp only [List.getElem_cons_succ]); (try simp only [List.getElem_cons_zero]); (try simp only [List.setIfInBounds_toArray]); (try simp only [List.set_cons_succ]); (try simp only [List.set_cons_zero])
  refine wpAnyH_take (i := 10) (v := ?_) rfl (by kernel_rfl) (by kernel_rfl) (by kernel_rfl) (fun _ _ _ h => h) (Or.inl ⟨by kernel_rfl, ?_⟩) hHeld ?_
  rotate_left
  · intro w' hSw
    (try dsimp only at hSw)
    (try simp only [List.getElem_toArray]); (try simp only [List.getElem_cons_succ]); (try simp only [List.getElem_cons_zero])
    go_simp
    try with_reducible rfl
  (try simp only [Act.put]); (try simp only [List.getElem_toArray]); (try simp only [List.getElem_cons_succ]); (try simp only [List.getElem_cons_zero]); (try simp only [List.setIfInBounds_toArray]); (try simp only [List.set_cons_succ]); (try simp only [List.set_cons_zero])
  refine wpAnyH_opt (i := 11) (!e2) (v := ?_) rfl (by kernel_rfl) (by kernel_rfl) (by kernel_rfl) (fun _ _ _ h => h) (by cases e2 <;> kernel_rfl) hHeld ?_ ?_
  rotate_left
  · intro hg w' hSw
    obtain rfl : e2 = false := by cases e2 <;> first | rfl | exact nomatch hg
    (try dsimp only at hSw)
    (try simp only [List.getElem_toArray]); (try simp only [List.getElem_cons_succ]); (try simp only [List.getElem_cons_zero])
    (try simp only [Bool.not_false]); (try simp only [Bool.and_true]); (try simp only [opt_t])
    go_simp
    try with_reducible rfl
  (try simp only [Act.put]); (try simp only [List.getElem_toArray]); (try simp only [List.getElem_cons_succ]); (try simp only [List.getElem_cons_zero]); (try simp only [List.setIfInBounds_toArray]); (try simp only [List.set_cons_succ]); (try simp only [List.set_cons_zero])
  refine wpAnyH_opt (i := 12) (!e2) (v := ?_) rfl (by kernel_rfl) (by kernel_rfl) (by kernel_rfl) (fun _ _ _ h => h) (by cases e2 <;> kernel_rfl) hHeld ?_ ?_
  rotate_left
  · intro hg w' hSw
    obtain rfl : e2 = false := by cases e2 <;> first | rfl | exact nomatch hg
    (try dsimp only at hSw)
    (try simp only [List.getElem_toArray]); (try simp only [List.getElem_cons_succ]); (try simp only [List.getElem_cons_zero])
    (try simp only [Bool.not_false]); (try simp only [Bool.and_true]); (try simp only [opt_t])
    go_simp
    try with_reducible rfl
  (try simp only [Act.put]); (try simp only [List.getElem_toArray]); (try simp only [List.getElem_cons_succ]); (try simp only [List.getElem_cons_zero]); (try simp only [List.setIfInBounds_toArray]); (try simp only [List.set_cons_succ]); (try simp only [List.set_cons_zero])
  refine wpAnyH_opt (i := 13) (!e2) (v := ?_) rfl (by kernel_rfl) (by kernel_rfl) (by kernel_rfl) (fun _ _ _ h => h) (by cases e2 <;> kernel_rfl) hHeld ?_ ?_
  rotate_left
  · intro hg w' hSw
    obtain rfl : e2 = false := by cases e2 <;> first | rfl | exact nomatch hg
    (try dsimp only at hSw)
    (try simp only [List.getElem_toArray]); (try simp only [List.getElem_cons_succ]); (try simp only [List.getElem_cons_zero])
    (try simp only [Bool.not_false]); (try simp only [Bool.and_true]); (try simp only [opt_t])
    go_simp
    try with_reducible rfl
  (try simp only [Act.put]); (try simp only [List.getElem_toArray]); (try simp only [List.getElem_cons_succ]); (try simp only [List.getElem_cons_zero]); (try simp only [List.setIfInBounds_toArray]); (try simp only [List.set_cons_succ]); (try simp only [List.set_cons_zero])
  refine wpAnyH_optcall (i := 14) (!e2) (v := .bool p3) (Keep Nix w) rfl (by kernel_rfl) (by cases e2 <;> kernel_rfl) ?_ kk (fun w' k => HS.out w' k) ?_
  · intro hg K hK
    obtain rfl : e2 = false := by cases e2 <;> first | rfl | exact nomatch hg
    (try simp only [Bool.not_false]); (try simp only [opt_t])
    go_simp
    go_fit (HIN.out _ kk)
    rintro e w1 ⟨rfl, k1⟩
    go_wp2_with fail
    exact hK.out _ (k1▸kk)
  clear hHeld kk
  intro w1 kk hHeld
  (try simp only [Act.put]); (try simp only [List.getElem_toArray]); (try simp only [List.getElem_cons_succ]); (try simp only [List.getElem_cons_zero]); (try simp only [List.setIfInBounds_toArray]); (try simp only [List.set_cons_succ]); (try simp only [List.set_cons_zero])
  refine wpAnyH_take (i := 15) (v := .bool e3) rfl (by kernel_rfl) (by kernel_rfl) (by kernel_rfl) (fun _ _ _ h => h) (Or.inl ⟨by kernel_rfl, fun w' _ => ?_⟩) hHeld ?_
  · have E3' := E3.out; clear E3; subst E3'; cases e2 <;> cases p3 <;> (show _ = _; kernel_rfl)
  (try simp only [Act.put]); (try simp only [List.getElem_toArray]); (try simp only [List.getElem_cons_succ]); (try simp only [List.getElem_cons_zero]); (try simp only [List.setIfInBounds_toArray]); (try simp only [List.set_cons_succ]); (try simp only [List.set_cons_zero])
  refine wpAnyH_take (i := 16) (v := ?_) rfl (by kernel_rfl) (by kernel_rfl) (by kernel_rfl) (fun _ _ _ h => h) (Or.inl ⟨by kernel_rfl, ?_⟩) hHeld ?_
  rotate_left
  · intro w' hSw
    (try dsimp only at hSw)
    (try simp only [List.getElem_toArray]); (try simp only [List.getElem_cons_succ]); (try simp only [List.getElem_cons_zero])
    go_simp
    try with_reducible rfl
  (try simp only [Act.put]); (try simp only [List.getElem_toArray]); (try simp only [List.getElem_cons_succ]); (try simp only [List.getElem_cons_zero]); (try simp only [List.setIfInBounds_toArray]); (try simp only [List.set_cons_succ]); (try simp only [List.set_cons_zero])
  refine wpAnyH_opt (i := 17) (!e3) (v := ?_) rfl (by kernel_rfl) (by kernel_rfl) (by kernel_rfl) (fun _ _ _ h => h) (by cases e3 <;> kernel_rfl) hHeld ?_ ?_
  rotate_left
  · intro hg w' hSw
    obtain rfl : e3 = false := by cases e3 <;> first | rfl | exact nomatch hg
    (try dsimp only at hSw)
    (try simp only [List.getElem_toArray]); (try simp only [List.getElem_cons_succ]); (try simp only [List.getElem_cons_zero])
    (try simp only [Bool.not_false]); (try simp only [Bool.and_true]); (try simp only [opt_t])
    go_simp
    try with_reducible rfl
  (try simp only [Act.put]); (try simp only [List.getElem_toArray]); (try simp only [List.getElem_cons_succ]); (try simp only [List.getElem_cons_zero]); (try simp only [List.setIfInBounds_toArray]); (try simp only [List.set_cons_succ]); (try simp only [List.set_cons_zero])
  refine wpAnyH_opt (i := 18) (!e3) (v := ?_) rfl (by kernel_rfl) (by kernel_rfl) (by kernel_rfl) (fun _ _ _ h => h) (by cases e3 <;> kernel_rfl) hHeld ?_ ?_
  rotate_left
  · intro hg w' hSw
    obtain rfl : e3 = false := by cases e3 <;> first | rfl | exact nomatch hg
    (try dsimp only at hSw)
    (try simp only [List.getElem_toArray]); (try simp only [List.getElem_cons_succ]); (try simp only [List.getElem_cons_zero])
    (try simp only [Bool.not_false]); (try simp only [Bool.and_true]); (try simp only [opt_t])
    go_simp
    try with_reducible rfl
  (try simp only [Act.put]); (try simp only [List.getElem_toArray]); (try simp only [List.getElem_cons_succ]); (try simp only [List.getElem_cons_zero]); (try simp only [List.setIfInBounds_toArray]); (try simp only [List.set_cons_succ]); (try simp only [List.set_cons_zero])
  (try simp only [h4])
  refine wpAnyH_opt (i := 19) (!e3) (v := ?_) rfl (by kernel_rfl) (by kernel_rfl) (by kernel_rfl) (fun _ _ _ h => h) (by cases e3 <;> kernel_rfl) hHeld ?_ ?_
  rotate_left
  · intro hg w' hSw
    obtain rfl : e3 = false := by cases e3 <;> first | rfl | exact nomatch hg
    (try dsimp only at hSw)
    (try simp only [List.getElem_toArray]); (try simp only [List.getElem_cons_succ]); (try simp only [List.getElem_cons_zero])
    (try simp only [Bool.not_false]); (try simp only [Bool.and_true]); (try simp only [opt_t])
    go_simp
    try with_reducible rfl
  (try simp only [Act.put]); (try simp only [List.getElem_toArray]); (try simp only [List.getElem_cons_succ]); (try simp only [List.getElem_cons_zero]); (try simp only [List.setIfInBounds_toArray]); (try simp only [List.set_cons_succ]); (try simp only [List.set_cons_zero])
  refine wpAnyH_opt (i := 20) (!e3 && p4) (v := ?_) rfl (by kernel_rfl) (by kernel_rfl) (by kernel_rfl) (fun _ _ _ h => h) (by cases e3 <;> cases p4 <;> kernel_rfl) hHeld ?_ ?_
  rotate_left
  · intro hg w' hSw
    obtain rfl : e3 = false := by cases e3 <;> first | rfl | exact nomatch hg
    obtain rfl : p4 = true := by cases p4 <;> first | rfl | exact nomatch hg
    (try dsimp only at hSw)
    (try simp only [List.getElem_toArray]); (try simp only [List.getElem_cons_succ]); (try simp only [List.getElem_cons_zero])
    (try simp only [Bool.not_false]); (try simp only [Bool.and_true]); (try simp only [opt_t])
    go_simp
    try with_reducible rfl
  (try simp only [Act.put]); (try simp only [List.getElem_toArray]); (try simp only [List.getElem_cons_succ]); (try simp only [List.getElem_cons_zero]); (try simp only [List.setIfInBounds_toArray]); (try simp only [List.set_cons_succ]); (try simp only [List.set_cons_zero])
  refine wpAnyH_opt (i := 21) (!e3 && p4) (v := ?_) rfl (by kernel_rfl) (by kernel_rfl) (by kernel_rfl) (fun _ _ _ h => h) (by cases e3 <;> cases p4 <;> kernel_rfl) hHeld ?_ ?_
  rotate_left
  · intro hg w' hSw
    obtain rfl : e3 = false := by cases e3 <;> first | rfl | exact nomatch hg
    obtain rfl : p4 = true := by cases p4 <;> first | rfl | exact nomatch hg
    (try dsimp only at hSw)
    (try simp only [List.getElem_toArray]); (try simp only [List.getElem_cons_succ]); (try simp only [List.getElem_cons_zero])
    (try simp only [Bool.not_false]); (try simp only [Bool.and_true]); (try simp only [opt_t])
    go_simp
    try with_reducible rfl
  (try simp only [Act.put]); (try simp only [List.getElem_toArray]); (try simp only [List.getElem_cons_succ]); (try simp only [List.getElem_cons_zero]); (try simp only [List.setIfInBounds_toArray]); (try simp only [List.set_cons_succ]); (try simp only [List.set_cons_zero])
  refine wpAnyH_opt (i := 22) (!e3 && p4) (v := ?_) rfl (by kernel_rfl) (by kernel_rfl) (by kernel_rfl) (fun _ _ _ h => h) (by cases e3 <;> cases p4 <;> kernel_rfl) hHeld ?_ ?_
  rotate_left
  · intro hg w' hSw
    obtain rfl : e3 = false := by cases e3 <;> first | rfl | exact nomatch hg
    obtain rfl : p4 = true := by cases p4 <;> first | rfl | exact nomatch hg
    (try dsimp only at hSw)
    (try simp only [List.getElem_toArray]); (try simp only [List.getElem_cons_succ]); (try simp only [List.getElem_cons_zero])
    (try simp only [Bool.not_false]); (try simp only [Bool.and_true]); (try simp only [opt_t])
    go_simp
    try with_reducible rfl
  (try simp only [Act.put]); (try simp only [List.getElem_toArray]); (try simp only [List.getElem_cons_succ]); (try simp only [List.getElem_cons_zero]); (try simp only [List.setIfInBounds_toArray]); (try simp only [List.set_cons_succ]); (try simp only [List.set_cons_zero])
  refine wpAnyH_opt (i := 23) (!e3 && p4) (v := ?_) rfl (by kernel_rfl) (by kernel_rfl) (by kernel_rfl) (fun _ _ _ h => h) (by cases e3 <;> cases p4 <;> kernel_rfl) hHeld ?_ ?_
  rotate_left
  · intro hg w' hSw
    obtain rfl : e3 = false := by cases e3 <;> first | rfl | exact nomatch hg
    obtain rfl : p4 = true := by cases p4 <;> first | rfl | exact nomatch hg
    (try dsimp only at hSw)
    (try simp only [List.getElem_toArray]); (try simp only [List.getElem_cons_succ]); (try simp only [List.getElem_cons_zero])
    (try simp only [Bool.not_false]); (try simp only [Bool.and_true]); (try simp only [opt_t])
    go_simp
    try with_reducible rfl
  (try simp only [Act.put]); (try simp only [List.getElem_toArray]); (try simp only [List.getElem_cons_succ]); (try simp only [List.getElem_cons_zero]); (try simp only [List.setIfInBounds_toArray]); (try simp only [List.set_cons_succ]); (try simp only [List.set_cons_zero])
  refine wpAnyH_opt (i := 24) (!e3 && p4) (v := ?_) rfl (by kernel_rfl) (by kernel_rfl) (by kernel_rfl) (fun _ _ _ h => h) (by cases e3 <;> cases p4 <;> kernel_rfl) hHeld ?_ ?_
  rotate_left
  · intro hg w' hSw
    obtain rfl : e3 = false := by cases e3 <;> first | rfl | exact nomatch hg
    obtain rfl : p4 = true := by cases p4 <;> first | rfl | exact nomatch hg
    (try dsimp only at hSw)
    (try simp only [List.getElem_toArray]); (try simp only [List.getElem_cons_succ]); (try simp only [List.getElem_cons_zero])
    (try simp only [Bool.not_false]); (try simp only [Bool.and_true]); (try simp only [opt_t])
    go_simp
    try with_reducible rfl
  (try simp only [Act.put]); (try simp only [List.getElem_toArray]); (try simp only [List.getElem_cons_succ]); (try simp only [List.getElem_cons_zero]); (try simp only [List.setIfInBounds_toArray]); (try simp only [List.set_cons_succ]); (try simp only [List.set_cons_zero])
  refine wpAnyH_opt (i := 25) (!e3 && p4) (v := ?_) rfl (by kernel_rfl) (by kernel_rfl) (by kernel_rfl) (fun _ _ _ h => h) (by cases e3 <;> cases p4 <;> kernel_rfl) hHeld ?_ ?_
  rotate_left
  · intro hg w' hSw
    obtain rfl : e3 = false := by cases e3 <;> first | rfl | exact nomatch hg
    obtain rfl : p4 = true := by cases p4 <;> first | rfl | exact nomatch hg
    have d0 : 0 < k := of_decide_eq_true h4
    have d5 : IntKind.i64.wrap ((k : Int) - 1) = (k : Int) - 1 := IntWalk.i64_in _ (by omega)
    have d6 : (0 : Int) ≤ (k : Int) - 1 := by omega
    have d6b : (1 : Int) ≤ (k : Int) := by omega
    have d7 : ((k : Int) - 1).toNat = k - 1 := by omega
    have d8 : (k : Int) - 1 < (nX : Int) := by omega
    (try dsimp only at hSw)
    (try simp only [List.getElem_toArray]); (try simp only [List.getElem_cons_succ]); (try simp only [List.getElem_cons_zero])
    (try simp only [Bool.not_false]); (try simp only [Bool.and_true]); (try simp only [opt_t])
    go_simp
    try with_reducible rfl
  (try simp only [Act.put]); (try simp only [List.getElem_toArray]); (try simp only [List.getElem_cons_succ]); (try simp only [List.getElem_cons_zero]); (try simp only [List.setIfInBounds_toArray]); (try simp only [List.set_cons_succ]); (try simp only [List.set_cons_zero])
  refine wpAnyH_opt (i := 26) (!e3 && p4) (v := ?_) rfl (by kernel_rfl) (by kernel_rfl) (by kernel_rfl) (fun _ _ _ h => h) (by cases e3 <;> cases p4 <;> kernel_rfl) hHeld ?_ ?_
  rotate_left
  · intro hg w' hSw
    obtain rfl : e3 = false := by cases e3 <;> first | rfl | exact nomatch hg
    obtain rfl : p4 = true := by cases p4 <;> first | rfl | exact nomatch hg
    have d0 : 0 < k := of_decide_eq_true h4
    have d5 : IntKind.i64.wrap ((k : Int) - 1) = (k : Int) - 1 := IntWalk.i64_in _ (by omega)
    have d6 : (0 : Int) ≤ (k : Int) - 1 := by omega
    have d6b : (1 : Int) ≤ (k : Int) := by omega
    have d7 : ((k : Int) - 1).toNat = k - 1 := by omega
    have d8 : (k : Int) - 1 < (nX : Int) := by omega
    (try dsimp only at hSw)
    (try simp only [List.getElem_toArray]); (try simp only [List.getElem_cons_succ]); (try simp only [List.getElem_cons_zero])
    (try simp only [Bool.not_false]); (try simp only [Bool.and_true]); (try simp only [opt_t])
    go_simp
    try with_reducible rfl
  (try simp only [Act.put]); (try simp only [List.getElem_toArray]); (try simp only [List.getElem_cons_succ]); (try simp only [List.getElem_cons_zero]); (try simp only [List.setIfInBounds_toArray]); (try simp only [List.set_cons_succ]); (try simp only [List.set_cons_zero])
  refine wpAnyH_opt (i := 27) (!e3 && p4) (v := ?_) rfl (by kernel_rfl) (by kernel_rfl) (by kernel_rfl) (fun _ _ _ h => h) (by cases e3 <;> cases p4 <;> kernel_rfl) hHeld ?_ ?_
  rotate_left
  · intro hg w' hSw
    obtain rfl : e3 = false := by cases e3 <;> first | rfl | exact nomatch hg
    obtain rfl : p4 = true := by cases p4 <;> first | rfl | exact nomatch hg
    have d0 : 0 < k := of_decide_eq_true h4
    have d5 : IntKind.i64.wrap ((k : Int) - 1) = (k : Int) - 1 := IntWalk.i64_in _ (by omega)
    have d6 : (0 : Int) ≤ (k : Int) - 1 := by omega
    have d6b : (1 : Int) ≤ (k : Int) := by omega
    have d7 : ((k : Int) - 1).toNat = k - 1 := by omega
    have d8 : (k : Int) - 1 < (nX : Int) := by omega
    (try dsimp only at hSw)
    (try simp only [List.getElem_toArray]); (try simp only [List.getElem_cons_succ]); (try simp only [List.getElem_cons_zero])
    (try simp only [Bool.not_false]); (try simp only [Bool.and_true]); (try simp only [opt_t])
    go_simp
    try with_reducible rfl
  (try simp only [Act.put]); (try simp only [List.getElem_toArray]); (try simp only [List.getElem_cons_succ]); (try simp only [List.getElem_cons_zero]); (try simp only [List.setIfInBounds_toArray]); (try simp only [List.set_cons_succ]); (try simp only [List.set_cons_zero])
  refine wpAnyH_opt (i := 28) (!e3 && p4) (v := ?_) rfl (by kernel_rfl) (by kernel_rfl) (by kernel_rfl) (fun _ _ _ h => h) (by cases e3 <;> cases p4 <;> kernel_rfl) hHeld ?_ ?_
  rotate_left
  · intro hg w' hSw
    obtain rfl : e3 = false := by cases e3 <;> first | rfl | exact nomatch hg
    obtain rfl : p4 = true := by cases p4 <;> first | rfl | exact nomatch hg
    have d0 : 0 < k := of_decide_eq_true h4
    have d5 : IntKind.i64.wrap ((k : Int) - 1) = (k : Int) - 1 := IntWalk.i64_in _ (by omega)
    have d6 : (0 : Int) ≤ (k : Int) - 1 := by omega
    have d6b : (1 : Int) ≤ (k : Int) := by omega
    have d7 : ((k : Int) - 1).toNat = k - 1 := by omega
    have d8 : (k : Int) - 1 < (nX : Int) := by omega
    (try dsimp only at hSw)
    (try simp only [List.getElem_toArray]); (try simp only [List.getElem_cons_succ]); (try simp only [List.getElem_cons_zero])
    (try simp only [Bool.not_false]); (try simp only [Bool.and_true]); (try simp only [opt_t])
    go_simp
    try with_reducible rfl
  (try simp only [Act.put]); (try simp only [List.getElem_toArray]); (try simp only [List.getElem_cons_succ]); (try simp only [List.getElem_cons_zero]); (try simp only [List.setIfInBounds_toArray]); (try simp only [List.set_cons_succ]); (try simp only [List.set_cons_zero])
  refine wpAnyH_opt (i := 29) (!e3 && p4) (v := ?_) rfl (by kernel_rfl) (by kernel_rfl) (by kernel_rfl) (fun _ _ _ h => h) (by cases e3 <;> cases p4 <;> kernel_rfl) hHeld ?_ ?_
  rotate_left
  · intro hg w' hSw
    obtain rfl : e3 = false := by cases e3 <;> first | rfl | exact nomatch hg
    obtain rfl : p4 = true := by cases p4 <;> first | rfl | exact nomatch hg
    have d0 : 0 < k := of_decide_eq_true h4
    have d5 : IntKind.i64.wrap ((k : Int) - 1) = (k : Int) - 1 := IntWalk.i64_in _ (by omega)
    have d6 : (0 : Int) ≤ (k : Int) - 1 := by omega
    have d6b : (1 : Int) ≤ (k : Int) := by omega
    have d7 : ((k : Int) - 1).toNat = k - 1 := by omega
    have d8 : (k : Int) - 1 < (nX : Int) := by omega
    (try dsimp only at hSw)
    (try simp only [List.getElem_toArray]); (try simp only [List.getElem_cons_succ]); (try simp only [List.getElem_cons_zero])
    (try simp only [Bool.not_false]); (try simp only [Bool.and_true]); (try simp only [opt_t])
    go_simp
    try with_reducible rfl
  (try simp only [Act.put]); (try simp only [List.getElem_toArray]); (try simp only [List.getElem_cons_succ]); (try simp only [List.getElem_cons_zero]); (try simp only [List.setIfInBounds_toArray]); (try simp only [List.set_cons_succ]); (try simp only [List.set_cons_zero])
  (try simp only [h5])
  refine wpAnyH_opt (i := 30) (!e3) (v := .bool q) rfl (by kernel_rfl) (by kernel_rfl) (by kernel_rfl) (fun _ _ _ h => h) (by cases e3 <;> kernel_rfl) hHeld ?_ ?_
  · intro hg w' _
    obtain rfl : e3 = false := by cases e3 <;> first | rfl | exact nomatch hg
    have EQ' := EQ.out; clear EQ; subst EQ'; cases p4 <;> cases p5 <;> (show _ = _; kernel_rfl)
  (try simp only [Act.put]); (try simp only [List.getElem_toArray]); (try simp only [List.getElem_cons_succ]); (try simp only [List.getElem_cons_zero]); (try simp only [List.setIfInBounds_toArray]); (try simp only [List.set_cons_succ]); (try simp only [List.set_cons_zero])
  refine wpAnyH_take (i := 31) (v := .bool e4) rfl (by kernel_rfl) (by kernel_rfl) (by kernel_rfl) (fun _ _ _ h => h) (Or.inl ⟨by kernel_rfl, fun w' _ => ?_⟩) hHeld ?_
  · have E4' := E4.out; clear E4; subst E4'; cases e3 <;> cases q <;> (show _ = _; kernel_rfl)
  (try simp only [Act.put]); (try simp only [List.getElem_toArray]); (try simp only [List.getElem_cons_succ]); (try simp only [List.getElem_cons_zero]); (try simp only [List.setIfInBounds_toArray]); (try simp only [List.set_cons_succ]); (try simp only [List.set_cons_zero])
  refine wpAnyH_take (i := 32) (v := ?_) rfl (by kernel_rfl) (by kernel_rfl) (by kernel_rfl) (fun _ _ _ h => h) (Or.inl ⟨by kernel_rfl, ?_⟩) hHeld ?_
  rotate_left
  · intro w' hSw
    (try dsimp only at hSw)
    (try simp only [List.getElem_toArray]); (try simp only [List.getElem_cons_succ]); (try simp only [List.getElem_cons_zero])
    go_simp
    try with_reducible rfl
  (try simp only [Act.put]); (try simp only [List.getElem_toArray]); (try simp only [List.getElem_cons_succ]); (try simp only [List.getElem_cons_zero]); (try simp only [List.setIfInBounds_toArray]); (try simp only [List.set_cons_succ]); (try simp only [List.set_cons_zero])
  refine wpAnyH_opt (i := 33) (!e4) (v := ?_) rfl (by kernel_rfl) (by kernel_rfl) (by kernel_rfl) (fun _ _ _ h => h) (by cases e4 <;> kernel_rfl) hHeld ?_ ?_
  rotate_left
  · intro hg w' hSw
    obtain rfl : e4 = false := by cases e4 <;> first | rfl | exact nomatch hg
    (try dsimp only at hSw)
    (try simp only [List.getElem_toArray]); (try simp only [List.getElem_cons_succ]); (try simp only [List.getElem_cons_zero])
    (try simp only [Bool.not_false]); (try simp only [Bool.and_true]); (try simp only [opt_t])
    go_simp
    try with_reducible rfl
  (try simp only [Act.put]); (try simp only [List.getElem_toArray]); (try simp only [List.getElem_cons_succ]); (try simp only [List.getElem_cons_zero]); (try simp only [List.setIfInBounds_toArray]); (try simp only [List.set_cons_succ]); (try simp only [List.set_cons_zero])
  refine wpAnyH_opt (i := 34) (!e4) (v := ?_) rfl (by kernel_rfl) (by kernel_rfl) (by kernel_rfl) (fun _ _ _ h => h) (by cases e4 <;> kernel_rfl) hHeld ?_ ?_
  rotate_left
  · intro hg w' hSw
    obtain rfl : e4 = false := by cases e4 <;> first | rfl | exact nomatch hg
    (try dsimp only at hSw)
    (try simp only [List.getElem_toArray]); (try simp only [List.getElem_cons_succ]); (try simp only [List.getElem_cons_zero])
    (try simp only [Bool.not_false]); (try simp only [Bool.and_true]); (try simp only [opt_t])
    go_simp
    try with_reducible rfl
  (try simp only [Act.put]); (try simp only [List.getElem_toArray]); (try simp only [List.getElem_cons_succ]); (try simp only [List.getElem_cons_zero]); (try simp only [List.setIfInBounds_toArray]); (try simp only [List.set_cons_succ]); (try simp only [List.set_cons_zero])
  refine wpAnyH_take (i := 35) (v := .bool e5) rfl (by kernel_rfl) (by kernel_rfl) (by kernel_rfl) (fun _ _ _ h => h) (Or.inl ⟨by kernel_rfl, fun w' _ => ?_⟩) hHeld ?_
  · have E5' := E5.out; clear E5; subst E5'; cases e4 <;> cases is <;> (show _ = _; kernel_rfl)
  (try simp only [Act.put]); (try simp only [List.getElem_toArray]); (try simp only [List.getElem_cons_succ]); (try simp only [List.getElem_cons_zero]); (try simp only [List.setIfInBounds_toArray]); (try simp only [List.set_cons_succ]); (try simp only [List.set_cons_zero])
  refine wpAnyH_take (i := 36) (v := ?_) rfl (by kernel_rfl) (by kernel_rfl) (by kernel_rfl) (fun _ _ _ h => h) (Or.inl ⟨by kernel_rfl, ?_⟩) hHeld ?_
  rotate_left
  · intro w' hSw
    (try dsimp only at hSw)
    (try simp only [List.getElem_toArray]); (try simp only [List.getElem_cons_succ]); (try simp only [List.getElem_cons_zero])
    go_simp
    try with_reducible rfl
  (try simp only [Act.put]); (try simp only [List.getElem_toArray]); (try simp only [List.getElem_cons_succ]); (try simp only [List.getElem_cons_zero]); (try simp only [List.setIfInBounds_toArray]); (try simp only [List.set_cons_succ]); (try simp only [List.set_cons_zero])
  refine wpAnyH_opt (i := 37) (!e5) (v := ?_) rfl (by kernel_rfl) (by kernel_rfl) (by kernel_rfl) (fun _ _ _ h => h) (by cases e5 <;> kernel_rfl) hHeld ?_ ?_
  rotate_left
  · intro hg w' hSw
    obtain rfl : e5 = false := by cases e5 <;> first | rfl | exact nomatch hg
    (try dsimp only at hSw)
    (try simp only [List.getElem_toArray]); (try simp only [List.getElem_cons_succ]); (try simp only [List.getElem_cons_zero])
    (try simp only [Bool.not_false]); (try simp only [Bool.and_true]); (try simp only [opt_t])
    go_simp
    try with_reducible rfl
  (try simp only [Act.put]); (try simp only [List.getElem_toArray]); (try simp only [List.getElem_cons_succ]); (try simp only [List.getElem_cons_zero]); (try simp only [List.setIfInBounds_toArray]); (try simp only [List.set_cons_succ]); (try simp only [List.set_cons_zero])
  refine wpAnyH_opt (i := 38) (!e5) (v := ?_) rfl (by kernel_rfl) (by kernel_rfl) (by kernel_rfl) (fun _ _ _ h => h) (by cases e5 <;> kernel_rfl) hHeld ?_ ?_
  rotate_left
  · intro hg w' hSw
    obtain rfl : e5 = false := by cases e5 <;> first | rfl | exact nomatch hg
    (try dsimp only at hSw)
    (try simp only [List.getElem_toArray]); (try simp only [List.getElem_cons_succ]); (try simp only [List.getElem_cons_zero])
    (try simp only [Bool.not_false]); (try simp only [Bool.and_true]); (try simp only [opt_t])
    go_simp
    try with_reducible rfl
  (try simp only [Act.put]); (try simp only [List.getElem_toArray]); (try simp only [List.getElem_cons_succ]); (try simp only [List.getElem_cons_zero]); (try simp only [List.setIfInBounds_toArray]); (try simp only [List.set_cons_succ]); (try simp only [List.set_cons_zero])
  refine wpAnyH_optcall (i := 39) (!e5) (v := .bool pn) (Keep Nix w) rfl (by kernel_rfl) (by cases e5 <;> kernel_rfl) ?_ kk (fun w' k => HS.out w' k) ?_
  · intro hg K hK
    obtain rfl : e5 = false := by cases e5 <;> first | rfl | exact nomatch hg
    (try simp only [Bool.not_false]); (try simp only [opt_t])
    go_simp
    go_fit (HNM.out _ kk)
    rintro e w1 ⟨rfl, k1⟩
    go_wp2_with fail
    exact hK.out _ (k1▸kk)
  clear hHeld kk
  intro w1 kk hHeld
  (try simp only [Act.put]); (try simp only [List.getElem_toArray]); (try simp only [List.getElem_cons_succ]); (try simp only [List.getElem_cons_zero]); (try simp only [List.setIfInBounds_toArray]); (try simp only [List.set_cons_succ]); (try simp only [List.set_cons_zero])
  refine wpAnyH_opt (i := 40) (!e5) (v := ?_) rfl (by kernel_rfl) (by kernel_rfl) (by kernel_rfl) (fun _ _ _ h => h) (by cases e5 <;> kernel_rfl) hHeld ?_ ?_
  rotate_left
  · intro hg w' hSw
    obtain rfl : e5 = false := by cases e5 <;> first | rfl | exact nomatch hg
    (try dsimp only at hSw)
    (try simp only [List.getElem_toArray]); (try simp only [List.getElem_cons_succ]); (try simp only [List.getElem_cons_zero])
    (try simp only [Bool.not_false]); (try simp only [Bool.and_true]); (try simp only [opt_t])
    go_simp
    try with_reducible rfl
  (try simp only [Act.put]); (try simp only [List.getElem_toArray]); (try simp only [List.getElem_cons_succ]); (try simp only [List.getElem_cons_zero]); (try simp only [List.setIfInBounds_toArray]); (try simp only [List.set_cons_succ]); (try simp only [List.set_cons_zero])
  refine wpAnyH_take (i := 41) (v := .bool e6) rfl (by kernel_rfl) (by kernel_rfl) (by kernel_rfl) (fun _ _ _ h => h) (Or.inl ⟨by kernel_rfl, fun w' _ => ?_⟩) hHeld ?_
  · have E6' := E6.out; clear E6; subst E6'; cases e5 <;> cases pn <;> (show _ = _; kernel_rfl)
  (try simp only [Act.put]); (try simp only [List.getElem_toArray]); (try simp only [List.getElem_cons_succ]); (try simp only [List.getElem_cons_zero]); (try simp only [List.setIfInBounds_toArray]); (try simp only [List.set_cons_succ]); (try simp only [List.set_cons_zero])
  refine wpAnyH_take (i := 42) (v := ?_) rfl (by kernel_rfl) (by kernel_rfl) (by kernel_rfl) (fun _ _ _ h => h) (Or.inl ⟨by kernel_rfl, ?_⟩) hHeld ?_
  rotate_left
  · intro w' hSw
    (try dsimp only at hSw)
    (try simp only [List.getElem_toArray]); (try simp only [List.getElem_cons_succ]); (try simp only [List.getElem_cons_zero])
    go_simp
    try with_reducible rfl
  (try simp only [Act.put]); (try simp only [List.getElem_toArray]); (try simp only [List.getElem_cons_succ]); (try simp only [List.getElem_cons_zero]); (try simp only [List.setIfInBounds_toArray]); (try simp only [List.set_cons_succ]); (try simp only [List.set_cons_zero])
  refine wpAnyH_opt (i := 43) (!e6) (v := ?_) rfl (by kernel_rfl) (by kernel_rfl) (by kernel_rfl) (fun _ _ _ h => h) (by cases e6 <;> kernel_rfl) hHeld ?_ ?_
  rotate_left
  · intro hg w' hSw
    obtain rfl : e6 = false := by cases e6 <;> first | rfl | exact nomatch hg
    (try dsimp only at hSw)
    (try simp only [List.getElem_toArray]); (try simp only [List.getElem_cons_succ]); (try simp only [List.getElem_cons_zero])
    (try simp only [Bool.not_false]); (try simp only [Bool.and_true]); (try simp only [opt_t])
    go_simp
    try with_reducible rfl
  (try simp only [Act.put]); (try simp only [List.getElem_toArray]); (try simp only [List.getElem_cons_succ]); (try simp only [List.getElem_cons_zero]); (try simp only [List.setIfInBounds_toArray]); (try simp only [List.set_cons_succ]); (try simp only [List.set_cons_zero])
  refine wpAnyH_opt (i := 44) (!e6) (v := ?_) rfl (by kernel_rfl) (by kernel_rfl) (by kernel_rfl) (fun _ _ _ h => h) (by cases e6 <;> kernel_rfl) hHeld ?_ ?_
  rotate_left
  · intro hg w' hSw
    obtain rfl : e6 = false := by cases e6 <;> first | rfl | exact nomatch hg
    (try dsimp only at hSw)
    (try simp only [List.getElem_toArray]); (try simp only [List.getElem_cons_succ]); (try simp only [List.getElem_cons_zero])
    (try simp only [Bool.not_false]); (try simp only [Bool.and_true]); (try simp only [opt_t])
    go_simp
    try with_reducible rfl
  (try simp only [Act.put]); (try simp only [List.getElem_toArray]); (try simp only [List.getElem_cons_succ]); (try simp only [List.getElem_cons_zero]); (try simp only [List.setIfInBounds_toArray]); (try simp only [List.set_cons_succ]); (try simp only [List.set_cons_zero])
  refine wpAnyH_opt (i := 45) (!e6) (v := ?_) rfl (by kernel_rfl) (by kernel_rfl) (by kernel_rfl) (fun _ _ _ h => h) (by cases e6 <;> kernel_rfl) hHeld ?_ ?_
  rotate_left
  · intro hg w' hSw
    obtain rfl : e6 = false := by cases e6 <;> first | rfl | exact nomatch hg
    (try dsimp only at hSw)
    (try simp only [List.getElem_toArray]); (try simp only [List.getElem_cons_succ]); (try simp only [List.getElem_cons_zero])
    (try simp only [Bool.not_false]); (try simp only [Bool.and_true]); (try simp only [opt_t])
    go_simp
    try with_reducible rfl
  (try simp only [Act.put]); (try simp only [List.getElem_toArray]); (try simp only [List.getElem_cons_succ]); (try simp only [List.getElem_cons_zero]); (try simp only [List.setIfInBounds_toArray]); (try simp only [List.set_cons_succ]); (try simp only [List.set_cons_zero])
  refine wpAnyH_opt (i := 46) (!e6) (v := ?_) rfl (by kernel_rfl) (by kernel_rfl) (by kernel_rfl) (fun _ _ _ h => h) (by cases e6 <;> kernel_rfl) hHeld ?_ ?_
  rotate_left
  · intro hg w' hSw
    obtain rfl : e6 = false := by cases e6 <;> first | rfl | exact nomatch hg
    (try dsimp only at hSw)
    (try simp only [List.getElem_toArray]); (try simp only [List.getElem_cons_succ]); (try simp only [List.getElem_cons_zero])
    (try simp only [Bool.not_false]); (try simp only [Bool.and_true]); (try simp only [opt_t])
    go_simp
    try with_reducible rfl
  (try simp only [Act.put]); (try simp only [List.getElem_toArray]); (try simp only [List.getElem_cons_succ]); (try simp only [List.getElem_cons_zero]); (try simp only [List.setIfInBounds_toArray]); (try simp only [List.set_cons_succ]); (try simp only [List.set_cons_zero])
  refine wpAnyH_opt (i := 47) (!e6) (v := ?_) rfl (by kernel_rfl) (by kernel_rfl) (by kernel_rfl) (fun _ _ _ h => h) (by cases e6 <;> kernel_rfl) hHeld ?_ ?_
  rotate_left
  · intro hg w' hSw
    obtain rfl : e6 = false := by cases e6 <;> first | rfl | exact nomatch hg
    (try dsimp only at hSw)
    (try simp only [List.getElem_toArray]); (try simp only [List.getElem_cons_succ]); (try simp only [List.getElem_cons_zero])
    (try simp only [Bool.not_false]); (try simp only [Bool.and_true]); (try simp only [opt_t])
    go_simp
    try with_reducible rfl
  (try simp only [Act.put]); (try simp only [List.getElem_toArray]); (try simp only [List.getElem_cons_succ]); (try simp only [List.getElem_cons_zero]); (try simp only [List.setIfInBounds_toArray]); (try simp only [List.set_cons_succ]); (try simp only [List.set_cons_zero])
  refine wpAnyH_optcall (i := 48) (!e6) (v := .bool pp) (Keep Nix w) rfl (by kernel_rfl) (by cases e6 <;> kernel_rfl) ?_ kk (fun w' k => HS.out w' k) ?_
  · intro hg K hK
    obtain rfl : e6 = false := by cases e6 <;> first | rfl | exact nomatch hg
    (try simp only [Bool.not_false]); (try simp only [opt_t])
    go_simp
    go_fit (HPL.out _ kk)
    rintro e w1 ⟨rfl, m, rfl⟩
    go_wp2_with fail
    exact hK.out _ (kk.drewN m)
  clear hHeld kk
  intro w1 kk hHeld
  (try simp only [Act.put]); (try simp only [List.getElem_toArray]); (try simp only [List.getElem_cons_succ]); (try simp only [List.getElem_cons_zero]); (try simp only [List.setIfInBounds_toArray]); (try simp only [List.set_cons_succ]); (try simp only [List.set_cons_zero])
  refine wpAnyH_opt (i := 49) (!e6) (v := ?_) rfl (by kernel_rfl) (by kernel_rfl) (by kernel_rfl) (fun _ _ _ h => h) (by cases e6 <;> kernel_rfl) hHeld ?_ ?_
  rotate_left
  · intro hg w' hSw
    obtain rfl : e6 = false := by cases e6 <;> first | rfl | exact nomatch hg
    (try dsimp only at hSw)
    (try simp only [List.getElem_toArray]); (try simp only [List.getElem_cons_succ]); (try simp only [List.getElem_cons_zero])
    (try simp only [Bool.not_false]); (try simp only [Bool.and_true]); (try simp only [opt_t])
    go_simp
    try with_reducible rfl
  (try simp only [Act.put]); (try simp only [List.getElem_toArray]); (try simp only [List.getElem_cons_succ]); (try simp only [List.getElem_cons_zero]); (try simp only [List.setIfInBounds_toArray]); (try simp only [List.set_cons_succ]); (try simp only [List.set_cons_zero])
  refine wpAnyH_take (i := 50) (v := .bool e7) rfl (by kernel_rfl) (by kernel_rfl) (by kernel_rfl) (fun _ _ _ h => h) (Or.inl ⟨by kernel_rfl, fun w' _ => ?_⟩) hHeld ?_
  · have E7' := E7.out; clear E7; subst E7'; cases e6 <;> cases pp <;> (show _ = _; kernel_rfl)
  (try simp only [Act.put]); (try simp only [List.getElem_toArray]); (try simp only [List.getElem_cons_succ]); (try simp only [List.getElem_cons_zero]); (try simp only [List.setIfInBounds_toArray]); (try simp only [List.set_cons_succ]); (try simp only [List.set_cons_zero])
  refine wpAnyH_take (i := 51) (v := ?_) rfl (by kernel_rfl) (by kernel_rfl) (by kernel_rfl) (fun _ _ _ h => h) (Or.inl ⟨by kernel_rfl, ?_⟩) hHeld ?_
  rotate_left
  · intro w' hSw
    (try dsimp only at hSw)
    (try simp only [List.getElem_toArray]); (try simp only [List.getElem_cons_succ]); (try simp only [List.getElem_cons_zero])
    go_simp
    try with_reducible rfl
  (try simp only [Act.put]); (try simp only [List.getElem_toArray]); (try simp only [List.getElem_cons_succ]); (try simp only [List.getElem_cons_zero]); (try simp only [List.setIfInBounds_toArray]); (try simp only [List.set_cons_succ]); (try simp only [List.set_cons_zero])
  refine wpAnyH_opt (i := 52) (!e7) (v := ?_) rfl (by kernel_rfl) (by kernel_rfl) (by kernel_rfl) (fun _ _ _ h => h) (by cases e7 <;> kernel_rfl) hHeld ?_ ?_
  rotate_left
  · intro hg w' hSw
    obtain rfl : e7 = false := by cases e7 <;> first | rfl | exact nomatch hg
    (try dsimp only at hSw)
    (try simp only [List.getElem_toArray]); (try simp only [List.getElem_cons_succ]); (try simp only [List.getElem_cons_zero])
    (try simp only [Bool.not_false]); (try simp only [Bool.and_true]); (try simp only [opt_t])
    go_simp
    try with_reducible rfl
  (try simp only [Act.put]); (try simp only [List.getElem_toArray]); (try simp only [List.getElem_cons_succ]); (try simp only [List.getElem_cons_zero]); (try simp only [List.setIfInBounds_toArray]); (try simp only [List.set_cons_succ]); (try simp only [List.set_cons_zero])
  refine wpAnyH_opt (i := 53) (!e7) (v := ?_) rfl (by kernel_rfl) (by kernel_rfl) (by kernel_rfl) (fun _ _ _ h => h) (by cases e7 <;> kernel_rfl) hHeld ?_ ?_
  rotate_left
  · intro hg w' hSw
    obtain rfl : e7 = false := by cases e7 <;> first | rfl | exact nomatch hg
    (try dsimp only at hSw)
    (try simp only [List.getElem_toArray]); (try simp only [List.getElem_cons_succ]); (try simp only [List.getElem_cons_zero])
    (try simp only [Bool.not_false]); (try simp only [Bool.and_true]); (try simp only [opt_t])
    go_simp
    try with_reducible rfl
  (try simp only [Act.put]); (try simp only [List.getElem_toArray]); (try simp only [List.getElem_cons_succ]); (try simp only [List.getElem_cons_zero]); (try simp only [List.setIfInBounds_toArray]); (try simp only [List.set_cons_succ]); (try simp only [List.set_cons_zero])
  refine wpAnyH_opt (i := 54) (!e7) (v := ?_) rfl (by kernel_rfl) (by kernel_rfl) (by kernel_rfl) (fun _ _ _ h => h) (by cases e7 <;> kernel_rfl) hHeld ?_ ?_
  rotate_left
  · intro hg w' hSw
    obtain rfl : e7 = false := by cases e7 <;> first | rfl | exact nomatch hg
    (try dsimp only at hSw)
    (try simp only [List.getElem_toArray]); (try simp only [List.getElem_cons_succ]); (try simp only [List.getElem_cons_zero])
    (try simp only [Bool.not_false]); (try simp only [Bool.and_true]); (try simp only [opt_t])
    go_simp
    try with_reducible rfl
  (try simp only [Act.put]); (try simp only [List.getElem_toArray]); (try simp only [List.getElem_cons_succ]); (try simp only [List.getElem_cons_zero]); (try simp only [List.setIfInBounds_toArray]); (try simp only [List.set_cons_succ]); (try simp only [List.set_cons_zero])
  (try simp only [h6])
  refine wpAnyH_take (i := 55) (v := .bool e8) rfl (by kernel_rfl) (by kernel_rfl) (by kernel_rfl) (fun _ _ _ h => h) (Or.inl ⟨by kernel_rfl, fun w' _ => ?_⟩) hHeld ?_
  · have E8' := E8.out; clear E8; subst E8'; cases e7 <;> cases s1 <;> (show _ = _; kernel_rfl)
  (try simp only [Act.put]); (try simp only [List.getElem_toArray]); (try simp only [List.getElem_cons_succ]); (try simp only [List.getElem_cons_zero]); (try simp only [List.setIfInBounds_toArray]); (try simp only [List.set_cons_succ]); (try simp only [List.set_cons_zero])
  refine wpAnyH_take (i := 56) (v := ?_) rfl (by kernel_rfl) (by kernel_rfl) (by kernel_rfl) (fun _ _ _ h => h) (Or.inl ⟨by kernel_rfl, ?_⟩) hHeld ?_
  rotate_left
  · intro w' hSw
    (try dsimp only at hSw)
    (try simp only [List.getElem_toArray]); (try simp only [List.getElem_cons_succ]); (try simp only [List.getElem_cons_zero])
    go_simp
    try with_reducible rfl
  (try simp only [Act.put]); (try simp only [List.getElem_toArray]); (try simp only [List.getElem_cons_succ]); (try simp only [List.getElem_cons_zero]); (try simp only [List.setIfInBounds_toArray]); (try simp only [List.set_cons_succ]); (try simp only [List.set_cons_zero])
  refine wpAnyH_opt (i := 57) (!e8) (v := ?_) rfl (by kernel_rfl) (by kernel_rfl) (by kernel_rfl) (fun _ _ _ h => h) (by cases e8 <;> kernel_rfl) hHeld ?_ ?_
  rotate_left
  · intro hg w' hSw
    obtain rfl : e8 = false := by cases e8 <;> first | rfl | exact nomatch hg
    (try dsimp only at hSw)
    (try simp only [List.getElem_toArray]); (try simp only [List.getElem_cons_succ]); (try simp only [List.getElem_cons_zero])
    (try simp only [Bool.not_false]); (try simp only [Bool.and_true]); (try simp only [opt_t])
    go_simp
    try with_reducible rfl
  (try simp only [Act.put]); (try simp only [List.getElem_toArray]); (try simp only [List.getElem_cons_succ]); (try simp only [List.getElem_cons_zero]); (try simp only [List.setIfInBounds_toArray]); (try simp only [List.set_cons_succ]); (try simp only [List.set_cons_zero])
  refine wpAnyH_opt (i := 58) (!e8) (v := ?_) rfl (by kernel_rfl) (by kernel_rfl) (by kernel_rfl) (fun _ _ _ h => h) (by cases e8 <;> kernel_rfl) hHeld ?_ ?_
  rotate_left
  · intro hg w' hSw
    obtain rfl : e8 = false := by cases e8 <;> first | rfl | exact nomatch hg
    (try dsimp only at hSw)
    (try simp only [List.getElem_toArray]); (try simp only [List.getElem_cons_succ]); (try simp only [List.getElem_cons_zero])
    (try simp only [Bool.not_false]); (try simp only [Bool.and_true]); (try simp only [opt_t])
    go_simp
    try with_reducible rfl
  (try simp only [Act.put]); (try simp only [List.getElem_toArray]); (try simp only [List.getElem_cons_succ]); (try simp only [List.getElem_cons_zero]); (try simp only [List.setIfInBounds_toArray]); (try simp only [List.set_cons_succ]); (try simp only [List.set_cons_zero])
  refine wpAnyH_opt (i := 59) (!e8) (v := ?_) rfl (by kernel_rfl) (by kernel_rfl) (by kernel_rfl) (fun _ _ _ h => h) (by cases e8 <;> kernel_rfl) hHeld ?_ ?_
  rotate_left
  · intro hg w' hSw
    obtain rfl : e8 = false := by cases e8 <;> first | rfl | exact nomatch hg
    (try dsimp only at hSw)
    (try simp only [List.getElem_toArray]); (try simp only [List.getElem_cons_succ]); (try simp only [List.getElem_cons_zero])
    (try simp only [Bool.not_false]); (try simp only [Bool.and_true]); (try simp only [opt_t])
    go_simp
    try with_reducible rfl
  (try simp only [Act.put]); (try simp only [List.getElem_toArray]); (try simp only [List.getElem_cons_succ]); (try simp only [List.getElem_cons_zero]); (try simp only [List.setIfInBounds_toArray]); (try simp only [List.set_cons_succ]); (try simp only [List.set_cons_zero])
  (try simp only [h7])
  refine wpAnyH_take (i := 60) (v := .bool e9) rfl (by kernel_rfl) (by kernel_rfl) (by kernel_rfl) (fun _ _ _ h => h) (Or.inl ⟨by kernel_rfl, fun w' _ => ?_⟩) hHeld ?_
  · have E9' := E9.out; clear E9; subst E9'; cases e8 <;> cases s2 <;> (show _ = _; kernel_rfl)
  (try simp only [Act.put]); (try simp only [List.getElem_toArray]); (try simp only [List.getElem_cons_succ]); (try simp only [List.getElem_cons_zero]); (try simp only [List.setIfInBounds_toArray]); (try simp only [List.set_cons_succ]); (try simp only [List.set_cons_zero])
  refine wpAnyH_done (by kernel_rfl) ?_ _
  exact NoPanic.normal (hQ.out _ _ _ _ _ _ _ _ _ _ _ _ _ _ _ _ _ _ _ _ _ _ _ _ _ _ _ _ _ _ _ _ _ _ _ _ _ _ _ _ _ _ _ _ _ _ _ _ _ _ _ _ _ _ _ _ _ _ _ _ _ kk)
end
end Go.Proofs.Ytfogbbnfedcldaa
