/- SCHEMA: the law SchemaChanges, its loop. Printed by mac.py. -/
import Derived.Test.YtfogbbnfedcldaaSchCe
import Derived.Test.YtfogbbnfedcldaaSchD0
import Derived.Deep.DeepCutAuto
import Derived.Deep.CutBlock
import Derived.Test.YtfogbbnfedcldaaMod
namespace Go.Proofs.Ytfogbbnfedcldaa
open Go.RowKit

namespace schemaChanges
noncomputable def loopC : Code := ((Try.f6.body.bind loopAt).getD .skip)
def KWR (wo : World) (g6 : Nat) (op : GOp) (aTC : Option Addr) (cTC : Nat) (aTK : Option Addr) (cTK : Nat) (aXC : Option Addr) (cXC : Nat) (wx : World) : Prop := ∃ kd id frm tt : Int, RowIs wx g6 57 [.int .i64 kd, .int .i64 op.fT.fID, .string (strB op.fT.fName), .slice aTC op.fT.fColumns.length cTC, .slice aTK op.fT.fKey.length cTK, .int .i64 op.fX.fID, .int .i64 op.fX.fTable, .string (strB op.fX.fName), .slice aXC op.fX.fColumns.length cXC, .bool op.fX.fUnique, .int .i64 op.fX.fState, .bool op.fX.fBad, .string (strB op.fName), .int .i64 id, .int .i64 frm, .int .i64 tt, .bool op.fBad] ∧ isI64 id ∧ isI64 frm ∧ isI64 tt ∧ Keep (· = g6) wo wx
def SWR (w5 : World) (H : Nat) (ci : GCatalog) (s11 s12 : Value) (wx : World) : Prop := ∃ (d : GCatalog) (ec : Int) (csn csm : List Value), s11 = .int .i64 ec ∧ s12 = .int .i64 ec ∧ RowIs wx H 25 csn ∧ RowIs wx (H + 1) 25 csm ∧ rGCatalog wx (fun b => b < wx.heap.size ∧ b ≠ H ∧ b ≠ H + 1) csn d ∧ rGCatalog wx (fun b => b < wx.heap.size ∧ b ≠ H ∧ b ≠ H + 1) csm d ∧ RightP d ∧ d.fVersion ≤ ci.fVersion + 1 ∧ Keep (fun b => b = H ∨ b = H + 1) w5 wx
section
attribute [local go_sem ↓] ldz_Catalog stz_Catalog ldz_Op stz_Op ldz_Index stz_Index ldz_Table stz_Table cv_up cv_down rm_uint
set_option maxRecDepth 100000 in
set_option maxHeartbeats 64000000 in
theorem LOOP (W w : World) (g2 : Nat) (c : GCatalog) (csc : List Value) (aS : Option Addr) (cS : Nat) (S : List GOp) (x0 x3 x4 x6 x7 x8 x9 x10 x11 x12 x13 x14 x15 x16 x17 x18 x19 x20 x21 x22 x23 x24 x25 x26 x27 x28 x29 x30 x31 x32 x33 x34 x35 x36 x37 x38 x39 x40 x41 x42 x43 x44 x45 x46 x47 x48 x49 x50 x51 x52 x53 x54 x55 x56 x57 x58 x59 x60 x61 x62 x63 x64 x65 x66 x67 x68 x69 x70 x71 x72 x73 x74 x75 x76 x77 x78 x79 x80 x81 x82 x83 x84 x85 x86 x87 x88 x89 x90 x91 x92 x93 x94 x95 x96 x97 x98 x99 x100 x101 x102 x103 x104 x105 x106 x107 x108 x109 x110 x111 x112 x113 x114 x115 x116 x117 x118 x119 x120 x121 x122 x123 x124 x125 x126 x127 x128 x129 x130 x131 x132 x133 x134 x135 x136 x137 x138 x139 x140 x141 x142 x143 x144 x145 x146 x147 x148 x149 x150 x151 x152 x153 x154 x155 x156 x157 x158 x159 x160 x161 x162 x163 x164 x165 x166 x167 x168 x169 x170 x171 x172 x173 x174 x175 x176 x177 x178 x179 x180 x181 x182 x183 x184 x185 x186 x187 x188 x189 x190 x191 x192 x193 x194 x195 x196 x197 x198 : Value) (row0 : RowIs w g2 25 csc) (hg2 : W.heap.size ≤ g2) (gc : rGCatalog w (fun b => b < w.heap.size ∧ b ≠ g2) csc c) (hR : Hid (RightP c)) (hv : c.fVersion ≤ 1099511627776) (kk : Keep Nix W w) (hS : rList rGOp W (· < W.heap.size) [.slice aS S.length cS] S)
    (Q : Exit → Act → World → Prop) (hQ : Shut (∀ (u4 u5 u6 u7 u8 u9 u10 u11 u12 u30 u31 u32 u33 u34 u35 u36 u37 u38 u39 u40 u41 u42 u43 u44 u45 u46 u47 u48 u49 u50 u51 u52 u53 u54 u55 u56 u57 u58 u59 u60 u61 u62 u63 u64 u65 u66 u67 u68 u69 u70 u71 u72 u73 u74 u75 u76 u77 u78 u79 u80 u81 u82 u83 u84 u85 u86 u87 u88 u89 u90 u91 u92 u93 u94 u95 u96 u97 u98 u99 u100 u101 u102 u103 u104 u105 u106 u107 u108 u109 u110 u111 u112 u113 u114 u115 u116 u117 u118 u119 u120 u121 u122 u123 u124 u125 u126 u127 u128 u129 u130 u131 u132 u133 u134 u135 u136 u137 u138 u139 u140 u141 u142 u143 u144 u145 u146 u147 u148 u149 u150 u151 u152 u153 u154 u155 u156 u157 u158 u159 u160 u161 u162 u163 u164 u165 u166 u167 u168 u169 u170 u171 u172 u173 u174 u175 u176 u177 u178 u179 u180 u181 u182 u183 u184 u185 u186 u187 u188 u189 u190 u191 u192 u193 u194 u195 u196 u197 u198 : Value) (w' : World), Keep Nix W w' → Q (.exit 0) ⟨#[x0, .slice aS S.length cS, .pointer (some ⟨g2, 0, none⟩), x3, u4, u5, u6, u7, u8, u9, u10, u11, u12, x13, x14, x15, x16, x17, x18, x19, x20, x21, x22, x23, x24, x25, x26, x27, x28, x29, u30, u31, u32, u33, u34, u35, u36, u37, u38, u39, u40, u41, u42, u43, u44, u45, u46, u47, u48, u49, u50, u51, u52, u53, u54, u55, u56, u57, u58, u59, u60, u61, u62, u63, u64, u65, u66, u67, u68, u69, u70, u71, u72, u73, u74, u75, u76, u77, u78, u79, u80, u81, u82, u83, u84, u85, u86, u87, u88, u89, u90, u91, u92, u93, u94, u95, u96, u97, u98, u99, u100, u101, u102, u103, u104, u105, u106, u107, u108, u109, u110, u111, u112, u113, u114, u115, u116, u117, u118, u119, u120, u121, u122, u123, u124, u125, u126, u127, u128, u129, u130, u131, u132, u133, u134, u135, u136, u137, u138, u139, u140, u141, u142, u143, u144, u145, u146, u147, u148, u149, u150, u151, u152, u153, u154, u155, u156, u157, u158, u159, u160, u161, u162, u163, u164, u165, u166, u167, u168, u169, u170, u171, u172, u173, u174, u175, u176, u177, u178, u179, u180, u181, u182, u183, u184, u185, u186, u187, u188, u189, u190, u191, u192, u193, u194, u195, u196, u197, u198], []⟩ w')) :
    loopC.wp Try.prog Q ⟨#[x0, .slice aS S.length cS, .pointer (some ⟨g2, 0, none⟩), x3, x4, .int .i64 0, x6, x7, x8, x9, x10, x11, x12, x13, x14, x15, x16, x17, x18, x19, x20, x21, x22, x23, x24, x25, x26, x27, x28, x29, x30, x31, x32, x33, x34, x35, x36, x37, x38, x39, x40, x41, x42, x43, x44, x45, x46, x47, x48, x49, x50, x51, x52, x53, x54, x55, x56, x57, x58, x59, x60, x61, x62, x63, x64, x65, x66, x67, x68, x69, x70, x71, x72, x73, x74, x75, x76, x77, x78, x79, x80, x81, x82, x83, x84, x85, x86, x87, x88, x89, x90, x91, x92, x93, x94, x95, x96, x97, x98, x99, x100, x101, x102, x103, x104, x105, x106, x107, x108, x109, x110, x111, x112, x113, x114, x115, x116, x117, x118, x119, x120, x121, x122, x123, x124, x125, x126, x127, x128, x129, x130, x131, x132, x133, x134, x135, x136, x137, x138, x139, x140, x141, x142, x143, x144, x145, x146, x147, x148, x149, x150, x151, x152, x153, x154, x155, x156, x157, x158, x159, x160, x161, x162, x163, x164, x165, x166, x167, x168, x169, x170, x171, x172, x173, x174, x175, x176, x177, x178, x179, x180, x181, x182, x183, x184, x185, x186, x187, x188, x189, x190, x191, x192, x193, x194, x195, x196, x197, x198], []⟩ w := by
  conv => arg 2; whnf
  conv => arg 4; dsimp only
  have hn : S.length ≤ 140737488351232 := Nat.le_trans (rList_len hS).2.2 far_len.1
  go_loopw [5] (fun i wr => ∃ (k : Nat) (ci : GCatalog) (csi : List Value), k ≤ S.length ∧ k ≤ 60 ∧ i = .int .i64 k ∧ Hid (RightP ci) ∧ ci.fVersion ≤ 1099511627776 + k ∧ RowIs wr g2 25 csi ∧ rGCatalog wr (fun b => b < wr.heap.size ∧ b ≠ g2) csi ci ∧ Keep Nix W wr) (fun i _ => S.length - (intOf i).toNat)
  case atStart => exact ⟨0, c, csc, by omega, by omega, rfl, hR, by omega, row0, gc, kk⟩
  case round =>
    clear row0 gc kk hR hv
    obtain ⟨k, ci, csi, hk, hk6, rfl, hR, hv, row0, gc, kk⟩ := hrel
    by_cases hlt : k < S.length
    · rcases Nat.lt_or_ge k 60 with h60 | h60
      · have hi0 : (0 : Int) ≤ (k : Int) := by omega
        have hi1 : (k : Int) < (S.length : Int) := by omega
        have h60' : (k : Int) < 60 := by omega
        obtain ⟨b, o, cc, cs, e1, -, hb, r, hcl⟩ := rList_at rGOp_lawful (by decide) ((rList_lawful rGOp_lawful).nix hS kk) k hlt
        simp only [List.cons.injEq, Value.slice.injEq, and_true] at e1
        obtain ⟨rfl, -, -⟩ := e1
        generalize S[k] = op at r
        have hlo := rGOp_lawful.len r
        have ld := Whole.at (P := Try.prog) S_Op hlo hcl
        unfold Whole at ld
        obtain ⟨hst, rowO, kV⟩ := boxed (P := Try.prog) (zs := [.int .i64 0, .int .i64 0, .string { data := #[] }, .slice none 0 0, .slice none 0 0, .int .i64 0, .int .i64 0, .string { data := #[] }, .slice none 0 0, .bool false, .int .i64 0, .bool false, .string { data := #[] }, .int .i64 0, .int .i64 0, .int .i64 0, .bool false]) S_Op wr rfl hlo (rGOp_ones r)
        have r2 := rGOp_lawful.nix r kV
        obtain ⟨aTC, cTC, aTK, cTK, aXC, cXC, rfl, hkd, gT, gX, hnm, hid, hfr, hto, -⟩ := rGOp_open r2
        clear r r2 hcl
        have hg2l := row0.lt
        have hWr := kk.size
        (try replace row0 := row0.keep kV id)
        (try replace rowO := rowO.keep kV id)
        (try replace rowI := rowI.keep kV id)
        (try replace rowN := rowN.keep kV id)
        (try replace rowM := rowM.keep kV id)
        (try replace gc := rGCatalog_lawful.nix gc kV)
        (try replace gT := rGTable_lawful.nix gT kV)
        (try replace gX := rGIndex_lawful.nix gX kV)
        (try replace gi := rGCatalog_lawful.nix gi kV)
        (try replace gn := rGCatalog_lawful.nix gn kV)
        (try replace gm := rGCatalog_lawful.nix gm kV)
        replace kk := kk.trans kV
        have hszr := Lib.hid kV.size
        have hg2r : g2 < wr.heap.size := hg2l
        clear kV
        have mTC := (rList_len (tab_cols gT)).2.2
        have mTK := (rList_len (tab_key gT)).2.2
        have mXC := (rList_len (idx_cols gX)).2.2
        have hfar := far_len
        go_upto_region 9 with fail
        clear ld hst
        generalize (wr.alloc (.cells #[.int .i64 0, .int .i64 0, .string { data := #[] }, .slice none 0 0, .slice none 0 0, .int .i64 0, .int .i64 0, .string { data := #[] }, .slice none 0 0, .bool false, .int .i64 0, .bool false, .string { data := #[] }, .int .i64 0, .int .i64 0, .int .i64 0, .bool false] 57)).setRow wr.heap.size #[.int .i64 op.fKind, .int .i64 op.fT.fID, .string (strB op.fT.fName), .slice aTC op.fT.fColumns.length cTC, .slice aTK op.fT.fKey.length cTK, .int .i64 op.fX.fID, .int .i64 op.fX.fTable, .string (strB op.fX.fName), .slice aXC op.fX.fColumns.length cXC, .bool op.fX.fUnique, .int .i64 op.fX.fState, .bool op.fX.fBad, .string (strB op.fName), .int .i64 op.fID, .int .i64 op.fFrom, .int .i64 op.fTo, .bool op.fBad] = wo at *
        have o3 := rowO.cell 3
        (try simp only [List.getElem?_cons_succ] at o3); (try simp only [List.getElem?_cons_zero] at o3)
        have o4 := rowO.cell 4
        (try simp only [List.getElem?_cons_succ] at o4); (try simp only [List.getElem?_cons_zero] at o4)
        have o8 := rowO.cell 8
        (try simp only [List.getElem?_cons_succ] at o8); (try simp only [List.getElem?_cons_zero] at o8)
        rcases Int.lt_or_le 30 (op.fT.fColumns.length : Int) with s1 | s1
        · as_aux_lemma =>
          go_wp2_with fail
          go_roundw
          case rel => exact ⟨k + 1, ci, csi, by omega, by omega, by go_num, hR, by omega, row0, rGCatalog_lawful.mono gc (fun b hb => ⟨Nat.lt_of_lt_of_le hb.1 hszr.out, hb.2⟩), kk⟩
          case measure => simp [intOf]; omega
        rcases Int.lt_or_le 30 (op.fT.fKey.length : Int) with s2 | s2
        · as_aux_lemma =>
          go_wp2_with fail
          go_roundw
          case rel => exact ⟨k + 1, ci, csi, by omega, by omega, by go_num, hR, by omega, row0, rGCatalog_lawful.mono gc (fun b hb => ⟨Nat.lt_of_lt_of_le hb.1 hszr.out, hb.2⟩), kk⟩
          case measure => simp [intOf]; omega
        rcases Int.lt_or_le 30 (op.fX.fColumns.length : Int) with s3 | s3
        · as_aux_lemma =>
          go_wp2_with fail
          go_roundw
          case rel => exact ⟨k + 1, ci, csi, by omega, by omega, by go_num, hR, by omega, row0, rGCatalog_lawful.mono gc (fun b hb => ⟨Nat.lt_of_lt_of_le hb.1 hszr.out, hb.2⟩), kk⟩
          case measure => simp [intOf]; omega
        obtain ⟨aT, cT, aX, cX, rfl, -⟩ := rGCatalog_open gc
        have o0 := rowO.cell 0
        (try simp only [List.getElem?_cons_succ] at o0); (try simp only [List.getElem?_cons_zero] at o0)
        have x3 := row0.cell 3
        (try simp only [List.getElem?_cons_succ] at x3); (try simp only [List.getElem?_cons_zero] at x3)
        have mX : ci.fIndexes.length ≤ 140737488351232 := by have := hR.out.x10; omega
        obtain ⟨v4, a4, A4⟩ : ∃ v, (op.fKind == 4) = v ∧ Hid (v = true ↔ op.fKind = 4) := ⟨_, rfl, Lib.hid (by simp)⟩
        obtain ⟨vl, al, AL⟩ : ∃ v, decide (0 < ci.fIndexes.length) = v ∧ Hid (v = true ↔ 0 < ci.fIndexes.length) := ⟨_, rfl, Lib.hid (by simp)⟩
        go_upto_region 10 with fail
        go_cut [71] from 30 to 198 (fun s71 wx => s71 = .bool (v4 && vl) ∧ wo = wx)
        case first =>
          as_aux_lemma =>
          cases v4 with
          | false =>
            go_wp2_with fail
            go_meet
            case rel => exact ⟨rfl, rfl⟩
          | true =>
            go_wp2_with fail
            go_meet
            case rel => exact ⟨by first | rfl | (rw [al]; rfl), rfl⟩
        case rest =>
        obtain ⟨rfl, rfl⟩ := hcut
        go_upto_if 71 with fail
        go_cut [7] from 30 to 198 (fun _ wx => KWR wo wr.heap.size op aTC cTC aTK cTK aXC cXC wx)
        case first =>
          as_aux_lemma =>
          obtain ⟨vv, hvv⟩ : ∃ v, Hid ((v4 && vl) = v) := ⟨_, rfl⟩
          rw [hvv.out]
          cases vv with
          | false =>
            go_wp2_with fail
            go_meet
            case rel => exact ⟨op.fKind, op.fID, op.fFrom, op.fTo, rowO, hid, hfr, hto, Keep.refl _ _⟩
          | true =>
            have hlen : 0 < ci.fIndexes.length := AL.out.1 (by have := hvv.out; cases v4 <;> cases vl <;> first | rfl | exact nomatch this)
            obtain ⟨cq, j, hj, f1, f2, f3, f4⟩ := round_facts op.fID ci.fIndexes.length hlen (by unfold maxLen; omega)
            obtain ⟨bI, oI, cI, csI, e1, -, hbI, rI, hcI⟩ := rList_at rGIndex_lawful (by decide) (cat_idx gc) j hj
            simp only [List.cons.injEq, Value.slice.injEq, and_true] at e1
            obtain ⟨rfl, -, -⟩ := e1
            generalize ci.fIndexes[j] = x at rI
            have gI := rI
            obtain ⟨aY, cY, rfl, hy0, -, -, -, hy5, -⟩ := rGIndex_open rI
            have hlI : ([.int .i64 x.fID, .int .i64 x.fTable, .string (strB x.fName), .slice aY x.fColumns.length cY, .bool x.fUnique, .int .i64 x.fState, .bool x.fBad] : List Value).length = 7 := rfl
            have hj0 : (0 : Int) ≤ (j : Int) := by omega
            have hj1 : (j : Int) < (ci.fIndexes.length : Int) := by omega
            have kd : Keep Nix wo wo.drew := (Keep.refl Nix wo).drew
            have hS : ∀ w', Keep Nix wo w' → (w'.cell? ⟨g2, 3, none⟩ = some (.slice (some ⟨bI, oI, none⟩) ci.fIndexes.length cX) ∧ w'.cell? ⟨wr.heap.size, 13, none⟩ = some (.int .i64 op.fID) ∧ (wholeSem 37 (.pointer (some ⟨bI, oI + j * 7, none⟩))).run Try.prog w' = .ok (.value (.agg #[.int .i64 x.fID, .int .i64 x.fTable, .string (strB x.fName), .slice aY x.fColumns.length cY, .bool x.fUnique, .int .i64 x.fState, .bool x.fBad])) w') := fun w' k' => ⟨(row0.keep k' id).cell 3, (rowO.keep k' id).cell 13, Whole.at S_Index hlI (fun q u hu => (k'.cell (p := ⟨bI, oI + j * 7 + q, none⟩) hbI id).trans (hcI q u hu))⟩
            have HS := Lib.hid hS
            clear hS hcI
            have hg6 := rowO.lt
            go_wp2_with fail
            refine wp_region_noPanic ?_
            refine wp_region_held_drew (S := (fun w' => (w'.cell? ⟨g2, 3, none⟩ = some (.slice (some ⟨bI, oI, none⟩) ci.fIndexes.length cX) ∧ w'.cell? ⟨wr.heap.size, 13, none⟩ = some (.int .i64 op.fID) ∧ (wholeSem 37 (.pointer (some ⟨bI, oI + j * 7, none⟩))).run Try.prog w' = .ok (.value (.agg #[.int .i64 x.fID, .int .i64 x.fTable, .string (strB x.fName), .slice aY x.fColumns.length cY, .bool x.fUnique, .int .i64 x.fState, .bool x.fBad])) w'))) (by kernel_rfl) ((HS.out _ kd)) (fun hHeld => ?_)
            generalize wo.drew = wd at kd hHeld ⊢
            refine wpAnyH_take (i := 0) (v := ?_) rfl (by kernel_rfl) (by kernel_rfl) (by kernel_rfl) (fun _ _ _ h => h) (Or.inl ⟨by kernel_rfl, ?_⟩) hHeld ?_
            rotate_left
            · intro w' hSw
              (try dsimp only at hSw)
              (try simp only [List.getElem_toArray]); (try simp only [List.getElem_cons_succ]); (try simp only [List.getElem_cons_zero])
              go_simp
              try with_reducible rfl
            (try simp only [Act.put]); (try simp only [List.getElem_toArray]); (try simp only [List.getElem_cons_succ]); (try simp only [List.getElem_cons_zero]); (try simp only [List.setIfInBounds_toArray]); (try simp only [List.set_cons_succ]); (try simp only [List.set_cons_zero])
            refine wpAnyH_take (i := 1) (v := ?_) rfl (by kernel_rfl) (by kernel_rfl) (by kernel_rfl) (fun _ _ _ h => h) (Or.inl ⟨by kernel_rfl, ?_⟩) hHeld ?_
            rotate_left
            · intro w' hSw
              (try dsimp only at hSw)
              (try simp only [List.getElem_toArray]); (try simp only [List.getElem_cons_succ]); (try simp only [List.getElem_cons_zero])
              go_simp
              try with_reducible rfl
            (try simp only [Act.put]); (try simp only [List.getElem_toArray]); (try simp only [List.getElem_cons_succ]); (try simp only [List.getElem_cons_zero]); (try simp only [List.setIfInBounds_toArray]); (try simp only [List.set_cons_succ]); (try simp only [List.set_cons_zero])
            refine wpAnyH_take (i := 2) (v := ?_) rfl (by kernel_rfl) (by kernel_rfl) (by kernel_rfl) (fun _ _ _ h => h) (Or.inl ⟨by kernel_rfl, ?_⟩) hHeld ?_
            rotate_left
            · intro w' hSw
              (try dsimp only at hSw)
              (try simp only [List.getElem_toArray]); (try simp only [List.getElem_cons_succ]); (try simp only [List.getElem_cons_zero])
              go_simp
              try with_reducible rfl
            (try simp only [Act.put]); (try simp only [List.getElem_toArray]); (try simp only [List.getElem_cons_succ]); (try simp only [List.getElem_cons_zero]); (try simp only [List.setIfInBounds_toArray]); (try simp only [List.set_cons_succ]); (try simp only [List.set_cons_zero])
            refine wpAnyH_take (i := 3) (v := ?_) rfl (by kernel_rfl) (by kernel_rfl) (by kernel_rfl) (fun _ _ _ h => h) (Or.inl ⟨by kernel_rfl, ?_⟩) hHeld ?_
            rotate_left
            · intro w' hSw
              (try dsimp only at hSw)
              (try simp only [List.getElem_toArray]); (try simp only [List.getElem_cons_succ]); (try simp only [List.getElem_cons_zero])
              go_simp
              try with_reducible rfl
            (try simp only [Act.put]); (try simp only [List.getElem_toArray]); (try simp only [List.getElem_cons_succ]); (try simp only [List.getElem_cons_zero]); (try simp only [List.setIfInBounds_toArray]); (try simp only [List.set_cons_succ]); (try simp only [List.set_cons_zero])
            refine wpAnyH_take (i := 4) (v := ?_) rfl (by kernel_rfl) (by kernel_rfl) (by kernel_rfl) (fun _ _ _ h => h) (Or.inl ⟨by kernel_rfl, ?_⟩) hHeld ?_
            rotate_left
            · intro w' hSw
              (try dsimp only at hSw)
              (try simp only [List.getElem_toArray]); (try simp only [List.getElem_cons_succ]); (try simp only [List.getElem_cons_zero])
              go_simp
              try with_reducible rfl
            (try simp only [Act.put]); (try simp only [List.getElem_toArray]); (try simp only [List.getElem_cons_succ]); (try simp only [List.getElem_cons_zero]); (try simp only [List.setIfInBounds_toArray]); (try simp only [List.set_cons_succ]); (try simp only [List.set_cons_zero])
            refine wpAnyH_take (i := 5) (v := ?_) rfl (by kernel_rfl) (by kernel_rfl) (by kernel_rfl) (fun _ _ _ h => h) (Or.inl ⟨by kernel_rfl, ?_⟩) hHeld ?_
            rotate_left
            · intro w' hSw
              (try dsimp only at hSw)
              (try simp only [List.getElem_toArray]); (try simp only [List.getElem_cons_succ]); (try simp only [List.getElem_cons_zero])
              go_simp
              try with_reducible rfl
            (try simp only [Act.put]); (try simp only [List.getElem_toArray]); (try simp only [List.getElem_cons_succ]); (try simp only [List.getElem_cons_zero]); (try simp only [List.setIfInBounds_toArray]); (try simp only [List.set_cons_succ]); (try simp only [List.set_cons_zero])
            refine wpAnyH_take (i := 6) (v := ?_) rfl (by kernel_rfl) (by kernel_rfl) (by kernel_rfl) (fun _ _ _ h => h) (Or.inl ⟨by kernel_rfl, ?_⟩) hHeld ?_
            rotate_left
            · intro w' hSw
              (try dsimp only at hSw)
              (try simp only [List.getElem_toArray]); (try simp only [List.getElem_cons_succ]); (try simp only [List.getElem_cons_zero])
              go_simp
              try with_reducible rfl
            (try simp only [Act.put]); (try simp only [List.getElem_toArray]); (try simp only [List.getElem_cons_succ]); (try simp only [List.getElem_cons_zero]); (try simp only [List.setIfInBounds_toArray]); (try simp only [List.set_cons_succ]); (try simp only [List.set_cons_zero])
            refine wpAnyH_take (i := 7) (v := ?_) rfl (by kernel_rfl) (by kernel_rfl) (by kernel_rfl) (fun _ _ _ h => h) (Or.inl ⟨by kernel_rfl, ?_⟩) hHeld ?_
            rotate_left
            · intro w' hSw
              (try dsimp only at hSw)
              (try simp only [List.getElem_toArray]); (try simp only [List.getElem_cons_succ]); (try simp only [List.getElem_cons_zero])
              go_simp
              try with_reducible rfl
            (try simp only [Act.put]); (try simp only [List.getElem_toArray]); (try simp only [List.getElem_cons_succ]); (try simp only [List.getElem_cons_zero]); (try simp only [List.setIfInBounds_toArray]); (try simp only [List.set_cons_succ]); (try simp only [List.set_cons_zero])
            refine wpAnyH_take (i := 8) (v := ?_) rfl (by kernel_rfl) (by kernel_rfl) (by kernel_rfl) (fun _ _ _ h => h) (Or.inl ⟨by kernel_rfl, ?_⟩) hHeld ?_
            rotate_left
            · intro w' hSw
              (try dsimp only at hSw)
              (try simp only [List.getElem_toArray]); (try simp only [List.getElem_cons_succ]); (try simp only [List.getElem_cons_zero])
              go_simp
              try with_reducible rfl
            (try simp only [Act.put]); (try simp only [List.getElem_toArray]); (try simp only [List.getElem_cons_succ]); (try simp only [List.getElem_cons_zero]); (try simp only [List.setIfInBounds_toArray]); (try simp only [List.set_cons_succ]); (try simp only [List.set_cons_zero])
            refine wpAnyH_take (i := 9) (v := ?_) rfl (by kernel_rfl) (by kernel_rfl) (by kernel_rfl) (fun _ _ _ h => h) (Or.inl ⟨by kernel_rfl, ?_⟩) hHeld ?_
            rotate_left
            · intro w' hSw
              (try dsimp only at hSw)
              (try simp only [List.getElem_toArray]); (try simp only [List.getElem_cons_succ]); (try simp only [List.getElem_cons_zero])
              go_simp
              try with_reducible rfl
            (try simp only [Act.put]); (try simp only [List.getElem_toArray]); (try simp only [List.getElem_cons_succ]); (try simp only [List.getElem_cons_zero]); (try simp only [List.setIfInBounds_toArray]); (try simp only [List.set_cons_succ]); (try simp only [List.set_cons_zero])
            refine wpAnyH_take (i := 10) (v := ?_) rfl (by kernel_rfl) (by kernel_rfl) (by kernel_rfl) (fun _ _ _ h => h) (Or.inl ⟨by kernel_rfl, ?_⟩) hHeld ?_
            rotate_left
            · intro w' hSw
              (try dsimp only at hSw)
              (try simp only [List.getElem_toArray]); (try simp only [List.getElem_cons_succ]); (try simp only [List.getElem_cons_zero])
              go_simp
              try with_reducible rfl
            (try simp only [Act.put]); (try simp only [List.getElem_toArray]); (try simp only [List.getElem_cons_succ]); (try simp only [List.getElem_cons_zero]); (try simp only [List.setIfInBounds_toArray]); (try simp only [List.set_cons_succ]); (try simp only [List.set_cons_zero])
            refine wpAnyH_take (i := 11) (v := ?_) rfl (by kernel_rfl) (by kernel_rfl) (by kernel_rfl) (fun _ _ _ h => h) (Or.inl ⟨by kernel_rfl, ?_⟩) hHeld ?_
            rotate_left
            · intro w' hSw
              (try dsimp only at hSw)
              (try simp only [List.getElem_toArray]); (try simp only [List.getElem_cons_succ]); (try simp only [List.getElem_cons_zero])
              go_simp
              try with_reducible rfl
            (try simp only [Act.put]); (try simp only [List.getElem_toArray]); (try simp only [List.getElem_cons_succ]); (try simp only [List.getElem_cons_zero]); (try simp only [List.setIfInBounds_toArray]); (try simp only [List.set_cons_succ]); (try simp only [List.set_cons_zero])
            refine wpAnyH_take (i := 12) (v := ?_) rfl (by kernel_rfl) (by kernel_rfl) (by kernel_rfl) (fun _ _ _ h => h) (Or.inl ⟨by kernel_rfl, ?_⟩) hHeld ?_
            rotate_left
            · intro w' hSw
              (try dsimp only at hSw)
              (try simp only [List.getElem_toArray]); (try simp only [List.getElem_cons_succ]); (try simp only [List.getElem_cons_zero])
              go_simp
              try with_reducible rfl
            (try simp only [Act.put]); (try simp only [List.getElem_toArray]); (try simp only [List.getElem_cons_succ]); (try simp only [List.getElem_cons_zero]); (try simp only [List.setIfInBounds_toArray]); (try simp only [List.set_cons_succ]); (try simp only [List.set_cons_zero])
            refine wpAnyH_ready (rs := [13]) (by kernel_rfl) (by simp) ?_
            refine AllReadyH.cons rfl (fun K hK => ?_) AllReadyH.nil
            go_simp
            obtain ⟨rowI, kA, hgI, -⟩ := kk_alloc kd #[.int .i64 0, .int .i64 0, .string { data := #[] }, .slice none 0 0, .bool false, .int .i64 0, .bool false] 37
            refine hK.out _ _ ((HS.out _ kA)) (fun hHeld => ?_)
            clear hK K
            (try simp only [Act.put]); (try simp only [List.getElem_toArray]); (try simp only [List.getElem_cons_succ]); (try simp only [List.getElem_cons_zero]); (try simp only [List.setIfInBounds_toArray]); (try simp only [List.set_cons_succ]); (try simp only [List.set_cons_zero])
            refine wpAnyH_ready (rs := [14]) (by kernel_rfl) (by simp) ?_
            refine AllReadyH.cons rfl (fun K hK => ?_) AllReadyH.nil
            have hst2 := store_run (P := Try.prog) (cs := [.int .i64 x.fID, .int .i64 x.fTable, .string (strB x.fName), .slice aY x.fColumns.length cY, .bool x.fUnique, .int .i64 x.fState, .bool x.fBad]) S_Index rowI rfl rfl rfl
            (try simp only [List.getElem_toArray]); (try simp only [List.getElem_cons_succ]); (try simp only [List.getElem_cons_zero])
            go_simp
            clear hst2
            replace rowI := rowI.setRow [.int .i64 x.fID, .int .i64 x.fTable, .string (strB x.fName), .slice aY x.fColumns.length cY, .bool x.fUnique, .int .i64 x.fState, .bool x.fBad]
            obtain ⟨kI, -⟩ := kk_set kA hgI ([.int .i64 x.fID, .int .i64 x.fTable, .string (strB x.fName), .slice aY x.fColumns.length cY, .bool x.fUnique, .int .i64 x.fState, .bool x.fBad] : List Value).toArray
            refine hK.out _ _ ((HS.out _ kI)) (fun hHeld => ?_)
            clear hK K
            (try simp only [Act.put]); (try simp only [List.getElem_toArray]); (try simp only [List.getElem_cons_succ]); (try simp only [List.getElem_cons_zero]); (try simp only [List.setIfInBounds_toArray]); (try simp only [List.set_cons_succ]); (try simp only [List.set_cons_zero])
            refine wpAnyH_done (by kernel_rfl) ?_ _
            refine NoPanic.normal ?_
            clear hHeld HS kA kd
            have rowO1 := rowO.keep kI id
            have gI1 := rGIndex_lawful.nix gI kI
            generalize (wd.alloc (.cells #[.int .i64 0, .int .i64 0, .string { data := #[] }, .slice none 0 0, .bool false, .int .i64 0, .bool false] 37)).setRow wd.heap.size #[.int .i64 x.fID, .int .i64 x.fTable, .string (strB x.fName), .slice aY x.fColumns.length cY, .bool x.fUnique, .int .i64 x.fState, .bool x.fBad] = w11 at *
            generalize wd.heap.size = bI2 at *
            have hS12 : ∀ w', Keep (· = wr.heap.size) w11 w' → (w'.cell? ⟨bI2, 0, none⟩ = some (.int .i64 x.fID) ∧ w'.cell? ⟨bI2, 5, none⟩ = some (.int .i64 x.fState) ∧ (wholeSem 37 (.pointer (some ⟨bI2, 0, none⟩))).run Try.prog w' = .ok (.value (.agg #[.int .i64 x.fID, .int .i64 x.fTable, .string (strB x.fName), .slice aY x.fColumns.length cY, .bool x.fUnique, .int .i64 x.fState, .bool x.fBad])) w') := fun w' k' => ⟨(rowI.keep k' (by omega)).cell 0, (rowI.keep k' (by omega)).cell 5, Whole.run S_Index rfl (rowI.keep k' (by omega))⟩
            have HS12 := Lib.hid hS12
            have kd : Keep (· = wr.heap.size) w11 w11.drew := (Keep.refl _ w11).drew
            replace rowO1 := rowO1.same (w' := w11.drew)
            clear hS12
            go_wp2_with fail
            refine wp_region_noPanic ?_
            refine wp_region_held_drew (S := (fun w' => (w'.cell? ⟨bI2, 0, none⟩ = some (.int .i64 x.fID) ∧ w'.cell? ⟨bI2, 5, none⟩ = some (.int .i64 x.fState) ∧ (wholeSem 37 (.pointer (some ⟨bI2, 0, none⟩))).run Try.prog w' = .ok (.value (.agg #[.int .i64 x.fID, .int .i64 x.fTable, .string (strB x.fName), .slice aY x.fColumns.length cY, .bool x.fUnique, .int .i64 x.fState, .bool x.fBad])) w'))) (by kernel_rfl) ((HS12.out _ kd)) (fun hHeld => ?_)
            generalize w11.drew = w12 at kd rowO1 hHeld ⊢
            refine wpAnyH_take (i := 0) (v := ?_) rfl (by kernel_rfl) (by kernel_rfl) (by kernel_rfl) (fun _ _ _ h => h) (Or.inl ⟨by kernel_rfl, ?_⟩) hHeld ?_
            rotate_left
            · intro w' hSw
              (try dsimp only at hSw)
              (try simp only [List.getElem_toArray]); (try simp only [List.getElem_cons_succ]); (try simp only [List.getElem_cons_zero])
              go_simp
              try with_reducible rfl
            (try simp only [Act.put]); (try simp only [List.getElem_toArray]); (try simp only [List.getElem_cons_succ]); (try simp only [List.getElem_cons_zero]); (try simp only [List.setIfInBounds_toArray]); (try simp only [List.set_cons_succ]); (try simp only [List.set_cons_zero])
            refine wpAnyH_take (i := 1) (v := ?_) rfl (by kernel_rfl) (by kernel_rfl) (by kernel_rfl) (fun _ _ _ h => h) (Or.inl ⟨by kernel_rfl, ?_⟩) hHeld ?_
            rotate_left
            · intro w' hSw
              (try dsimp only at hSw)
              (try simp only [List.getElem_toArray]); (try simp only [List.getElem_cons_succ]); (try simp only [List.getElem_cons_zero])
              go_simp
              try with_reducible rfl
            (try simp only [Act.put]); (try simp only [List.getElem_toArray]); (try simp only [List.getElem_cons_succ]); (try simp only [List.getElem_cons_zero]); (try simp only [List.setIfInBounds_toArray]); (try simp only [List.set_cons_succ]); (try simp only [List.set_cons_zero])
            refine wpAnyH_take (i := 2) (v := ?_) rfl (by kernel_rfl) (by kernel_rfl) (by kernel_rfl) (fun _ _ _ h => h) (Or.inl ⟨by kernel_rfl, ?_⟩) hHeld ?_
            rotate_left
            · intro w' hSw
              (try dsimp only at hSw)
              (try simp only [List.getElem_toArray]); (try simp only [List.getElem_cons_succ]); (try simp only [List.getElem_cons_zero])
              go_simp
              try with_reducible rfl
            (try simp only [Act.put]); (try simp only [List.getElem_toArray]); (try simp only [List.getElem_cons_succ]); (try simp only [List.getElem_cons_zero]); (try simp only [List.setIfInBounds_toArray]); (try simp only [List.set_cons_succ]); (try simp only [List.set_cons_zero])
            refine wpAnyH_take (i := 3) (v := ?_) rfl (by kernel_rfl) (by kernel_rfl) (by kernel_rfl) (fun _ _ _ h => h) (Or.inl ⟨by kernel_rfl, ?_⟩) hHeld ?_
            rotate_left
            · intro w' hSw
              (try dsimp only at hSw)
              (try simp only [List.getElem_toArray]); (try simp only [List.getElem_cons_succ]); (try simp only [List.getElem_cons_zero])
              go_simp
              try with_reducible rfl
            (try simp only [Act.put]); (try simp only [List.getElem_toArray]); (try simp only [List.getElem_cons_succ]); (try simp only [List.getElem_cons_zero]); (try simp only [List.setIfInBounds_toArray]); (try simp only [List.set_cons_succ]); (try simp only [List.set_cons_zero])
            refine wpAnyH_take (i := 4) (v := ?_) rfl (by kernel_rfl) (by kernel_rfl) (by kernel_rfl) (fun _ _ _ h => h) (Or.inl ⟨by kernel_rfl, ?_⟩) hHeld ?_
            rotate_left
            · intro w' hSw
              (try dsimp only at hSw)
              (try simp only [List.getElem_toArray]); (try simp only [List.getElem_cons_succ]); (try simp only [List.getElem_cons_zero])
              go_simp
              try with_reducible rfl
            (try simp only [Act.put]); (try simp only [List.getElem_toArray]); (try simp only [List.getElem_cons_succ]); (try simp only [List.getElem_cons_zero]); (try simp only [List.setIfInBounds_toArray]); (try simp only [List.set_cons_succ]); (try simp only [List.set_cons_zero])
            refine wpAnyH_take (i := 6) (v := ?_) rfl (by kernel_rfl) (by kernel_rfl) (by kernel_rfl) (fun _ _ _ h => h) (Or.inl ⟨by kernel_rfl, ?_⟩) hHeld ?_
            rotate_left
            · intro w' hSw
              (try dsimp only at hSw)
              (try simp only [List.getElem_toArray]); (try simp only [List.getElem_cons_succ]); (try simp only [List.getElem_cons_zero])
              go_simp
              try with_reducible rfl
            (try simp only [Act.put]); (try simp only [List.getElem_toArray]); (try simp only [List.getElem_cons_succ]); (try simp only [List.getElem_cons_zero]); (try simp only [List.setIfInBounds_toArray]); (try simp only [List.set_cons_succ]); (try simp only [List.set_cons_zero])
            refine wpAnyH_ready (rs := [5]) (by kernel_rfl) (by simp) ?_
            refine AllReadyH.cons rfl (fun K hK => ?_) AllReadyH.nil
            go_simp
            go_fit (rNext_c x _ _ (rGIndex_lawful.keep gI1 kd (fun b hb e => by have h1 := hb.1; omega)))
            rintro e w9 ⟨rfl, k9⟩
            replace rowO1 := rowO1.keep k9 id
            replace kd := kd.trans k9.nix
            clear k9
            go_wp2_with fail
            refine hK.out _ _ ((HS12.out _ kd)) (fun hHeld => ?_)
            clear hK K
            (try simp only [Act.put]); (try simp only [List.getElem_toArray]); (try simp only [List.getElem_cons_succ]); (try simp only [List.getElem_cons_zero]); (try simp only [List.setIfInBounds_toArray]); (try simp only [List.set_cons_succ]); (try simp only [List.set_cons_zero])
            refine wpAnyH_ready (rs := [7]) (by kernel_rfl) (by simp) ?_
            refine AllReadyH.cons rfl (fun K hK => ?_) AllReadyH.nil
            have x2 := rowO1.cell 0
            have f2 := rowO1.frozen 0
            (try simp only [List.getElem?_cons_succ] at x2); (try simp only [List.getElem?_cons_zero] at x2)
            go_simp
            clear x2 f2
            replace rowO1 := rowO1.set 0 (.int .i64 3)
            (try simp only [List.set_cons_succ] at rowO1); (try simp only [List.set_cons_zero] at rowO1)
            replace kd := kd.setCell (p := ⟨wr.heap.size, 0, none⟩) (fun _ => rfl) (.int .i64 3)
            refine hK.out _ _ ((HS12.out _ kd)) (fun hHeld => ?_)
            clear hK K
            (try simp only [Act.put]); (try simp only [List.getElem_toArray]); (try simp only [List.getElem_cons_succ]); (try simp only [List.getElem_cons_zero]); (try simp only [List.setIfInBounds_toArray]); (try simp only [List.set_cons_succ]); (try simp only [List.set_cons_zero])
            refine wpAnyH_take (i := 8) (v := ?_) rfl (by kernel_rfl) (by kernel_rfl) (by kernel_rfl) (fun _ _ _ h => h) (Or.inl ⟨by kernel_rfl, ?_⟩) hHeld ?_
            rotate_left
            · intro w' hSw
              (try dsimp only at hSw)
              (try simp only [List.getElem_toArray]); (try simp only [List.getElem_cons_succ]); (try simp only [List.getElem_cons_zero])
              go_simp
              try with_reducible rfl
            (try simp only [Act.put]); (try simp only [List.getElem_toArray]); (try simp only [List.getElem_cons_succ]); (try simp only [List.getElem_cons_zero]); (try simp only [List.setIfInBounds_toArray]); (try simp only [List.set_cons_succ]); (try simp only [List.set_cons_zero])
            refine wpAnyH_ready (rs := [9]) (by kernel_rfl) (by simp) ?_
            refine AllReadyH.cons rfl (fun K hK => ?_) AllReadyH.nil
            have x2 := rowO1.cell 13
            have f2 := rowO1.frozen 13
            (try simp only [List.getElem?_cons_succ] at x2); (try simp only [List.getElem?_cons_zero] at x2)
            go_simp
            clear x2 f2
            replace rowO1 := rowO1.set 13 (.int .i64 x.fID)
            (try simp only [List.set_cons_succ] at rowO1); (try simp only [List.set_cons_zero] at rowO1)
            replace kd := kd.setCell (p := ⟨wr.heap.size, 13, none⟩) (fun _ => rfl) (.int .i64 x.fID)
            refine hK.out _ _ ((HS12.out _ kd)) (fun hHeld => ?_)
            clear hK K
            (try simp only [Act.put]); (try simp only [List.getElem_toArray]); (try simp only [List.getElem_cons_succ]); (try simp only [List.getElem_cons_zero]); (try simp only [List.setIfInBounds_toArray]); (try simp only [List.set_cons_succ]); (try simp only [List.set_cons_zero])
            refine wpAnyH_take (i := 10) (v := ?_) rfl (by kernel_rfl) (by kernel_rfl) (by kernel_rfl) (fun _ _ _ h => h) (Or.inl ⟨by kernel_rfl, ?_⟩) hHeld ?_
            rotate_left
            · intro w' hSw
              (try dsimp only at hSw)
              (try simp only [List.getElem_toArray]); (try simp only [List.getElem_cons_succ]); (try simp only [List.getElem_cons_zero])
              go_simp
              try with_reducible rfl
            (try simp only [Act.put]); (try simp only [List.getElem_toArray]); (try simp only [List.getElem_cons_succ]); (try simp only [List.getElem_cons_zero]); (try simp only [List.setIfInBounds_toArray]); (try simp only [List.set_cons_succ]); (try simp only [List.set_cons_zero])
            refine wpAnyH_ready (rs := [11]) (by kernel_rfl) (by simp) ?_
            refine AllReadyH.cons rfl (fun K hK => ?_) AllReadyH.nil
            have x2 := rowO1.cell 14
            have f2 := rowO1.frozen 14
            (try simp only [List.getElem?_cons_succ] at x2); (try simp only [List.getElem?_cons_zero] at x2)
            go_simp
            clear x2 f2
            replace rowO1 := rowO1.set 14 (.int .i64 x.fState)
            (try simp only [List.set_cons_succ] at rowO1); (try simp only [List.set_cons_zero] at rowO1)
            replace kd := kd.setCell (p := ⟨wr.heap.size, 14, none⟩) (fun _ => rfl) (.int .i64 x.fState)
            refine hK.out _ _ ((HS12.out _ kd)) (fun hHeld => ?_)
            clear hK K
            (try simp only [Act.put]); (try simp only [List.getElem_toArray]); (try simp only [List.getElem_cons_succ]); (try simp only [List.getElem_cons_zero]); (try simp only [List.setIfInBounds_toArray]); (try simp only [List.set_cons_succ]); (try simp only [List.set_cons_zero])
            refine wpAnyH_take (i := 12) (v := ?_) rfl (by kernel_rfl) (by kernel_rfl) (by kernel_rfl) (fun _ _ _ h => h) (Or.inl ⟨by kernel_rfl, ?_⟩) hHeld ?_
            rotate_left
            · intro w' hSw
              (try dsimp only at hSw)
              (try simp only [List.getElem_toArray]); (try simp only [List.getElem_cons_succ]); (try simp only [List.getElem_cons_zero])
              go_simp
              try with_reducible rfl
            (try simp only [Act.put]); (try simp only [List.getElem_toArray]); (try simp only [List.getElem_cons_succ]); (try simp only [List.getElem_cons_zero]); (try simp only [List.setIfInBounds_toArray]); (try simp only [List.set_cons_succ]); (try simp only [List.set_cons_zero])
            refine wpAnyH_ready (rs := [13]) (by kernel_rfl) (by simp) ?_
            refine AllReadyH.cons rfl (fun K hK => ?_) AllReadyH.nil
            have x2 := rowO1.cell 15
            have f2 := rowO1.frozen 15
            (try simp only [List.getElem?_cons_succ] at x2); (try simp only [List.getElem?_cons_zero] at x2)
            go_simp
            clear x2 f2
            replace rowO1 := rowO1.set 15 (.int .i64 (nextF x.fState))
            (try simp only [List.set_cons_succ] at rowO1); (try simp only [List.set_cons_zero] at rowO1)
            replace kd := kd.setCell (p := ⟨wr.heap.size, 15, none⟩) (fun _ => rfl) (.int .i64 (nextF x.fState))
            refine hK.out _ _ ((HS12.out _ kd)) (fun hHeld => ?_)
            clear hK K
            (try simp only [Act.put]); (try simp only [List.getElem_toArray]); (try simp only [List.getElem_cons_succ]); (try simp only [List.getElem_cons_zero]); (try simp only [List.setIfInBounds_toArray]); (try simp only [List.set_cons_succ]); (try simp only [List.set_cons_zero])
            refine wpAnyH_done (by kernel_rfl) ?_ _
            refine NoPanic.normal ?_
            clear hHeld HS12
            go_wp2_with fail
            go_meet
            case rel => exact ⟨3, x.fID, x.fState, nextF x.fState, rowO1, hy0, hy5, nextF_i64 _, kI.nix.trans kd⟩
        case rest =>
        obtain ⟨kd, oid, frm, tt, rowO2, hid2, hfr2, htt2, kW⟩ := hcut
        clear rowO
        have rowO := rowO2
        replace row0 := row0.keep kW (by omega)
        replace gc := rGCatalog_lawful.keep gc kW (fun b hb e => by have := hb.1; omega)
        replace gT := rGTable_lawful.keep gT kW (fun b hb e => by have hb' : b < W.heap.size := hb; omega)
        replace gX := rGIndex_lawful.keep gX kW (fun b hb e => by have hb' : b < W.heap.size := hb; omega)
        replace kk := kk.then kW (fun i hi e => by omega)
        have hszw := Lib.hid (Nat.le_trans hszr.out kW.size)
        clear kW rowO2 o0 o3 o4 o8
        have ld0 := Whole.run (P := Try.prog) S_Catalog rfl row0
        go_wp2_with fail
        clear ld0
        go_fit (Copy_o ci _ _ gc (right_small hR.out))
        rintro e w2 ⟨csn, rfl, hOwn, k2⟩
        obtain ⟨-, hcv, hcn, nT, nX⟩ := cat_facts gc
        have hO1 := rowO.lt
        (try replace row0 := row0.keep k2 id)
        (try replace rowO := rowO.keep k2 id)
        (try replace rowI := rowI.keep k2 id)
        (try replace rowN := rowN.keep k2 id)
        (try replace rowM := rowM.keep k2 id)
        (try replace gc := rGCatalog_lawful.nix gc k2)
        (try replace gT := rGTable_lawful.nix gT k2)
        (try replace gX := rGIndex_lawful.nix gX k2)
        (try replace gi := rGCatalog_lawful.nix gi k2)
        (try replace gn := rGCatalog_lawful.nix gn k2)
        (try replace gm := rGCatalog_lawful.nix gm k2)
        replace kk := kk.trans k2
        have gi := hOwn.read hcv hcn nT nX
        replace gi := rGCatalog_lawful.mono gi (q := fun b => b < w2.heap.size ∧ wr.heap.size < b) (fun b hb => ⟨hb.2, by have h1 := hb.1; omega⟩)
        clear hOwn k2
        obtain ⟨hst, rowI, kV⟩ := boxed (P := Try.prog) (zs := [.int .i64 0, .int .i64 0, .slice none 0 0, .slice none 0 0]) S_Catalog w2 rfl (rGCatalog_lawful.len gi) (rGCatalog_ones gi)
        (try replace row0 := row0.keep kV id)
        (try replace rowO := rowO.keep kV id)
        (try replace rowI := rowI.keep kV id)
        (try replace rowN := rowN.keep kV id)
        (try replace rowM := rowM.keep kV id)
        (try replace gc := rGCatalog_lawful.nix gc kV)
        (try replace gT := rGTable_lawful.nix gT kV)
        (try replace gX := rGIndex_lawful.nix gX kV)
        (try replace gi := rGCatalog_lawful.nix gi kV)
        (try replace gn := rGCatalog_lawful.nix gn kV)
        (try replace gm := rGCatalog_lawful.nix gm kV)
        replace kk := kk.trans kV
        clear kV
        go_upto_region 14 with fail
        clear hst
        generalize (w2.alloc (.cells #[.int .i64 0, .int .i64 0, .slice none 0 0, .slice none 0 0] 25)).setRow w2.heap.size csn.toArray = w4 at *
        go_upto_region 16 with fail
        have hI1 : w2.heap.size < w4.heap.size := rowI.lt
        have hI2 : g2 < w4.heap.size := row0.lt
        have hI3 : wr.heap.size < w4.heap.size := rowO.lt
        obtain ⟨rowN, kN, -, -⟩ := kk_alloc (Keep.refl Nix w4) #[.int .i64 0, .int .i64 0, .slice none 0 0, .slice none 0 0] 25
        obtain ⟨rowM, kM, -, -⟩ := kk_alloc kN #[.int .i64 0, .int .i64 0, .slice none 0 0, .slice none 0 0] 25
        rw [show (w4.alloc (.cells #[.int .i64 0, .int .i64 0, .slice none 0 0, .slice none 0 0] 25)).heap.size = w4.heap.size + 1 by simp] at rowM
        replace rowN := rowN.keep ((Keep.refl Nix _).alloc (.cells #[.int .i64 0, .int .i64 0, .slice none 0 0, .slice none 0 0] 25)) id
        clear kN
        have hw24 : w2.heap.size ≤ w4.heap.size := by omega
        have hWH := kk.size
        (try replace row0 := row0.keep kM id)
        (try replace rowO := rowO.keep kM id)
        (try replace rowI := rowI.keep kM id)
        (try replace rowN := rowN.keep kM id)
        (try replace rowM := rowM.keep kM id)
        (try replace gc := rGCatalog_lawful.nix gc kM)
        (try replace gT := rGTable_lawful.nix gT kM)
        (try replace gX := rGIndex_lawful.nix gX kM)
        (try replace gi := rGCatalog_lawful.nix gi kM)
        (try replace gn := rGCatalog_lawful.nix gn kM)
        (try replace gm := rGCatalog_lawful.nix gm kM)
        replace kk := kk.trans kM
        clear kM
        generalize (w4.alloc (.cells #[.int .i64 0, .int .i64 0, .slice none 0 0, .slice none 0 0] 25)).alloc (.cells #[.int .i64 0, .int .i64 0, .slice none 0 0, .slice none 0 0] 25) = w5 at *
        generalize w4.heap.size = H at *
        have hM1 := rowM.lt
        generalize w2.heap.size = G8 at *
        have o0 := rowO.cell 0
        (try simp only [List.getElem?_cons_succ] at o0); (try simp only [List.getElem?_cons_zero] at o0)
        go_upto_block 2 with fail
        clear o0
        go_cut [11, 12] from 30 to 198 (fun s11 s12 wx => SWR w5 H ci s11 s12 wx)
        case first =>
          rcases test_eq kd 1 with ⟨q1, -⟩ | ⟨q1, -⟩
          · as_aux_lemma =>
            obtain ⟨y, HY⟩ : ∃ y, Hid (addIndexF ci op.fX op.fName = y) := ⟨_, rfl⟩
            have HRT : Hid (RightP y.1 ∧ y.1.fVersion ≤ ci.fVersion + 1) := by
              rw [← HY.out]
              exact ⟨addIndex_right hR.out _ _, ver_idx _ _ _⟩
            have HC := sAddIndex_c ci _ op.fX _ op.fName w5 (rGCatalog_lawful.mono gi (q := (· < w5.heap.size)) (fun b hb => by have h1 := hb.1; show b < w5.heap.size; omega)) (rGIndex_lawful.mono gX (fun b hb => by have hb' : b < W.heap.size := hb; show b < w5.heap.size; omega)) (right_small hR.out) (by omega) (by omega) (fun b hb => hb)
            rw [HY.out] at HC
            have HC1 := Lib.hid HC
            clear HC
            have ldI := Whole.run (P := Try.prog) S_Catalog (rGCatalog_lawful.len gi) rowI
            have ldX := Whole.mid (P := Try.prog) (pre := [.int .i64 kd, .int .i64 op.fT.fID, .string (strB op.fT.fName), .slice aTC op.fT.fColumns.length cTC, .slice aTK op.fT.fKey.length cTK]) (cs := [.int .i64 op.fX.fID, .int .i64 op.fX.fTable, .string (strB op.fX.fName), .slice aXC op.fX.fColumns.length cXC, .bool op.fX.fUnique, .int .i64 op.fX.fState, .bool op.fX.fBad]) (post := [.string (strB op.fName), .int .i64 oid, .int .i64 frm, .int .i64 tt, .bool op.fBad]) (o := 5) S_Index rowO rfl rfl
            have o12 := rowO.cell 12
            (try simp only [List.getElem?_cons_succ] at o12); (try simp only [List.getElem?_cons_zero] at o12)
            go_wp2_with fail
            clear ldI ldX o12
            go_fit HC1.out
            rintro e w6 ⟨cs6, rfl, gn0, on6, k6⟩
            clear HC1
            have hz6 := k6.size
            have kz : Keep (fun b => b = H ∨ b = H + 1) w5 w6 := k6.nix
            (try replace row0 := row0.keep k6 id)
            (try replace rowO := rowO.keep k6 id)
            (try replace rowI := rowI.keep k6 id)
            (try replace rowN := rowN.keep k6 id)
            (try replace rowM := rowM.keep k6 id)
            (try replace gc := rGCatalog_lawful.nix gc k6)
            (try replace gT := rGTable_lawful.nix gT k6)
            (try replace gX := rGIndex_lawful.nix gX k6)
            (try replace gi := rGCatalog_lawful.nix gi k6)
            (try replace gn := rGCatalog_lawful.nix gn k6)
            (try replace gm := rGCatalog_lawful.nix gm k6)
            replace kk := kk.trans k6
            clear k6
            have gn9 : rGCatalog w6 (fun b => H + 1 < b ∧ b < w6.heap.size) cs6 y.1 := rGCatalog_lawful.mono gn0 (fun b hb => ⟨by have := hb.1; omega, hb.2⟩)
            clear gn0
            have hst := store_run (P := Try.prog) S_Catalog rowN rfl (rGCatalog_lawful.len gn9) on6
            have kG : Keep (· = H) w6 (w6.setRow H cs6.toArray) := (Keep.refl (· = H) w6).setRow (fun _ => rfl) _
            replace row0 := row0.keep kG (by omega)
            replace rowO := rowO.keep kG (by omega)
            replace rowM := rowM.keep kG (by omega)
            replace gc := rGCatalog_lawful.keep gc kG (fun b hb e => by have := hb.1; omega)
            replace gT := rGTable_lawful.keep gT kG (fun b hb e => by have hb' : b < W.heap.size := hb; omega)
            replace gX := rGIndex_lawful.keep gX kG (fun b hb e => by have hb' : b < W.heap.size := hb; omega)
            replace gn9 := rGCatalog_lawful.keep gn9 kG (fun b hb e => by have := hb.1; omega)
            replace rowN := rowN.setRow cs6
            replace kz := kz.then kG (fun i hi e => .inl e)
            have hzG := Lib.hid kG.size
            clear kG kk gi rowI
            have ld0 := Whole.run (P := Try.prog) S_Catalog rfl row0
            have ldX := Whole.mid (P := Try.prog) (pre := [.int .i64 kd, .int .i64 op.fT.fID, .string (strB op.fT.fName), .slice aTC op.fT.fColumns.length cTC, .slice aTK op.fT.fKey.length cTK]) (cs := [.int .i64 op.fX.fID, .int .i64 op.fX.fTable, .string (strB op.fX.fName), .slice aXC op.fX.fColumns.length cXC, .bool op.fX.fUnique, .int .i64 op.fX.fState, .bool op.fX.fBad]) (post := [.string (strB op.fName), .int .i64 oid, .int .i64 frm, .int .i64 tt, .bool op.fBad]) (o := 5) S_Index rowO rfl rfl
            have o12 := rowO.cell 12
            (try simp only [List.getElem?_cons_succ] at o12); (try simp only [List.getElem?_cons_zero] at o12)
            go_wp2_with fail
            clear ld0 ldX hst o12
            have HC := rAddIndex_c ci _ op.fX _ op.fName _ (rGCatalog_lawful.mono gc (q := (· < H)) (fun b hb => by have h1 := hb.1; show b < H; omega)) (rGIndex_lawful.mono gX (fun b hb => by have hb' : b < W.heap.size := hb; show b < H; omega)) hR.out (right_small hR.out) (by show op.fX.fColumns.length ≤ 1000; omega) (by omega) (fun b hb => by have hb' : b < H := hb; have := hzG.out; omega)
            rw [HY.out] at HC
            have HC1 := Lib.hid HC
            clear HC
            go_fit HC1.out
            rintro e w7 ⟨cs7, rfl, gm0, on7, k7⟩
            clear HC1
            have hz7 := Lib.hid k7.size
            replace kz := kz.trans k7.nix
            replace gn9 := rGCatalog_lawful.nix gn9 k7
            replace rowN := rowN.keep k7 id
            replace rowM := rowM.keep k7 id
            clear k7
            have hst := store_run (P := Try.prog) S_Catalog rowM rfl (rGCatalog_lawful.len gm0) on7
            have kG : Keep (· = H + 1) w7 (w7.setRow (H + 1) cs7.toArray) := (Keep.refl (· = H + 1) w7).setRow (fun _ => rfl) _
            replace rowN := rowN.keep kG (by omega)
            replace gn9 := rGCatalog_lawful.keep gn9 kG (fun b hb e => by have := hb.1; omega)
            replace rowM := rowM.setRow cs7
            replace kz := kz.then kG (fun i hi e => .inr e)
            have hz8 := Lib.hid kG.size
            have gm9 := Lib.hid (rGCatalog_lawful.keep (rGCatalog_lawful.mono gm0 (q := fun b => b < w7.heap.size ∧ b ≠ H ∧ b ≠ H + 1) (fun b hb => ⟨hb.1, fun e => by have := hb.2 (by have := hzG.out; omega); omega, fun e => by have := hb.2 (by have := hzG.out; omega); omega⟩)) kG (fun b hb e => hb.2.2 e))
            clear kG gm0
            go_wp2_with fail
            clear hst
            go_meet
            case rel => exact ⟨y.1, y.2, cs6, cs7, rfl, rfl, rowN, rowM, rGCatalog_lawful.mono gn9 (fun b hb => ⟨by have := hz7.out; have := hzG.out; have := hz8.out; omega, by have := hb.1; omega, by have := hb.1; omega⟩), rGCatalog_lawful.mono gm9.out (fun b hb => ⟨Nat.lt_of_lt_of_le hb.1 hz8.out, hb.2⟩), HRT.out.1, HRT.out.2, kz⟩
          rcases test_eq kd 2 with ⟨q2, -⟩ | ⟨q2, -⟩
          · as_aux_lemma =>
            obtain ⟨y, HY⟩ : ∃ y, Hid (dropF ci op.fName = y) := ⟨_, rfl⟩
            have HRT : Hid (RightP y.1 ∧ y.1.fVersion ≤ ci.fVersion + 1) := by
              rw [← HY.out]
              exact ⟨drop_right hR.out _, ver_drop _ _⟩
            have HC := sDrop_c ci _ op.fName w5 (rGCatalog_lawful.mono gi (q := (· < w5.heap.size)) (fun b hb => by have h1 := hb.1; show b < w5.heap.size; omega)) (right_small hR.out) (by omega)
            rw [HY.out] at HC
            have HC1 := Lib.hid HC
            clear HC
            have ldI := Whole.run (P := Try.prog) S_Catalog (rGCatalog_lawful.len gi) rowI
            have ldX := True.intro
            have o12 := rowO.cell 12
            (try simp only [List.getElem?_cons_succ] at o12); (try simp only [List.getElem?_cons_zero] at o12)
            go_wp2_with fail
            clear ldI ldX o12
            go_fit HC1.out
            rintro e w6 ⟨cs6, rfl, gn0, on6, k6⟩
            clear HC1
            have hz6 := k6.size
            have kz : Keep (fun b => b = H ∨ b = H + 1) w5 w6 := k6.nix
            (try replace row0 := row0.keep k6 id)
            (try replace rowO := rowO.keep k6 id)
            (try replace rowI := rowI.keep k6 id)
            (try replace rowN := rowN.keep k6 id)
            (try replace rowM := rowM.keep k6 id)
            (try replace gc := rGCatalog_lawful.nix gc k6)
            (try replace gT := rGTable_lawful.nix gT k6)
            (try replace gX := rGIndex_lawful.nix gX k6)
            (try replace gi := rGCatalog_lawful.nix gi k6)
            (try replace gn := rGCatalog_lawful.nix gn k6)
            (try replace gm := rGCatalog_lawful.nix gm k6)
            replace kk := kk.trans k6
            clear k6
            have gn9 : rGCatalog w6 (fun b => H + 1 < b ∧ b < w6.heap.size) cs6 y.1 := rGCatalog_lawful.mono gn0 (fun b hb => ⟨by have := hb.1; omega, hb.2⟩)
            clear gn0
            have hst := store_run (P := Try.prog) S_Catalog rowN rfl (rGCatalog_lawful.len gn9) on6
            have kG : Keep (· = H) w6 (w6.setRow H cs6.toArray) := (Keep.refl (· = H) w6).setRow (fun _ => rfl) _
            replace row0 := row0.keep kG (by omega)
            replace rowO := rowO.keep kG (by omega)
            replace rowM := rowM.keep kG (by omega)
            replace gc := rGCatalog_lawful.keep gc kG (fun b hb e => by have := hb.1; omega)
            replace gT := rGTable_lawful.keep gT kG (fun b hb e => by have hb' : b < W.heap.size := hb; omega)
            replace gX := rGIndex_lawful.keep gX kG (fun b hb e => by have hb' : b < W.heap.size := hb; omega)
            replace gn9 := rGCatalog_lawful.keep gn9 kG (fun b hb e => by have := hb.1; omega)
            replace rowN := rowN.setRow cs6
            replace kz := kz.then kG (fun i hi e => .inl e)
            have hzG := Lib.hid kG.size
            clear kG kk gi rowI
            have ld0 := Whole.run (P := Try.prog) S_Catalog rfl row0
            have ldX := True.intro
            have o12 := rowO.cell 12
            (try simp only [List.getElem?_cons_succ] at o12); (try simp only [List.getElem?_cons_zero] at o12)
            go_wp2_with fail
            clear ld0 ldX hst o12
            have HC := rDrop_c ci _ op.fName _ (rGCatalog_lawful.mono gc (q := (· < H)) (fun b hb => by have h1 := hb.1; show b < H; omega)) hR.out (right_small hR.out) (by omega) (fun b hb => by have hb' : b < H := hb; have := hzG.out; omega)
            rw [HY.out] at HC
            have HC1 := Lib.hid HC
            clear HC
            go_fit HC1.out
            rintro e w7 ⟨cs7, rfl, gm0, on7, k7⟩
            clear HC1
            have hz7 := Lib.hid k7.size
            replace kz := kz.trans k7.nix
            replace gn9 := rGCatalog_lawful.nix gn9 k7
            replace rowN := rowN.keep k7 id
            replace rowM := rowM.keep k7 id
            clear k7
            have hst := store_run (P := Try.prog) S_Catalog rowM rfl (rGCatalog_lawful.len gm0) on7
            have kG : Keep (· = H + 1) w7 (w7.setRow (H + 1) cs7.toArray) := (Keep.refl (· = H + 1) w7).setRow (fun _ => rfl) _
            replace rowN := rowN.keep kG (by omega)
            replace gn9 := rGCatalog_lawful.keep gn9 kG (fun b hb e => by have := hb.1; omega)
            replace rowM := rowM.setRow cs7
            replace kz := kz.then kG (fun i hi e => .inr e)
            have hz8 := Lib.hid kG.size
            have gm9 := Lib.hid (rGCatalog_lawful.keep (rGCatalog_lawful.mono gm0 (q := fun b => b < w7.heap.size ∧ b ≠ H ∧ b ≠ H + 1) (fun b hb => ⟨hb.1, fun e => by have := hb.2 (by have := hzG.out; omega); omega, fun e => by have := hb.2 (by have := hzG.out; omega); omega⟩)) kG (fun b hb e => hb.2.2 e))
            clear kG gm0
            go_wp2_with fail
            clear hst
            go_meet
            case rel => exact ⟨y.1, y.2, cs6, cs7, rfl, rfl, rowN, rowM, rGCatalog_lawful.mono gn9 (fun b hb => ⟨by have := hz7.out; have := hzG.out; have := hz8.out; omega, by have := hb.1; omega, by have := hb.1; omega⟩), rGCatalog_lawful.mono gm9.out (fun b hb => ⟨Nat.lt_of_lt_of_le hb.1 hz8.out, hb.2⟩), HRT.out.1, HRT.out.2, kz⟩
          rcases test_eq kd 3 with ⟨q3, -⟩ | ⟨q3, -⟩
          · as_aux_lemma =>
            obtain ⟨y, HY⟩ : ∃ y, Hid (stepF ci oid frm tt op.fBad = y) := ⟨_, rfl⟩
            have HRT : Hid (RightP y.1 ∧ y.1.fVersion ≤ ci.fVersion + 1) := by
              rw [← HY.out]
              exact ⟨step_right hR.out _ _ _ _, ver_step _ _ _ _ _⟩
            have HC := sStep_c ci _ oid frm tt op.fBad w5 (rGCatalog_lawful.mono gi (q := (· < w5.heap.size)) (fun b hb => by have h1 := hb.1; show b < w5.heap.size; omega)) (right_small hR.out) (by omega) htt2
            rw [HY.out] at HC
            have HC1 := Lib.hid HC
            clear HC
            have ldI := Whole.run (P := Try.prog) S_Catalog (rGCatalog_lawful.len gi) rowI
            have ldX := True.intro
            have o13 := rowO.cell 13
            (try simp only [List.getElem?_cons_succ] at o13); (try simp only [List.getElem?_cons_zero] at o13)
            have o14 := rowO.cell 14
            (try simp only [List.getElem?_cons_succ] at o14); (try simp only [List.getElem?_cons_zero] at o14)
            have o15 := rowO.cell 15
            (try simp only [List.getElem?_cons_succ] at o15); (try simp only [List.getElem?_cons_zero] at o15)
            have o16 := rowO.cell 16
            (try simp only [List.getElem?_cons_succ] at o16); (try simp only [List.getElem?_cons_zero] at o16)
            go_wp2_with fail
            clear ldI ldX o13 o14 o15 o16
            go_fit HC1.out
            rintro e w6 ⟨cs6, rfl, gn0, on6, k6⟩
            clear HC1
            have hz6 := k6.size
            have kz : Keep (fun b => b = H ∨ b = H + 1) w5 w6 := k6.nix
            (try replace row0 := row0.keep k6 id)
            (try replace rowO := rowO.keep k6 id)
            (try replace rowI := rowI.keep k6 id)
            (try replace rowN := rowN.keep k6 id)
            (try replace rowM := rowM.keep k6 id)
            (try replace gc := rGCatalog_lawful.nix gc k6)
            (try replace gT := rGTable_lawful.nix gT k6)
            (try replace gX := rGIndex_lawful.nix gX k6)
            (try replace gi := rGCatalog_lawful.nix gi k6)
            (try replace gn := rGCatalog_lawful.nix gn k6)
            (try replace gm := rGCatalog_lawful.nix gm k6)
            replace kk := kk.trans k6
            clear k6
            have gn9 : rGCatalog w6 (fun b => H + 1 < b ∧ b < w6.heap.size) cs6 y.1 := rGCatalog_lawful.mono gn0 (fun b hb => ⟨by have := hb.1; omega, hb.2⟩)
            clear gn0
            have hst := store_run (P := Try.prog) S_Catalog rowN rfl (rGCatalog_lawful.len gn9) on6
            have kG : Keep (· = H) w6 (w6.setRow H cs6.toArray) := (Keep.refl (· = H) w6).setRow (fun _ => rfl) _
            replace row0 := row0.keep kG (by omega)
            replace rowO := rowO.keep kG (by omega)
            replace rowM := rowM.keep kG (by omega)
            replace gc := rGCatalog_lawful.keep gc kG (fun b hb e => by have := hb.1; omega)
            replace gT := rGTable_lawful.keep gT kG (fun b hb e => by have hb' : b < W.heap.size := hb; omega)
            replace gX := rGIndex_lawful.keep gX kG (fun b hb e => by have hb' : b < W.heap.size := hb; omega)
            replace gn9 := rGCatalog_lawful.keep gn9 kG (fun b hb e => by have := hb.1; omega)
            replace rowN := rowN.setRow cs6
            replace kz := kz.then kG (fun i hi e => .inl e)
            have hzG := Lib.hid kG.size
            clear kG kk gi rowI
            have ld0 := Whole.run (P := Try.prog) S_Catalog rfl row0
            have ldX := True.intro
            have o13 := rowO.cell 13
            (try simp only [List.getElem?_cons_succ] at o13); (try simp only [List.getElem?_cons_zero] at o13)
            have o14 := rowO.cell 14
            (try simp only [List.getElem?_cons_succ] at o14); (try simp only [List.getElem?_cons_zero] at o14)
            have o15 := rowO.cell 15
            (try simp only [List.getElem?_cons_succ] at o15); (try simp only [List.getElem?_cons_zero] at o15)
            have o16 := rowO.cell 16
            (try simp only [List.getElem?_cons_succ] at o16); (try simp only [List.getElem?_cons_zero] at o16)
            go_wp2_with fail
            clear ld0 ldX hst o13 o14 o15 o16
            have HC := rStep_c ci _ oid frm tt op.fBad _ (rGCatalog_lawful.mono gc (q := (· < H)) (fun b hb => by have h1 := hb.1; show b < H; omega)) hR.out (right_small hR.out) (by omega) htt2 (fun b hb => by have hb' : b < H := hb; have := hzG.out; omega)
            rw [HY.out] at HC
            have HC1 := Lib.hid HC
            clear HC
            go_fit HC1.out
            rintro e w7 ⟨cs7, rfl, gm0, on7, k7⟩
            clear HC1
            have hz7 := Lib.hid k7.size
            replace kz := kz.trans k7.nix
            replace gn9 := rGCatalog_lawful.nix gn9 k7
            replace rowN := rowN.keep k7 id
            replace rowM := rowM.keep k7 id
            clear k7
            have hst := store_run (P := Try.prog) S_Catalog rowM rfl (rGCatalog_lawful.len gm0) on7
            have kG : Keep (· = H + 1) w7 (w7.setRow (H + 1) cs7.toArray) := (Keep.refl (· = H + 1) w7).setRow (fun _ => rfl) _
            replace rowN := rowN.keep kG (by omega)
            replace gn9 := rGCatalog_lawful.keep gn9 kG (fun b hb e => by have := hb.1; omega)
            replace rowM := rowM.setRow cs7
            replace kz := kz.then kG (fun i hi e => .inr e)
            have hz8 := Lib.hid kG.size
            have gm9 := Lib.hid (rGCatalog_lawful.keep (rGCatalog_lawful.mono gm0 (q := fun b => b < w7.heap.size ∧ b ≠ H ∧ b ≠ H + 1) (fun b hb => ⟨hb.1, fun e => by have := hb.2 (by have := hzG.out; omega); omega, fun e => by have := hb.2 (by have := hzG.out; omega); omega⟩)) kG (fun b hb e => hb.2.2 e))
            clear kG gm0
            go_wp2_with fail
            clear hst
            go_meet
            case rel => exact ⟨y.1, y.2, cs6, cs7, rfl, rfl, rowN, rowM, rGCatalog_lawful.mono gn9 (fun b hb => ⟨by have := hz7.out; have := hzG.out; have := hz8.out; omega, by have := hb.1; omega, by have := hb.1; omega⟩), rGCatalog_lawful.mono gm9.out (fun b hb => ⟨Nat.lt_of_lt_of_le hb.1 hz8.out, hb.2⟩), HRT.out.1, HRT.out.2, kz⟩
          · as_aux_lemma =>
            obtain ⟨y, HY⟩ : ∃ y, Hid (addTableF ci op.fT = y) := ⟨_, rfl⟩
            have HRT : Hid (RightP y.1 ∧ y.1.fVersion ≤ ci.fVersion + 1) := by
              rw [← HY.out]
              exact ⟨addTable_right hR.out _, ver_tab _ _⟩
            have HC := sAddTable_c ci _ op.fT _ w5 (rGCatalog_lawful.mono gi (q := (· < w5.heap.size)) (fun b hb => by have h1 := hb.1; show b < w5.heap.size; omega)) (rGTable_lawful.mono gT (fun b hb => by have hb' : b < W.heap.size := hb; show b < w5.heap.size; omega)) (right_small hR.out) (by omega) (fun b hb => hb)
            rw [HY.out] at HC
            have HC1 := Lib.hid HC
            clear HC
            have ldI := Whole.run (P := Try.prog) S_Catalog (rGCatalog_lawful.len gi) rowI
            have ldX := Whole.mid (P := Try.prog) (pre := [.int .i64 kd]) (cs := [.int .i64 op.fT.fID, .string (strB op.fT.fName), .slice aTC op.fT.fColumns.length cTC, .slice aTK op.fT.fKey.length cTK]) (post := [.int .i64 op.fX.fID, .int .i64 op.fX.fTable, .string (strB op.fX.fName), .slice aXC op.fX.fColumns.length cXC, .bool op.fX.fUnique, .int .i64 op.fX.fState, .bool op.fX.fBad, .string (strB op.fName), .int .i64 oid, .int .i64 frm, .int .i64 tt, .bool op.fBad]) (o := 1) S_Table rowO rfl rfl
            have o1 := True.intro
            go_wp2_with fail
            clear ldI ldX o1
            go_fit HC1.out
            rintro e w6 ⟨cs6, rfl, gn0, on6, k6⟩
            clear HC1
            have hz6 := k6.size
            have kz : Keep (fun b => b = H ∨ b = H + 1) w5 w6 := k6.nix
            (try replace row0 := row0.keep k6 id)
            (try replace rowO := rowO.keep k6 id)
            (try replace rowI := rowI.keep k6 id)
            (try replace rowN := rowN.keep k6 id)
            (try replace rowM := rowM.keep k6 id)
            (try replace gc := rGCatalog_lawful.nix gc k6)
            (try replace gT := rGTable_lawful.nix gT k6)
            (try replace gX := rGIndex_lawful.nix gX k6)
            (try replace gi := rGCatalog_lawful.nix gi k6)
            (try replace gn := rGCatalog_lawful.nix gn k6)
            (try replace gm := rGCatalog_lawful.nix gm k6)
            replace kk := kk.trans k6
            clear k6
            have gn9 : rGCatalog w6 (fun b => H + 1 < b ∧ b < w6.heap.size) cs6 y.1 := rGCatalog_lawful.mono gn0 (fun b hb => ⟨by have := hb.1; omega, hb.2⟩)
            clear gn0
            have hst := store_run (P := Try.prog) S_Catalog rowN rfl (rGCatalog_lawful.len gn9) on6
            have kG : Keep (· = H) w6 (w6.setRow H cs6.toArray) := (Keep.refl (· = H) w6).setRow (fun _ => rfl) _
            replace row0 := row0.keep kG (by omega)
            replace rowO := rowO.keep kG (by omega)
            replace rowM := rowM.keep kG (by omega)
            replace gc := rGCatalog_lawful.keep gc kG (fun b hb e => by have := hb.1; omega)
            replace gT := rGTable_lawful.keep gT kG (fun b hb e => by have hb' : b < W.heap.size := hb; omega)
            replace gX := rGIndex_lawful.keep gX kG (fun b hb e => by have hb' : b < W.heap.size := hb; omega)
            replace gn9 := rGCatalog_lawful.keep gn9 kG (fun b hb e => by have := hb.1; omega)
            replace rowN := rowN.setRow cs6
            replace kz := kz.then kG (fun i hi e => .inl e)
            have hzG := Lib.hid kG.size
            clear kG kk gi rowI
            have ld0 := Whole.run (P := Try.prog) S_Catalog rfl row0
            have ldX := Whole.mid (P := Try.prog) (pre := [.int .i64 kd]) (cs := [.int .i64 op.fT.fID, .string (strB op.fT.fName), .slice aTC op.fT.fColumns.length cTC, .slice aTK op.fT.fKey.length cTK]) (post := [.int .i64 op.fX.fID, .int .i64 op.fX.fTable, .string (strB op.fX.fName), .slice aXC op.fX.fColumns.length cXC, .bool op.fX.fUnique, .int .i64 op.fX.fState, .bool op.fX.fBad, .string (strB op.fName), .int .i64 oid, .int .i64 frm, .int .i64 tt, .bool op.fBad]) (o := 1) S_Table rowO rfl rfl
            have o1 := True.intro
            go_wp2_with fail
            clear ld0 ldX hst o1
            have HC := rAddTable_c ci _ op.fT _ _ (rGCatalog_lawful.mono gc (q := (· < H)) (fun b hb => by have h1 := hb.1; show b < H; omega)) (rGTable_lawful.mono gT (fun b hb => by have hb' : b < W.heap.size := hb; show b < H; omega)) (right_small hR.out) (by omega) (fun b hb => by have hb' : b < H := hb; have := hzG.out; omega)
            rw [HY.out] at HC
            have HC1 := Lib.hid HC
            clear HC
            go_fit HC1.out
            rintro e w7 ⟨cs7, rfl, gm0, on7, k7⟩
            clear HC1
            have hz7 := Lib.hid k7.size
            replace kz := kz.trans k7.nix
            replace gn9 := rGCatalog_lawful.nix gn9 k7
            replace rowN := rowN.keep k7 id
            replace rowM := rowM.keep k7 id
            clear k7
            have hst := store_run (P := Try.prog) S_Catalog rowM rfl (rGCatalog_lawful.len gm0) on7
            have kG : Keep (· = H + 1) w7 (w7.setRow (H + 1) cs7.toArray) := (Keep.refl (· = H + 1) w7).setRow (fun _ => rfl) _
            replace rowN := rowN.keep kG (by omega)
            replace gn9 := rGCatalog_lawful.keep gn9 kG (fun b hb e => by have := hb.1; omega)
            replace rowM := rowM.setRow cs7
            replace kz := kz.then kG (fun i hi e => .inr e)
            have hz8 := Lib.hid kG.size
            have gm9 := Lib.hid (rGCatalog_lawful.keep (rGCatalog_lawful.mono gm0 (q := fun b => b < w7.heap.size ∧ b ≠ H ∧ b ≠ H + 1) (fun b hb => ⟨hb.1, fun e => by have := hb.2 (by have := hzG.out; omega); omega, fun e => by have := hb.2 (by have := hzG.out; omega); omega⟩)) kG (fun b hb e => hb.2.2 e))
            clear kG gm0
            go_wp2_with fail
            clear hst
            go_meet
            case rel => exact ⟨y.1, y.2, cs6, cs7, rfl, rfl, rowN, rowM, rGCatalog_lawful.mono gn9 (fun b hb => ⟨by have := hz7.out; have := hzG.out; have := hz8.out; omega, by have := hb.1; omega, by have := hb.1; omega⟩), rGCatalog_lawful.mono gm9.out (fun b hb => ⟨Nat.lt_of_lt_of_le hb.1 hz8.out, hb.2⟩), HRT.out.1, HRT.out.2, kz⟩
        case rest =>
        obtain ⟨d, ec, csn, csm, rfl, rfl, rowN2, rowM2, gn, gm, hRd, hvd, kS⟩ := hcut
        clear rowN rowM
        have rowN := rowN2
        have rowM := rowM2
        clear rowN2 rowM2
        replace row0 := row0.keep kS (by omega)
        replace rowO := rowO.keep kS (by omega)
        replace rowI := rowI.keep kS (by omega)
        replace gc := rGCatalog_lawful.keep gc kS (fun b hb e => by have := hb.1; omega)
        replace gi := rGCatalog_lawful.keep gi kS (fun b hb e => by have := hb.1; omega)
        replace kk := kk.then kS (fun i hi e => by omega)
        clear gT gX kS
        have hRB : Hid (rightB d = true) := rightB_iff.2 hRd
        replace hRd := Lib.hid hRd
        as_aux_lemma =>
          have ldN := Whole.run (P := Try.prog) S_Catalog (rGCatalog_lawful.len gn) rowN
          have ldM := Whole.run (P := Try.prog) S_Catalog (rGCatalog_lawful.len gm) rowM
          go_wp2_with fail
          clear ldN ldM
          go_fit (cmp_sCatalog_c _ d csn csm gn gm)
          rintro e w8 ⟨rfl, k8⟩
          (try replace row0 := row0.keep k8 id)
          (try replace rowO := rowO.keep k8 id)
          (try replace rowI := rowI.keep k8 id)
          (try replace rowN := rowN.keep k8 id)
          (try replace rowM := rowM.keep k8 id)
          (try replace gc := rGCatalog_lawful.nix gc k8)
          (try replace gT := rGTable_lawful.nix gT k8)
          (try replace gX := rGIndex_lawful.nix gX k8)
          (try replace gi := rGCatalog_lawful.nix gi k8)
          (try replace gn := rGCatalog_lawful.nix gn k8)
          (try replace gm := rGCatalog_lawful.nix gm k8)
          replace kk := kk.trans k8
          have k8z := Lib.hid k8.size
          clear k8
          have ldI := Whole.run (P := Try.prog) S_Catalog (rGCatalog_lawful.len gi) rowI
          have ld0 := Whole.run (P := Try.prog) S_Catalog rfl row0
          go_wp2_with fail
          clear ldI ld0
          go_fit (cmp_sCatalog_c _ ci _ _ gi gc)
          rintro e w9 ⟨rfl, k9⟩
          (try replace row0 := row0.keep k9 id)
          (try replace rowO := rowO.keep k9 id)
          (try replace rowI := rowI.keep k9 id)
          (try replace rowN := rowN.keep k9 id)
          (try replace rowM := rowM.keep k9 id)
          (try replace gc := rGCatalog_lawful.nix gc k9)
          (try replace gT := rGTable_lawful.nix gT k9)
          (try replace gX := rGIndex_lawful.nix gX k9)
          (try replace gi := rGCatalog_lawful.nix gi k9)
          (try replace gn := rGCatalog_lawful.nix gn k9)
          (try replace gm := rGCatalog_lawful.nix gm k9)
          replace kk := kk.trans k9
          have hsz9 := Lib.hid (Nat.le_trans k8z.out k9.size)
          clear k9
          have ldN := Whole.run (P := Try.prog) S_Catalog (rGCatalog_lawful.len gn) rowN
          have HC := sRight_c d csn _ (rGCatalog_lawful.mono gn (q := (· < w9.heap.size)) (fun b hb => by have h1 := hb.1; have := hsz9.out; omega)) (fun b hb => hb)
          rw [hRB.out] at HC
          have HCC := Lib.hid HC
          clear HC
          go_wp2_with fail
          clear ldN
          go_fit HCC.out
          rintro e w10 ⟨rfl, k10⟩
          (try replace row0 := row0.keep k10 id)
          (try replace rowO := rowO.keep k10 id)
          (try replace rowI := rowI.keep k10 id)
          (try replace rowN := rowN.keep k10 id)
          (try replace rowM := rowM.keep k10 id)
          (try replace gc := rGCatalog_lawful.nix gc k10)
          (try replace gT := rGTable_lawful.nix gT k10)
          (try replace gX := rGIndex_lawful.nix gX k10)
          (try replace gi := rGCatalog_lawful.nix gi k10)
          (try replace gn := rGCatalog_lawful.nix gn k10)
          (try replace gm := rGCatalog_lawful.nix gm k10)
          replace kk := kk.trans k10
          clear k10 HCC
          have ldM := Whole.run (P := Try.prog) S_Catalog (rGCatalog_lawful.len gm) rowM
          go_wp2_with fail
          clear ldM
          go_fit (Copy_o d _ _ gm (right_small hRd.out))
          rintro e w11 ⟨cso, rfl, hOwn, k11⟩
          obtain ⟨-, hdv, hdn, nT2, nX2⟩ := cat_facts gm
          have hg11 := row0.lt
          (try replace row0 := row0.keep k11 id)
          (try replace rowO := rowO.keep k11 id)
          (try replace rowI := rowI.keep k11 id)
          (try replace rowN := rowN.keep k11 id)
          (try replace rowM := rowM.keep k11 id)
          (try replace gc := rGCatalog_lawful.nix gc k11)
          (try replace gT := rGTable_lawful.nix gT k11)
          (try replace gX := rGIndex_lawful.nix gX k11)
          (try replace gi := rGCatalog_lawful.nix gi k11)
          (try replace gn := rGCatalog_lawful.nix gn k11)
          (try replace gm := rGCatalog_lawful.nix gm k11)
          replace kk := kk.trans k11
          have go := hOwn.read hdv hdn nT2 nX2
          clear hOwn k11
          have hst := store_run (P := Try.prog) S_Catalog row0 rfl (rGCatalog_lawful.len go) (rGCatalog_ones go)
          have kG : Keep (· = g2) w11 (w11.setRow g2 cso.toArray) := (Keep.refl (· = g2) w11).setRow (fun _ => rfl) _
          replace go := rGCatalog_lawful.keep go kG (fun b hb e => by have := hb.1; omega)
          replace kk := kk.then kG (fun i hi e => by omega)
          replace row0 := row0.setRow cso
          have hz11 := Lib.hid kG.size
          clear kG
          go_wp2_with fail
          clear hst
          go_roundw
          case rel => exact ⟨k + 1, d, cso, by omega, by omega, by go_num, hRd, by omega, row0, rGCatalog_lawful.mono go (fun b hb => ⟨Nat.lt_of_lt_of_le hb.2 hz11.out, by have := hb.1; omega⟩), kk⟩
          case measure => simp [intOf]; omega
      · have h60' : (60 : Int) ≤ (k : Int) := by omega
        go_wp2_with fail
        exact hQ.out _ _ _ _ _ _ _ _ _ _ _ _ _ _ _ _ _ _ _ _ _ _ _ _ _ _ _ _ _ _ _ _ _ _ _ _ _ _ _ _ _ _ _ _ _ _ _ _ _ _ _ _ _ _ _ _ _ _ _ _ _ _ _ _ _ _ _ _ _ _ _ _ _ _ _ _ _ _ _ _ _ _ _ _ _ _ _ _ _ _ _ _ _ _ _ _ _ _ _ _ _ _ _ _ _ _ _ _ _ _ _ _ _ _ _ _ _ _ _ _ _ _ _ _ _ _ _ _ _ _ _ _ _ _ _ _ _ _ _ _ _ _ _ _ _ _ _ _ _ _ _ _ _ _ _ _ _ _ _ _ _ _ _ _ _ _ _ _ _ _ _ _ _ _ _ _ _ _ _ kk
    · go_wp2_with fail
      exact hQ.out _ _ _ _ _ _ _ _ _ _ _ _ _ _ _ _ _ _ _ _ _ _ _ _ _ _ _ _ _ _ _ _ _ _ _ _ _ _ _ _ _ _ _ _ _ _ _ _ _ _ _ _ _ _ _ _ _ _ _ _ _ _ _ _ _ _ _ _ _ _ _ _ _ _ _ _ _ _ _ _ _ _ _ _ _ _ _ _ _ _ _ _ _ _ _ _ _ _ _ _ _ _ _ _ _ _ _ _ _ _ _ _ _ _ _ _ _ _ _ _ _ _ _ _ _ _ _ _ _ _ _ _ _ _ _ _ _ _ _ _ _ _ _ _ _ _ _ _ _ _ _ _ _ _ _ _ _ _ _ _ _ _ _ _ _ _ _ _ _ _ _ _ _ _ _ _ _ _ _ kk
end
end schemaChanges
end Go.Proofs.Ytfogbbnfedcldaa
