/- SCHEMA: the law SchemaSides, its loop. Printed by mac.py. -/
import Derived.Test.YtfogbbnfedcldaaSchEb
import Derived.Test.YtfogbbnfedcldaaMod
namespace Go.Proofs.Ytfogbbnfedcldaa
open Go.RowKit

theorem idx_colsE {w : World} {p : Nat → Prop} {v0 v1 v2 v4 v5 v6 : Value} {a : Option Addr} {n cap : Nat} {x : GIndex} (h : rGIndex w p [v0, v1, v2, .slice a n cap, v4, v5, v6] x) : rList (rInt .i64) w p [.slice a n cap] x.fColumns := by
  obtain ⟨_, _, e, -, -, -, h3, -, -⟩ := rGIndex_open h
  simp only [List.cons.injEq, Value.slice.injEq, and_true] at e
  obtain ⟨-, -, -, ⟨rfl, rfl, rfl⟩, -, -, -⟩ := e
  exact h3
theorem kk_alloc {w cur : World} (k : Keep Nix w cur) (cs : Array Value) (T : TypeId) : RowIs (cur.alloc (.cells cs T)) cur.heap.size T cs.toList ∧ Keep Nix w (cur.alloc (.cells cs T)) ∧ w.heap.size ≤ cur.heap.size ∧ cur.heap.size ≤ (cur.alloc (.cells cs T)).heap.size := ⟨RowIs.alloc cur cs T, k.alloc _, k.size, by simp⟩
theorem kk_set {w cur : World} {g : Nat} (k : Keep Nix w cur) (hg : w.heap.size ≤ g) (cs : Array Value) : Keep Nix w (cur.setRow g cs) ∧ Keep (· = g) cur (cur.setRow g cs) := ⟨k.setRow (fun h => absurd h (Nat.not_lt.2 hg)) cs, (Keep.refl (· = g) cur).setRow (fun _ => rfl) cs⟩
theorem ver2_tab (c : GCatalog) (t : GTable) : (addTableF c t).1.fVersion = c.fVersion ∨ (addTableF c t).1.fVersion = c.fVersion + 1 := by
  have := addTableF_to c t
  generalize addTableF c t = r at this
  cases this <;> first | exact .inl rfl | exact .inr rfl
theorem ver2_idx (c : GCatalog) (x : GIndex) (tn : List UInt8) : (addIndexF c x tn).1.fVersion = c.fVersion ∨ (addIndexF c x tn).1.fVersion = c.fVersion + 1 := by
  have := addIndexF_to c x tn
  generalize addIndexF c x tn = r at this
  cases this <;> first | exact .inl rfl | exact .inr rfl
theorem ver2_drop (c : GCatalog) (nm : List UInt8) : (dropF c nm).1.fVersion = c.fVersion ∨ (dropF c nm).1.fVersion = c.fVersion + 1 := by
  have := dropF_to c nm
  generalize dropF c nm = r at this
  cases this <;> first | exact .inl rfl | exact .inr rfl
theorem ver2_step (c : GCatalog) (d frm tt : Int) (bad : Bool) : (stepF c d frm tt bad).1.fVersion = c.fVersion ∨ (stepF c d frm tt bad).1.fVersion = c.fVersion + 1 := by
  have := stepF_to c d frm tt bad
  generalize stepF c d frm tt bad = r at this
  cases this <;> first | exact .inl rfl | exact .inr rfl
namespace schemaSides
noncomputable def loopC : Code := ((Try.f8.body.bind loopAt).getD .skip)
def KWR (wo : World) (g6 : Nat) (op : GOp) (aTC : Option Addr) (cTC : Nat) (aTK : Option Addr) (cTK : Nat) (aXC : Option Addr) (cXC : Nat) (wx : World) : Prop := ∃ kd id frm tt : Int, RowIs wx g6 57 [.int .i64 kd, .int .i64 op.fT.fID, .string (strB op.fT.fName), .slice aTC op.fT.fColumns.length cTC, .slice aTK op.fT.fKey.length cTK, .int .i64 op.fX.fID, .int .i64 op.fX.fTable, .string (strB op.fX.fName), .slice aXC op.fX.fColumns.length cXC, .bool op.fX.fUnique, .int .i64 op.fX.fState, .bool op.fX.fBad, .string (strB op.fName), .int .i64 id, .int .i64 frm, .int .i64 tt, .bool op.fBad] ∧ isI64 id ∧ isI64 frm ∧ isI64 tt ∧ Keep (· = g6) wo wx
def SWR (w5 : World) (H g2 : Nat) (ci : GCatalog) (wx : World) : Prop := ∃ (d : GCatalog) (csn : List Value), RowIs wx H 25 csn ∧ rGCatalog wx (fun b => b < wx.heap.size ∧ b ≠ g2 ∧ b ≠ H) csn d ∧ RightP d ∧ (d.fVersion = ci.fVersion ∨ d.fVersion = ci.fVersion + 1) ∧ (∀ id, Sides (stateV ci id) (stateV d id)) ∧ Keep (· = H) w5 wx
section
attribute [local go_sem ↓] ldz_Catalog stz_Catalog ldz_Op stz_Op ldz_Index stz_Index ldz_Table stz_Table cv_up cv_down rm_uint
set_option maxRecDepth 100000 in
set_option maxHeartbeats 64000000 in
theorem LOOP (W w : World) (g2 : Nat) (c : GCatalog) (csc : List Value) (aS : Option Addr) (cS : Nat) (S : List GOp) (x0 x3 x4 x6 x7 x8 x9 x10 x11 x12 x13 x14 x15 x16 x17 x18 x19 x20 x21 x22 x23 x24 x25 x26 x27 x28 x29 x30 x31 x32 x33 x34 x35 x36 x37 x38 x39 x40 x41 x42 x43 x44 x45 x46 x47 x48 x49 x50 x51 x52 x53 x54 x55 x56 x57 x58 x59 x60 x61 x62 x63 x64 x65 x66 x67 x68 x69 x70 x71 x72 x73 x74 x75 x76 x77 x78 x79 x80 x81 x82 x83 x84 x85 x86 x87 x88 x89 x90 x91 x92 x93 x94 x95 x96 x97 x98 x99 x100 x101 x102 x103 x104 x105 x106 x107 x108 x109 x110 x111 x112 x113 x114 x115 x116 x117 x118 x119 x120 x121 x122 x123 x124 x125 x126 x127 x128 x129 x130 x131 x132 x133 x134 x135 x136 x137 x138 x139 x140 x141 x142 x143 x144 x145 x146 x147 x148 x149 x150 x151 x152 x153 x154 x155 x156 x157 x158 x159 x160 x161 x162 x163 x164 x165 x166 x167 x168 x169 x170 x171 x172 x173 x174 x175 x176 x177 x178 x179 x180 x181 x182 x183 x184 x185 x186 x187 x188 x189 x190 x191 x192 x193 x194 x195 x196 x197 x198 x199 x200 x201 x202 x203 x204 x205 x206 x207 x208 x209 x210 x211 x212 x213 x214 x215 x216 x217 x218 x219 x220 x221 x222 x223 x224 x225 x226 x227 x228 x229 x230 x231 x232 : Value) (row0 : RowIs w g2 25 csc) (hg2 : W.heap.size ≤ g2) (gc : rGCatalog w (fun b => b < w.heap.size ∧ b ≠ g2) csc c) (hR : Hid (RightP c)) (hv : c.fVersion ≤ 1099511627776) (kk : Keep Nix W w) (hS : rList rGOp W (· < W.heap.size) [.slice aS S.length cS] S) (hSb : ∀ k (h : k < S.length), S[k].fX.fColumns.length * 8 ≤ 140737488355328)
    (Q : Exit → Act → World → Prop) (hQ : Shut (∀ (u4 u5 u6 u7 u8 u9 u10 u11 u12 u30 u31 u32 u33 u34 u35 u36 u37 u38 u39 u40 u41 u42 u43 u44 u45 u46 u47 u48 u49 u50 u51 u52 u53 u54 u55 u56 u57 u58 u59 u60 u61 u62 u63 u64 u65 u66 u67 u68 u69 u70 u71 u72 u73 u74 u75 u76 u77 u78 u79 u80 u81 u82 u83 u84 u85 u86 u87 u88 u89 u90 u91 u92 u93 u94 u95 u96 u97 u98 u99 u100 u101 u102 u103 u104 u105 u106 u107 u108 u109 u110 u111 u112 u113 u114 u115 u116 u117 u118 u119 u120 u121 u122 u123 u124 u125 u126 u127 u128 u129 u130 u131 u132 u133 u134 u135 u136 u137 u138 u139 u140 u141 u142 u143 u144 u145 u146 u147 u148 u149 u150 u151 u152 u153 u154 u155 u156 u157 u158 u159 u160 u161 u162 u163 u164 u165 u166 u167 u168 u169 u170 u171 u172 u173 u174 u175 u176 u177 u178 u179 u180 u181 u182 u183 u184 u185 u186 u187 u188 u189 u190 u191 u192 u193 u194 u195 u196 u197 u198 u199 u200 u201 u202 u203 u204 u205 u206 u207 u208 u209 u210 u211 u212 u213 u214 u215 u216 u217 u218 u219 u220 u221 u222 u223 u224 u225 u226 u227 u228 u229 u230 u231 u232 : Value) (w' : World), Keep Nix W w' → Q (.exit 0) ⟨#[x0, .slice aS S.length cS, .pointer (some ⟨g2, 0, none⟩), x3, u4, u5, u6, u7, u8, u9, u10, u11, u12, x13, x14, x15, x16, x17, x18, x19, x20, x21, x22, x23, x24, x25, x26, x27, x28, x29, u30, u31, u32, u33, u34, u35, u36, u37, u38, u39, u40, u41, u42, u43, u44, u45, u46, u47, u48, u49, u50, u51, u52, u53, u54, u55, u56, u57, u58, u59, u60, u61, u62, u63, u64, u65, u66, u67, u68, u69, u70, u71, u72, u73, u74, u75, u76, u77, u78, u79, u80, u81, u82, u83, u84, u85, u86, u87, u88, u89, u90, u91, u92, u93, u94, u95, u96, u97, u98, u99, u100, u101, u102, u103, u104, u105, u106, u107, u108, u109, u110, u111, u112, u113, u114, u115, u116, u117, u118, u119, u120, u121, u122, u123, u124, u125, u126, u127, u128, u129, u130, u131, u132, u133, u134, u135, u136, u137, u138, u139, u140, u141, u142, u143, u144, u145, u146, u147, u148, u149, u150, u151, u152, u153, u154, u155, u156, u157, u158, u159, u160, u161, u162, u163, u164, u165, u166, u167, u168, u169, u170, u171, u172, u173, u174, u175, u176, u177, u178, u179, u180, u181, u182, u183, u184, u185, u186, u187, u188, u189, u190, u191, u192, u193, u194, u195, u196, u197, u198, u199, u200, u201, u202, u203, u204, u205, u206, u207, u208, u209, u210, u211, u212, u213, u214, u215, u216, u217, u218, u219, u220, u221, u222, u223, u224, u225, u226, u227, u228, u229, u230, u231, u232], []⟩ w')) :
    loopC.wp Try.prog Q ⟨#[x0, .slice aS S.length cS, .pointer (some ⟨g2, 0, none⟩), x3, x4, .int .i64 0, x6, x7, x8, x9, x10, x11, x12, x13, x14, x15, x16, x17, x18, x19, x20, x21, x22, x23, x24, x25, x26, x27, x28, x29, x30, x31, x32, x33, x34, x35, x36, x37, x38, x39, x40, x41, x42, x43, x44, x45, x46, x47, x48, x49, x50, x51, x52, x53, x54, x55, x56, x57, x58, x59, x60, x61, x62, x63, x64, x65, x66, x67, x68, x69, x70, x71, x72, x73, x74, x75, x76, x77, x78, x79, x80, x81, x82, x83, x84, x85, x86, x87, x88, x89, x90, x91, x92, x93, x94, x95, x96, x97, x98, x99, x100, x101, x102, x103, x104, x105, x106, x107, x108, x109, x110, x111, x112, x113, x114, x115, x116, x117, x118, x119, x120, x121, x122, x123, x124, x125, x126, x127, x128, x129, x130, x131, x132, x133, x134, x135, x136, x137, x138, x139, x140, x141, x142, x143, x144, x145, x146, x147, x148, x149, x150, x151, x152, x153, x154, x155, x156, x157, x158, x159, x160, x161, x162, x163, x164, x165, x166, x167, x168, x169, x170, x171, x172, x173, x174, x175, x176, x177, x178, x179, x180, x181, x182, x183, x184, x185, x186, x187, x188, x189, x190, x191, x192, x193, x194, x195, x196, x197, x198, x199, x200, x201, x202, x203, x204, x205, x206, x207, x208, x209, x210, x211, x212, x213, x214, x215, x216, x217, x218, x219, x220, x221, x222, x223, x224, x225, x226, x227, x228, x229, x230, x231, x232], []⟩ w := by
  conv => arg 2; whnf
  conv => arg 4; dsimp only
  have hn : S.length ≤ 140737488351232 := Nat.le_trans (rList_len hS).2.2 far_len.1
  go_loopw [5] (fun i wr => ∃ (k : Nat) (ci : GCatalog) (csi : List Value), k ≤ S.length ∧ k ≤ 60 ∧ i = .int .i64 k ∧ Hid (RightP ci) ∧ ci.fVersion ≤ 1099511627776 + k ∧ RowIs wr g2 25 csi ∧ rGCatalog wr (fun b => b < wr.heap.size ∧ b ≠ g2) csi ci ∧ Keep Nix W wr) (fun i _ => S.length - (intOf i).toNat)
  case atStart => exact ⟨0, c, csc, by omega, by omega, rfl, hR, by omega, row0, gc, kk⟩
  case round =>
    clear row0 gc kk hR hv
    obtain ⟨k, ci, csi, hk, hk6, rfl, hR, hv, row0, gc, kk⟩ := hrel
    by_cases hlt : k < S.length
    · rcases Nat.lt_or_ge k 60 with h60 | h60
      · have hi0 : (0 : Int) ≤ (k : Int) := by omega
        have hi1 : (k : Int) < (S.length : Int) := by omega
        have h60' : (k : Int) < 60 := by omega
        obtain ⟨b, o, cc, cs, e1, -, hb, r, hcl⟩ := rList_at rGOp_lawful (by decide) ((rList_lawful rGOp_lawful).nix hS kk) k hlt
        simp only [List.cons.injEq, Value.slice.injEq, and_true] at e1
        obtain ⟨rfl, -, -⟩ := e1
        have hxb := Lib.hid (hSb k hlt)
        generalize S[k] = op at r hxb
        have hlo := rGOp_lawful.len r
        have ld := Whole.at (P := Try.prog) S_Op hlo hcl
        unfold Whole at ld
        obtain ⟨hst, rowO, kV⟩ := boxed (P := Try.prog) (zs := [.int .i64 0, .int .i64 0, .string { data := #[] }, .slice none 0 0, .slice none 0 0, .int .i64 0, .int .i64 0, .string { data := #[] }, .slice none 0 0, .bool false, .int .i64 0, .bool false, .string { data := #[] }, .int .i64 0, .int .i64 0, .int .i64 0, .bool false]) S_Op wr rfl hlo (rGOp_ones r)
        have r2 := rGOp_lawful.nix r kV
        obtain ⟨aTC, cTC, aTK, cTK, aXC, cXC, rfl, hkd, gT, gX, hnm, hid, hfr, hto, -⟩ := rGOp_open r2
        clear r r2 hcl
        have hg2l := row0.lt
        have hWr := kk.size
        (try replace row0 := row0.keep kV id)
        (try replace rowO := rowO.keep kV id)
        (try replace rowI := rowI.keep kV id)
        (try replace rowN := rowN.keep kV id)
        (try replace rowM := rowM.keep kV id)
        (try replace gc := rGCatalog_lawful.nix gc kV)
        (try replace gT := rGTable_lawful.nix gT kV)
        (try replace gX := rGIndex_lawful.nix gX kV)
        (try replace gi := rGCatalog_lawful.nix gi kV)
        (try replace gn := rGCatalog_lawful.nix gn kV)
        (try replace gm := rGCatalog_lawful.nix gm kV)
        replace kk := kk.trans kV
        have hszr := Lib.hid kV.size
        have hg2r : g2 < wr.heap.size := hg2l
        clear kV
        have mTC := (rList_len (tab_cols gT)).2.2
        have mTK := (rList_len (tab_key gT)).2.2
        have mXC := (rList_len (idx_colsE gX)).2.2
        have hfar := far_len
        go_upto_region 9 with fail
        clear ld hst
        generalize (wr.alloc (.cells #[.int .i64 0, .int .i64 0, .string { data := #[] }, .slice none 0 0, .slice none 0 0, .int .i64 0, .int .i64 0, .string { data := #[] }, .slice none 0 0, .bool false, .int .i64 0, .bool false, .string { data := #[] }, .int .i64 0, .int .i64 0, .int .i64 0, .bool false] 57)).setRow wr.heap.size #[.int .i64 op.fKind, .int .i64 op.fT.fID, .string (strB op.fT.fName), .slice aTC op.fT.fColumns.length cTC, .slice aTK op.fT.fKey.length cTK, .int .i64 op.fX.fID, .int .i64 op.fX.fTable, .string (strB op.fX.fName), .slice aXC op.fX.fColumns.length cXC, .bool op.fX.fUnique, .int .i64 op.fX.fState, .bool op.fX.fBad, .string (strB op.fName), .int .i64 op.fID, .int .i64 op.fFrom, .int .i64 op.fTo, .bool op.fBad] = wo at *
        obtain ⟨aT, cT, aX, cX, rfl, -⟩ := rGCatalog_open gc
        have o0 := rowO.cell 0
        (try simp only [List.getElem?_cons_succ] at o0); (try simp only [List.getElem?_cons_zero] at o0)
        have x3 := row0.cell 3
        (try simp only [List.getElem?_cons_succ] at x3); (try simp only [List.getElem?_cons_zero] at x3)
        have mX : ci.fIndexes.length ≤ 140737488351232 := by have := hR.out.x10; omega
        obtain ⟨v4, a4, A4⟩ : ∃ v, (op.fKind == 4) = v ∧ Hid (v = true ↔ op.fKind = 4) := ⟨_, rfl, Lib.hid (by simp)⟩
        obtain ⟨vl, al, AL⟩ : ∃ v, decide (0 < ci.fIndexes.length) = v ∧ Hid (v = true ↔ 0 < ci.fIndexes.length) := ⟨_, rfl, Lib.hid (by simp)⟩
        go_upto_region 9 with fail
        go_cut [52] from 30 to 232 (fun s71 wx => s71 = .bool (v4 && vl) ∧ wo = wx)
        case first =>
          as_aux_lemma =>
          cases v4 with
          | false =>
            go_wp2_with fail
            go_meet
            case rel => exact ⟨rfl, rfl⟩
          | true =>
            go_wp2_with fail
            go_meet
            case rel => exact ⟨by first | rfl | (rw [al]; rfl), rfl⟩
        case rest =>
        obtain ⟨rfl, rfl⟩ := hcut
        go_upto_if 52 with fail
        go_cut [7] from 30 to 232 (fun _ wx => KWR wo wr.heap.size op aTC cTC aTK cTK aXC cXC wx)
        case first =>
          as_aux_lemma =>
          obtain ⟨vv, hvv⟩ : ∃ v, Hid ((v4 && vl) = v) := ⟨_, rfl⟩
          rw [hvv.out]
          cases vv with
          | false =>
            go_wp2_with fail
            go_meet
            case rel => exact ⟨op.fKind, op.fID, op.fFrom, op.fTo, rowO, hid, hfr, hto, Keep.refl _ _⟩
          | true =>
            have hlen : 0 < ci.fIndexes.length := AL.out.1 (by have := hvv.out; cases v4 <;> cases vl <;> first | rfl | exact nomatch this)
            obtain ⟨cq, j, hj, f1, f2, f3, f4⟩ := round_facts op.fID ci.fIndexes.length hlen (by unfold maxLen; omega)
            obtain ⟨bI, oI, cI, csI, e1, -, hbI, rI, hcI⟩ := rList_at rGIndex_lawful (by decide) (cat_idx gc) j hj
            simp only [List.cons.injEq, Value.slice.injEq, and_true] at e1
            obtain ⟨rfl, -, -⟩ := e1
            generalize ci.fIndexes[j] = x at rI
            have gI := rI
            obtain ⟨aY, cY, rfl, hy0, -, -, -, hy5, -⟩ := rGIndex_open rI
            have hlI : ([.int .i64 x.fID, .int .i64 x.fTable, .string (strB x.fName), .slice aY x.fColumns.length cY, .bool x.fUnique, .int .i64 x.fState, .bool x.fBad] : List Value).length = 7 := rfl
            have hj0 : (0 : Int) ≤ (j : Int) := by omega
            have hj1 : (j : Int) < (ci.fIndexes.length : Int) := by omega
            have kd : Keep Nix wo wo.drew := (Keep.refl Nix wo).drew
            have hS : ∀ w', Keep Nix wo w' → (w'.cell? ⟨g2, 3, none⟩ = some (.slice (some ⟨bI, oI, none⟩) ci.fIndexes.length cX) ∧ w'.cell? ⟨wr.heap.size, 13, none⟩ = some (.int .i64 op.fID) ∧ (wholeSem 37 (.pointer (some ⟨bI, oI + j * 7, none⟩))).run Try.prog w' = .ok (.value (.agg #[.int .i64 x.fID, .int .i64 x.fTable, .string (strB x.fName), .slice aY x.fColumns.length cY, .bool x.fUnique, .int .i64 x.fState, .bool x.fBad])) w') := fun w' k' => ⟨(row0.keep k' id).cell 3, (rowO.keep k' id).cell 13, Whole.at S_Index hlI (fun q u hu => (k'.cell (p := ⟨bI, oI + j * 7 + q, none⟩) hbI id).trans (hcI q u hu))⟩
            have HS := Lib.hid hS
            clear hS hcI
            have hg6 := rowO.lt
            go_wp2_with fail
            refine wp_region_noPanic ?_
            refine wp_region_held_drew (S := (fun w' => (w'.cell? ⟨g2, 3, none⟩ = some (.slice (some ⟨bI, oI, none⟩) ci.fIndexes.length cX) ∧ w'.cell? ⟨wr.heap.size, 13, none⟩ = some (.int .i64 op.fID) ∧ (wholeSem 37 (.pointer (some ⟨bI, oI + j * 7, none⟩))).run Try.prog w' = .ok (.value (.agg #[.int .i64 x.fID, .int .i64 x.fTable, .string (strB x.fName), .slice aY x.fColumns.length cY, .bool x.fUnique, .int .i64 x.fState, .bool x.fBad])) w'))) (by kernel_rfl) ((HS.out _ kd)) (fun hHeld => ?_)
            generalize wo.drew = wd at kd hHeld ⊢
            refine wpAnyH_take (i := 0) (v := ?_) rfl (by kernel_rfl) (by kernel_rfl) (by kernel_rfl) (fun _ _ _ h => h) (Or.inl ⟨by kernel_rfl, ?_⟩) hHeld ?_
            rotate_left
            · intro w' hSw
              (try dsimp only at hSw)
              (try simp only [List.getElem_toArray]); (try simp only [List.getElem_cons_succ]); (try simp only [List.getElem_cons_zero])
              go_simp
              try with_reducible rfl
            (try simp only [Act.put]); (try simp only [List.getElem_toArray]); (try simp only [List.getElem_cons_succ]); (try simp only [List.getElem_cons_zero]); (try simp only [List.setIfInBounds_toArray]); (try simp only [List.set_cons_succ]); (try simp only [List.set_cons_zero])
            refine wpAnyH_take (i := 1) (v := ?_) rfl (by kernel_rfl) (by kernel_rfl) (by kernel_rfl) (fun _ _ _ h => h) (Or.inl ⟨by kernel_rfl, ?_⟩) hHeld ?_
            rotate_left
            · intro w' hSw
              (try dsimp only at hSw)
              (try simp only [List.getElem_toArray]); (try simp only [List.getElem_cons_succ]); (try simp only [List.getElem_cons_zero])
              go_simp
              try with_reducible rfl
            (try simp only [Act.put]); (try simp only [List.getElem_toArray]); (try simp only [List.getElem_cons_succ]); (try simp only [List.getElem_cons_zero]); (try simp only [List.setIfInBounds_toArray]); (try simp only [List.set_cons_succ]); (try simp only [List.set_cons_zero])
            refine wpAnyH_take (i := 2) (v := ?_) rfl (by kernel_rfl) (by kernel_rfl) (by kernel_rfl) (fun _ _ _ h => h) (Or.inl ⟨by kernel_rfl, ?_⟩) hHeld ?_
            rotate_left
            · intro w' hSw
              (try dsimp only at hSw)
              (try simp only [List.getElem_toArray]); (try simp only [List.getElem_cons_succ]); (try simp only [List.getElem_cons_zero])
              go_simp
              try with_reducible rfl
            (try simp only [Act.put]); (try simp only [List.getElem_toArray]); (try simp only [List.getElem_cons_succ]); (try simp only [List.getElem_cons_zero]); (try simp only [List.setIfInBounds_toArray]); (try simp only [List.set_cons_succ]); (try simp only [List.set_cons_zero])
            refine wpAnyH_take (i := 3) (v := ?_) rfl (by kernel_rfl) (by kernel_rfl) (by kernel_rfl) (fun _ _ _ h => h) (Or.inl ⟨by kernel_rfl, ?_⟩) hHeld ?_
            rotate_left
            · intro w' hSw
              (try dsimp only at hSw)
              (try simp only [List.getElem_toArray]); (try simp only [List.getElem_cons_succ]); (try simp only [List.getElem_cons_zero])
              go_simp
              try with_reducible rfl
            (try simp only [Act.put]); (try simp only [List.getElem_toArray]); (try simp only [List.getElem_cons_succ]); (try simp only [List.getElem_cons_zero]); (try simp only [List.setIfInBounds_toArray]); (try simp only [List.set_cons_succ]); (try simp only [List.set_cons_zero])
            refine wpAnyH_take (i := 4) (v := ?_) rfl (by kernel_rfl) (by kernel_rfl) (by kernel_rfl) (fun _ _ _ h => h) (Or.inl ⟨by kernel_rfl, ?_⟩) hHeld ?_
            rotate_left
            · intro w' hSw
              (try dsimp only at hSw)
              (try simp only [List.getElem_toArray]); (try simp only [List.getElem_cons_succ]); (try simp only [List.getElem_cons_zero])
              go_simp
              try with_reducible rfl
            (try simp only [Act.put]); (try simp only [List.getElem_toArray]); (try simp only [List.getElem_cons_succ]); (try simp only [List.getElem_cons_zero]); (try simp only [List.setIfInBounds_toArray]); (try simp only [List.set_cons_succ]); (try simp only [List.set_cons_zero])
            refine wpAnyH_take (i := 5) (v := ?_) rfl (by kernel_rfl) (by kernel_rfl) (by kernel_rfl) (fun _ _ _ h => h) (Or.inl ⟨by kernel_rfl, ?_⟩) hHeld ?_
            rotate_left
            · intro w' hSw
              (try dsimp only at hSw)
              (try simp only [List.getElem_toArray]); (try simp only [List.getElem_cons_succ]); (try simp only [List.getElem_cons_zero])
              go_simp
              try with_reducible rfl
            (try simp only [Act.put]); (try simp only [List.getElem_toArray]); (try simp only [List.getElem_cons_succ]); (try simp only [List.getElem_cons_zero]); (try simp only [List.setIfInBounds_toArray]); (try simp only [List.set_cons_succ]); (try simp only [List.set_cons_zero])
            refine wpAnyH_take (i := 6) (v := ?_) rfl (by kernel_rfl) (by kernel_rfl) (by kernel_rfl) (fun _ _ _ h => h) (Or.inl ⟨by kernel_rfl, ?_⟩) hHeld ?_
            rotate_left
            · intro w' hSw
              (try dsimp only at hSw)
              (try simp only [List.getElem_toArray]); (try simp only [List.getElem_cons_succ]); (try simp only [List.getElem_cons_zero])
              go_simp
              try with_reducible rfl
            (try simp only [Act.put]); (try simp only [List.getElem_toArray]); (try simp only [List.getElem_cons_succ]); (try simp only [List.getElem_cons_zero]); (try simp only [List.setIfInBounds_toArray]); (try simp only [List.set_cons_succ]); (try simp only [List.set_cons_zero])
            refine wpAnyH_take (i := 7) (v := ?_) rfl (by kernel_rfl) (by kernel_rfl) (by kernel_rfl) (fun _ _ _ h => h) (Or.inl ⟨by kernel_rfl, ?_⟩) hHeld ?_
            rotate_left
            · intro w' hSw
              (try dsimp only at hSw)
              (try simp only [List.getElem_toArray]); (try simp only [List.getElem_cons_succ]); (try simp only [List.getElem_cons_zero])
              go_simp
              try with_reducible rfl
            (try simp only [Act.put]); (try simp only [List.getElem_toArray]); (try simp only [List.getElem_cons_succ]); (try simp only [List.getElem_cons_zero]); (try simp only [List.setIfInBounds_toArray]); (try simp only [List.set_cons_succ]); (try simp only [List.set_cons_zero])
            refine wpAnyH_take (i := 8) (v := ?_) rfl (by kernel_rfl) (by kernel_rfl) (by kernel_rfl) (fun _ _ _ h => h) (Or.inl ⟨by kernel_rfl, ?_⟩) hHeld ?_
            rotate_left
            · intro w' hSw
              (try dsimp only at hSw)
              (try simp only [List.getElem_toArray]); (try simp only [List.getElem_cons_succ]); (try simp only [List.getElem_cons_zero])
              go_simp
              try with_reducible rfl
            (try simp only [Act.put]); (try simp only [List.getElem_toArray]); (try simp only [List.getElem_cons_succ]); (try simp only [List.getElem_cons_zero]); (try simp only [List.setIfInBounds_toArray]); (try simp only [List.set_cons_succ]); (try simp only [List.set_cons_zero])
            refine wpAnyH_take (i := 9) (v := ?_) rfl (by kernel_rfl) (by kernel_rfl) (by kernel_rfl) (fun _ _ _ h => h) (Or.inl ⟨by kernel_rfl, ?_⟩) hHeld ?_
            rotate_left
            · intro w' hSw
              (try dsimp only at hSw)
              (try simp only [List.getElem_toArray]); (try simp only [List.getElem_cons_succ]); (try simp only [List.getElem_cons_zero])
              go_simp
              try with_reducible rfl
            (try simp only [Act.put]); (try simp only [List.getElem_toArray]); (try simp only [List.getElem_cons_succ]); (try simp only [List.getElem_cons_zero]); (try simp only [List.setIfInBounds_toArray]); (try simp only [List.set_cons_succ]); (try simp only [List.set_cons_zero])
            refine wpAnyH_take (i := 10) (v := ?_) rfl (by kernel_rfl) (by kernel_rfl) (by kernel_rfl) (fun _ _ _ h => h) (Or.inl ⟨by kernel_rfl, ?_⟩) hHeld ?_
            rotate_left
            · intro w' hSw
              (try dsimp only at hSw)
              (try simp only [List.getElem_toArray]); (try simp only [List.getElem_cons_succ]); (try simp only [List.getElem_cons_zero])
              go_simp
              try with_reducible rfl
            (try simp only [Act.put]); (try simp only [List.getElem_toArray]); (try simp only [List.getElem_cons_succ]); (try simp only [List.getElem_cons_zero]); (try simp only [List.setIfInBounds_toArray]); (try simp only [List.set_cons_succ]); (try simp only [List.set_cons_zero])
            refine wpAnyH_take (i := 11) (v := ?_) rfl (by kernel_rfl) (by kernel_rfl) (by kernel_rfl) (fun _ _ _ h => h) (Or.inl ⟨by kernel_rfl, ?_⟩) hHeld ?_
            rotate_left
            · intro w' hSw
              (try dsimp only at hSw)
              (try simp only [List.getElem_toArray]); (try simp only [List.getElem_cons_succ]); (try simp only [List.getElem_cons_zero])
              go_simp
              try with_reducible rfl
            (try simp only [Act.put]); (try simp only [List.getElem_toArray]); (try simp only [List.getElem_cons_succ]); (try simp only [List.getElem_cons_zero]); (try simp only [List.setIfInBounds_toArray]); (try simp only [List.set_cons_succ]); (try simp only [List.set_cons_zero])
            refine wpAnyH_take (i := 12) (v := ?_) rfl (by kernel_rfl) (by kernel_rfl) (by kernel_rfl) (fun _ _ _ h => h) (Or.inl ⟨by kernel_rfl, ?_⟩) hHeld ?_
            rotate_left
            · intro w' hSw
              (try dsimp only at hSw)
              (try simp only [List.getElem_toArray]); (try simp only [List.getElem_cons_succ]); (try simp only [List.getElem_cons_zero])
              go_simp
              try with_reducible rfl
            (try simp only [Act.put]); (try simp only [List.getElem_toArray]); (try simp only [List.getElem_cons_succ]); (try simp only [List.getElem_cons_zero]); (try simp only [List.setIfInBounds_toArray]); (try simp only [List.set_cons_succ]); (try simp only [List.set_cons_zero])
            refine wpAnyH_ready (rs := [13]) (by kernel_rfl) (by simp) ?_
            refine AllReadyH.cons rfl (fun K hK => ?_) AllReadyH.nil
            go_simp
            obtain ⟨rowI, kA, hgI, -⟩ := kk_alloc kd #[.int .i64 0, .int .i64 0, .string { data := #[] }, .slice none 0 0, .bool false, .int .i64 0, .bool false] 37
            refine hK.out _ _ ((HS.out _ kA)) (fun hHeld => ?_)
            clear hK K
            (try simp only [Act.put]); (try simp only [List.getElem_toArray]); (try simp only [List.getElem_cons_succ]); (try simp only [List.getElem_cons_zero]); (try simp only [List.setIfInBounds_toArray]); (try simp only [List.set_cons_succ]); (try simp only [List.set_cons_zero])
            refine wpAnyH_ready (rs := [14]) (by kernel_rfl) (by simp) ?_
            refine AllReadyH.cons rfl (fun K hK => ?_) AllReadyH.nil
            have hst2 := store_run (P := Try.prog) (cs := [.int .i64 x.fID, .int .i64 x.fTable, .string (strB x.fName), .slice aY x.fColumns.length cY, .bool x.fUnique, .int .i64 x.fState, .bool x.fBad]) S_Index rowI rfl rfl rfl
            (try simp only [List.getElem_toArray]); (try simp only [List.getElem_cons_succ]); (try simp only [List.getElem_cons_zero])
            go_simp
            clear hst2
            replace rowI := rowI.setRow [.int .i64 x.fID, .int .i64 x.fTable, .string (strB x.fName), .slice aY x.fColumns.length cY, .bool x.fUnique, .int .i64 x.fState, .bool x.fBad]
            obtain ⟨kI, -⟩ := kk_set kA hgI ([.int .i64 x.fID, .int .i64 x.fTable, .string (strB x.fName), .slice aY x.fColumns.length cY, .bool x.fUnique, .int .i64 x.fState, .bool x.fBad] : List Value).toArray
            refine hK.out _ _ ((HS.out _ kI)) (fun hHeld => ?_)
            clear hK K
            (try simp only [Act.put]); (try simp only [List.getElem_toArray]); (try simp only [List.getElem_cons_succ]); (try simp only [List.getElem_cons_zero]); (try simp only [List.setIfInBounds_toArray]); (try simp only [List.set_cons_succ]); (try simp only [List.set_cons_zero])
            refine wpAnyH_done (by kernel_rfl) ?_ _
            refine NoPanic.normal ?_
            clear hHeld HS kA kd
            have rowO1 := rowO.keep kI id
            have gI1 := rGIndex_lawful.nix gI kI
            generalize (wd.alloc (.cells #[.int .i64 0, .int .i64 0, .string { data := #[] }, .slice none 0 0, .bool false, .int .i64 0, .bool false] 37)).setRow wd.heap.size #[.int .i64 x.fID, .int .i64 x.fTable, .string (strB x.fName), .slice aY x.fColumns.length cY, .bool x.fUnique, .int .i64 x.fState, .bool x.fBad] = w11 at *
            generalize wd.heap.size = bI2 at *
            have hS12 : ∀ w', Keep (· = wr.heap.size) w11 w' → (w'.cell? ⟨bI2, 0, none⟩ = some (.int .i64 x.fID) ∧ w'.cell? ⟨bI2, 5, none⟩ = some (.int .i64 x.fState) ∧ (wholeSem 37 (.pointer (some ⟨bI2, 0, none⟩))).run Try.prog w' = .ok (.value (.agg #[.int .i64 x.fID, .int .i64 x.fTable, .string (strB x.fName), .slice aY x.fColumns.length cY, .bool x.fUnique, .int .i64 x.fState, .bool x.fBad])) w') := fun w' k' => ⟨(rowI.keep k' (by omega)).cell 0, (rowI.keep k' (by omega)).cell 5, Whole.run S_Index rfl (rowI.keep k' (by omega))⟩
            have HS12 := Lib.hid hS12
            have kd : Keep (· = wr.heap.size) w11 w11.drew := (Keep.refl _ w11).drew
            replace rowO1 := rowO1.same (w' := w11.drew)
            clear hS12
            go_wp2_with fail
            refine wp_region_noPanic ?_
            refine wp_region_held_drew (S := (fun w' => (w'.cell? ⟨bI2, 0, none⟩ = some (.int .i64 x.fID) ∧ w'.cell? ⟨bI2, 5, none⟩ = some (.int .i64 x.fState) ∧ (wholeSem 37 (.pointer (some ⟨bI2, 0, none⟩))).run Try.prog w' = .ok (.value (.agg #[.int .i64 x.fID, .int .i64 x.fTable, .string (strB x.fName), .slice aY x.fColumns.length cY, .bool x.fUnique, .int .i64 x.fState, .bool x.fBad])) w'))) (by kernel_rfl) ((HS12.out _ kd)) (fun hHeld => ?_)
            generalize w11.drew = w12 at kd rowO1 hHeld ⊢
            refine wpAnyH_take (i := 0) (v := ?_) rfl (by kernel_rfl) (by kernel_rfl) (by kernel_rfl) (fun _ _ _ h => h) (Or.inl ⟨by kernel_rfl, ?_⟩) hHeld ?_
            rotate_left
            · intro w' hSw
              (try dsimp only at hSw)
              (try simp only [List.getElem_toArray]); (try simp only [List.getElem_cons_succ]); (try simp only [List.getElem_cons_zero])
              go_simp
              try with_reducible rfl
            (try simp only [Act.put]); (try simp only [List.getElem_toArray]); (try simp only [List.getElem_cons_succ]); (try simp only [List.getElem_cons_zero]); (try simp only [List.setIfInBounds_toArray]); (try simp only [List.set_cons_succ]); (try simp only [List.set_cons_zero])
            refine wpAnyH_take (i := 1) (v := ?_) rfl (by kernel_rfl) (by kernel_rfl) (by kernel_rfl) (fun _ _ _ h => h) (Or.inl ⟨by kernel_rfl, ?_⟩) hHeld ?_
            rotate_left
            · intro w' hSw
              (try dsimp only at hSw)
              (try simp only [List.getElem_toArray]); (try simp only [List.getElem_cons_succ]); (try simp only [List.getElem_cons_zero])
              go_simp
              try with_reducible rfl
            (try simp only [Act.put]); (try simp only [List.getElem_toArray]); (try simp only [List.getElem_cons_succ]); (try simp only [List.getElem_cons_zero]); (try simp only [List.setIfInBounds_toArray]); (try simp only [List.set_cons_succ]); (try simp only [List.set_cons_zero])
            refine wpAnyH_take (i := 2) (v := ?_) rfl (by kernel_rfl) (by kernel_rfl) (by kernel_rfl) (fun _ _ _ h => h) (Or.inl ⟨by kernel_rfl, ?_⟩) hHeld ?_
            rotate_left
            · intro w' hSw
              (try dsimp only at hSw)
              (try simp only [List.getElem_toArray]); (try simp only [List.getElem_cons_succ]); (try simp only [List.getElem_cons_zero])
              go_simp
              try with_reducible rfl
            (try simp only [Act.put]); (try simp only [List.getElem_toArray]); (try simp only [List.getElem_cons_succ]); (try simp only [List.getElem_cons_zero]); (try simp only [List.setIfInBounds_toArray]); (try simp only [List.set_cons_succ]); (try simp only [List.set_cons_zero])
            refine wpAnyH_take (i := 3) (v := ?_) rfl (by kernel_rfl) (by kernel_rfl) (by kernel_rfl) (fun _ _ _ h => h) (Or.inl ⟨by kernel_rfl, ?_⟩) hHeld ?_
            rotate_left
            · intro w' hSw
              (try dsimp only at hSw)
              (try simp only [List.getElem_toArray]); (try simp only [List.getElem_cons_succ]); (try simp only [List.getElem_cons_zero])
              go_simp
              try with_reducible rfl
            (try simp only [Act.put]); (try simp only [List.getElem_toArray]); (try simp only [List.getElem_cons_succ]); (try simp only [List.getElem_cons_zero]); (try simp only [List.setIfInBounds_toArray]); (try simp only [List.set_cons_succ]); (try simp only [List.set_cons_zero])
            refine wpAnyH_take (i := 4) (v := ?_) rfl (by kernel_rfl) (by kernel_rfl) (by kernel_rfl) (fun _ _ _ h => h) (Or.inl ⟨by kernel_rfl, ?_⟩) hHeld ?_
            rotate_left
            · intro w' hSw
              (try dsimp only at hSw)
              (try simp only [List.getElem_toArray]); (try simp only [List.getElem_cons_succ]); (try simp only [List.getElem_cons_zero])
              go_simp
              try with_reducible rfl
            (try simp only [Act.put]); (try simp only [List.getElem_toArray]); (try simp only [List.getElem_cons_succ]); (try simp only [List.getElem_cons_zero]); (try simp only [List.setIfInBounds_toArray]); (try simp only [List.set_cons_succ]); (try simp only [List.set_cons_zero])
            refine wpAnyH_take (i := 6) (v := ?_) rfl (by kernel_rfl) (by kernel_rfl) (by kernel_rfl) (fun _ _ _ h => h) (Or.inl ⟨by kernel_rfl, ?_⟩) hHeld ?_
            rotate_left
            · intro w' hSw
              (try dsimp only at hSw)
              (try simp only [List.getElem_toArray]); (try simp only [List.getElem_cons_succ]); (try simp only [List.getElem_cons_zero])
              go_simp
              try with_reducible rfl
            (try simp only [Act.put]); (try simp only [List.getElem_toArray]); (try simp only [List.getElem_cons_succ]); (try simp only [List.getElem_cons_zero]); (try simp only [List.setIfInBounds_toArray]); (try simp only [List.set_cons_succ]); (try simp only [List.set_cons_zero])
            refine wpAnyH_ready (rs := [5]) (by kernel_rfl) (by simp) ?_
            refine AllReadyH.cons rfl (fun K hK => ?_) AllReadyH.nil
            go_simp
            go_fit (sNext_c x _ _ (rGIndex_lawful.keep gI1 kd (fun b hb e => by have h1 := hb.1; omega)))
            rintro e w9 ⟨rfl, k9⟩
            replace rowO1 := rowO1.keep k9 id
            replace kd := kd.trans k9.nix
            clear k9
            go_wp2_with fail
            refine hK.out _ _ ((HS12.out _ kd)) (fun hHeld => ?_)
            clear hK K
            (try simp only [Act.put]); (try simp only [List.getElem_toArray]); (try simp only [List.getElem_cons_succ]); (try simp only [List.getElem_cons_zero]); (try simp only [List.setIfInBounds_toArray]); (try simp only [List.set_cons_succ]); (try simp only [List.set_cons_zero])
            refine wpAnyH_ready (rs := [7]) (by kernel_rfl) (by simp) ?_
            refine AllReadyH.cons rfl (fun K hK => ?_) AllReadyH.nil
            have x2 := rowO1.cell 0
            have f2 := rowO1.frozen 0
            (try simp only [List.getElem?_cons_succ] at x2); (try simp only [List.getElem?_cons_zero] at x2)
            go_simp
            clear x2 f2
            replace rowO1 := rowO1.set 0 (.int .i64 3)
            (try simp only [List.set_cons_succ] at rowO1); (try simp only [List.set_cons_zero] at rowO1)
            replace kd := kd.setCell (p := ⟨wr.heap.size, 0, none⟩) (fun _ => rfl) (.int .i64 3)
            refine hK.out _ _ ((HS12.out _ kd)) (fun hHeld => ?_)
            clear hK K
            (try simp only [Act.put]); (try simp only [List.getElem_toArray]); (try simp only [List.getElem_cons_succ]); (try simp only [List.getElem_cons_zero]); (try simp only [List.setIfInBounds_toArray]); (try simp only [List.set_cons_succ]); (try simp only [List.set_cons_zero])
            refine wpAnyH_take (i := 8) (v := ?_) rfl (by kernel_rfl) (by kernel_rfl) (by kernel_rfl) (fun _ _ _ h => h) (Or.inl ⟨by kernel_rfl, ?_⟩) hHeld ?_
            rotate_left
            · intro w' hSw
              (try dsimp only at hSw)
              (try simp only [List.getElem_toArray]); (try simp only [List.getElem_cons_succ]); (try simp only [List.getElem_cons_zero])
              go_simp
              try with_reducible rfl
            (try simp only [Act.put]); (try simp only [List.getElem_toArray]); (try simp only [List.getElem_cons_succ]); (try simp only [List.getElem_cons_zero]); (try simp only [List.setIfInBounds_toArray]); (try simp only [List.set_cons_succ]); (try simp only [List.set_cons_zero])
            refine wpAnyH_ready (rs := [9]) (by kernel_rfl) (by simp) ?_
            refine AllReadyH.cons rfl (fun K hK => ?_) AllReadyH.nil
            have x2 := rowO1.cell 13
            have f2 := rowO1.frozen 13
            (try simp only [List.getElem?_cons_succ] at x2); (try simp only [List.getElem?_cons_zero] at x2)
            go_simp
            clear x2 f2
            replace rowO1 := rowO1.set 13 (.int .i64 x.fID)
            (try simp only [List.set_cons_succ] at rowO1); (try simp only [List.set_cons_zero] at rowO1)
            replace kd := kd.setCell (p := ⟨wr.heap.size, 13, none⟩) (fun _ => rfl) (.int .i64 x.fID)
            refine hK.out _ _ ((HS12.out _ kd)) (fun hHeld => ?_)
            clear hK K
            (try simp only [Act.put]); (try simp only [List.getElem_toArray]); (try simp only [List.getElem_cons_succ]); (try simp only [List.getElem_cons_zero]); (try simp only [List.setIfInBounds_toArray]); (try simp only [List.set_cons_succ]); (try simp only [List.set_cons_zero])
            refine wpAnyH_take (i := 10) (v := ?_) rfl (by kernel_rfl) (by kernel_rfl) (by kernel_rfl) (fun _ _ _ h => h) (Or.inl ⟨by kernel_rfl, ?_⟩) hHeld ?_
            rotate_left
            · intro w' hSw
              (try dsimp only at hSw)
              (try simp only [List.getElem_toArray]); (try simp only [List.getElem_cons_succ]); (try simp only [List.getElem_cons_zero])
              go_simp
              try with_reducible rfl
            (try simp only [Act.put]); (try simp only [List.getElem_toArray]); (try simp only [List.getElem_cons_succ]); (try simp only [List.getElem_cons_zero]); (try simp only [List.setIfInBounds_toArray]); (try simp only [List.set_cons_succ]); (try simp only [List.set_cons_zero])
            refine wpAnyH_ready (rs := [11]) (by kernel_rfl) (by simp) ?_
            refine AllReadyH.cons rfl (fun K hK => ?_) AllReadyH.nil
            have x2 := rowO1.cell 14
            have f2 := rowO1.frozen 14
            (try simp only [List.getElem?_cons_succ] at x2); (try simp only [List.getElem?_cons_zero] at x2)
            go_simp
            clear x2 f2
            replace rowO1 := rowO1.set 14 (.int .i64 x.fState)
            (try simp only [List.set_cons_succ] at rowO1); (try simp only [List.set_cons_zero] at rowO1)
            replace kd := kd.setCell (p := ⟨wr.heap.size, 14, none⟩) (fun _ => rfl) (.int .i64 x.fState)
            refine hK.out _ _ ((HS12.out _ kd)) (fun hHeld => ?_)
            clear hK K
            (try simp only [Act.put]); (try simp only [List.getElem_toArray]); (try simp only [List.getElem_cons_succ]); (try simp only [List.getElem_cons_zero]); (try simp only [List.setIfInBounds_toArray]); (try simp only [List.set_cons_succ]); (try simp only [List.set_cons_zero])
            refine wpAnyH_take (i := 12) (v := ?_) rfl (by kernel_rfl) (by kernel_rfl) (by kernel_rfl) (fun _ _ _ h => h) (Or.inl ⟨by kernel_rfl, ?_⟩) hHeld ?_
            rotate_left
            · intro w' hSw
              (try dsimp only at hSw)
              (try simp only [List.getElem_toArray]); (try simp only [List.getElem_cons_succ]); (try simp only [List.getElem_cons_zero])
              go_simp
              try with_reducible rfl
            (try simp only [Act.put]); (try simp only [List.getElem_toArray]); (try simp only [List.getElem_cons_succ]); (try simp only [List.getElem_cons_zero]); (try simp only [List.setIfInBounds_toArray]); (try simp only [List.set_cons_succ]); (try simp only [List.set_cons_zero])
            refine wpAnyH_ready (rs := [13]) (by kernel_rfl) (by simp) ?_
            refine AllReadyH.cons rfl (fun K hK => ?_) AllReadyH.nil
            have x2 := rowO1.cell 15
            have f2 := rowO1.frozen 15
            (try simp only [List.getElem?_cons_succ] at x2); (try simp only [List.getElem?_cons_zero] at x2)
            go_simp
            clear x2 f2
            replace rowO1 := rowO1.set 15 (.int .i64 (nextF x.fState))
            (try simp only [List.set_cons_succ] at rowO1); (try simp only [List.set_cons_zero] at rowO1)
            replace kd := kd.setCell (p := ⟨wr.heap.size, 15, none⟩) (fun _ => rfl) (.int .i64 (nextF x.fState))
            refine hK.out _ _ ((HS12.out _ kd)) (fun hHeld => ?_)
            clear hK K
            (try simp only [Act.put]); (try simp only [List.getElem_toArray]); (try simp only [List.getElem_cons_succ]); (try simp only [List.getElem_cons_zero]); (try simp only [List.setIfInBounds_toArray]); (try simp only [List.set_cons_succ]); (try simp only [List.set_cons_zero])
            refine wpAnyH_done (by kernel_rfl) ?_ _
            refine NoPanic.normal ?_
            clear hHeld HS12
            go_wp2_with fail
            go_meet
            case rel => exact ⟨3, x.fID, x.fState, nextF x.fState, rowO1, hy0, hy5, nextF_i64 _, kI.nix.trans kd⟩
        case rest =>
        obtain ⟨kd, oid, frm, tt, rowO2, hid2, hfr2, htt2, kW⟩ := hcut
        clear rowO
        have rowO := rowO2
        replace row0 := row0.keep kW (by omega)
        replace gc := rGCatalog_lawful.keep gc kW (fun b hb e => by have := hb.1; omega)
        replace gT := rGTable_lawful.keep gT kW (fun b hb e => by have hb' : b < W.heap.size := hb; omega)
        replace gX := rGIndex_lawful.keep gX kW (fun b hb e => by have hb' : b < W.heap.size := hb; omega)
        replace kk := kk.then kW (fun i hi e => by omega)
        have hszw := Lib.hid (Nat.le_trans hszr.out kW.size)
        clear kW rowO2 o0
        have ld0 := Whole.run (P := Try.prog) S_Catalog rfl row0
        obtain ⟨hst, rowI, kV⟩ := boxed (P := Try.prog) (zs := [.int .i64 0, .int .i64 0, .slice none 0 0, .slice none 0 0]) S_Catalog wc rfl (rGCatalog_lawful.len gc) (rGCatalog_ones gc)
        have hH1 : g2 < wc.heap.size := row0.lt
        have hH2 : wr.heap.size < wc.heap.size := rowO.lt
        have hH3 := kk.size
        (try replace row0 := row0.keep kV id)
        (try replace rowO := rowO.keep kV id)
        (try replace rowI := rowI.keep kV id)
        (try replace rowN := rowN.keep kV id)
        (try replace rowM := rowM.keep kV id)
        (try replace gc := rGCatalog_lawful.nix gc kV)
        (try replace gT := rGTable_lawful.nix gT kV)
        (try replace gX := rGIndex_lawful.nix gX kV)
        (try replace gi := rGCatalog_lawful.nix gi kV)
        (try replace gn := rGCatalog_lawful.nix gn kV)
        (try replace gm := rGCatalog_lawful.nix gm kV)
        replace kk := kk.trans kV
        have hH4 := kV.size
        clear kV
        go_upto_region 13 with fail
        clear hst ld0
        generalize (wc.alloc (.cells #[.int .i64 0, .int .i64 0, .slice none 0 0, .slice none 0 0] 25)).setRow wc.heap.size ([.int .i64 ci.fVersion, .int .i64 ci.fNext, .slice aT ci.fTables.length cT, .slice aX ci.fIndexes.length cX] : List Value).toArray = w5 at *
        generalize wc.heap.size = H at *
        have hI5 : H < w5.heap.size := rowI.lt
        have o0 := rowO.cell 0
        (try simp only [List.getElem?_cons_succ] at o0); (try simp only [List.getElem?_cons_zero] at o0)
        go_upto_block 2 with fail
        clear o0
        have hv0 := hR.out.v0
        go_cut [86] from 30 to 232 (fun _ wx => SWR w5 H g2 ci wx)
        case first =>
          rcases test_eq kd 1 with ⟨q1, -⟩ | ⟨q1, -⟩
          · as_aux_lemma =>
            obtain ⟨y, HY⟩ : ∃ y, Hid (addIndexF ci op.fX op.fName = y) := ⟨_, rfl⟩
            have HRT : Hid (RightP y.1 ∧ (y.1.fVersion = ci.fVersion ∨ y.1.fVersion = ci.fVersion + 1) ∧ ∀ id, Sides (stateV ci id) (stateV y.1 id)) := by
              rw [← HY.out]
              exact ⟨addIndex_right hR.out _ _, ver2_idx _ _ _, (fun id => sides_idx hR.out _ _ id)⟩
            have HC := sAddIndex_c ci _ op.fX _ op.fName w5 (rGCatalog_lawful.mono gc (q := (· < w5.heap.size)) (fun b hb => by have h1 := hb.1; show b < w5.heap.size; omega)) (rGIndex_lawful.mono gX (fun b hb => by have hb' : b < W.heap.size := hb; show b < w5.heap.size; omega)) (right_small hR.out) hxb.out (by omega) (fun b hb => hb)
            rw [HY.out] at HC
            have HC1 := Lib.hid HC
            clear HC
            have ld0 := Whole.run (P := Try.prog) S_Catalog rfl row0
            have ldX := Whole.mid (P := Try.prog) (pre := [.int .i64 kd, .int .i64 op.fT.fID, .string (strB op.fT.fName), .slice aTC op.fT.fColumns.length cTC, .slice aTK op.fT.fKey.length cTK]) (cs := [.int .i64 op.fX.fID, .int .i64 op.fX.fTable, .string (strB op.fX.fName), .slice aXC op.fX.fColumns.length cXC, .bool op.fX.fUnique, .int .i64 op.fX.fState, .bool op.fX.fBad]) (post := [.string (strB op.fName), .int .i64 oid, .int .i64 frm, .int .i64 tt, .bool op.fBad]) (o := 5) S_Index rowO rfl rfl
            have o12 := rowO.cell 12
            (try simp only [List.getElem?_cons_succ] at o12); (try simp only [List.getElem?_cons_zero] at o12)
            go_wp2_with fail
            clear ld0 ldX o12
            go_fit HC1.out
            rintro e w6 ⟨cs6, rfl, gn0, on6, k6⟩
            clear HC1
            have hz6 := k6.size
            have kz : Keep (· = H) w5 w6 := k6.nix
            replace rowI := rowI.keep k6 id
            clear k6
            have gn9 : rGCatalog w6 (fun b => H < b ∧ g2 < b ∧ b < w6.heap.size) cs6 y.1 := rGCatalog_lawful.mono gn0 (fun b hb => ⟨by have := hb.1; omega, by have := hb.1; omega, hb.2⟩)
            clear gn0
            have hst := store_run (P := Try.prog) S_Catalog rowI rfl (rGCatalog_lawful.len gn9) on6
            have kG : Keep (· = H) w6 (w6.setRow H cs6.toArray) := (Keep.refl (· = H) w6).setRow (fun _ => rfl) _
            replace gn9 := rGCatalog_lawful.keep gn9 kG (fun b hb e => by have := hb.1; omega)
            replace rowI := rowI.setRow cs6
            replace kz := kz.trans kG
            have hzG := Lib.hid kG.size
            clear kG kk
            go_wp2_with fail
            clear hst
            go_meet
            case rel => exact ⟨y.1, cs6, rowI, rGCatalog_lawful.mono gn9 (fun b hb => ⟨by have := hzG.out; have := hb.2.2; omega, by have := hb.2.1; omega, by have := hb.1; omega⟩), HRT.out.1, HRT.out.2.1, HRT.out.2.2, kz⟩
          rcases test_eq kd 2 with ⟨q2, -⟩ | ⟨q2, -⟩
          · as_aux_lemma =>
            obtain ⟨y, HY⟩ : ∃ y, Hid (dropF ci op.fName = y) := ⟨_, rfl⟩
            have HRT : Hid (RightP y.1 ∧ (y.1.fVersion = ci.fVersion ∨ y.1.fVersion = ci.fVersion + 1) ∧ ∀ id, Sides (stateV ci id) (stateV y.1 id)) := by
              rw [← HY.out]
              exact ⟨drop_right hR.out _, ver2_drop _ _, (fun id => sides_drop hR.out _ id)⟩
            have HC := sDrop_c ci _ op.fName w5 (rGCatalog_lawful.mono gc (q := (· < w5.heap.size)) (fun b hb => by have h1 := hb.1; show b < w5.heap.size; omega)) (right_small hR.out) (by omega)
            rw [HY.out] at HC
            have HC1 := Lib.hid HC
            clear HC
            have ld0 := Whole.run (P := Try.prog) S_Catalog rfl row0
            have ldX := True.intro
            have o12 := rowO.cell 12
            (try simp only [List.getElem?_cons_succ] at o12); (try simp only [List.getElem?_cons_zero] at o12)
            go_wp2_with fail
            clear ld0 ldX o12
            go_fit HC1.out
            rintro e w6 ⟨cs6, rfl, gn0, on6, k6⟩
            clear HC1
            have hz6 := k6.size
            have kz : Keep (· = H) w5 w6 := k6.nix
            replace rowI := rowI.keep k6 id
            clear k6
            have gn9 : rGCatalog w6 (fun b => H < b ∧ g2 < b ∧ b < w6.heap.size) cs6 y.1 := rGCatalog_lawful.mono gn0 (fun b hb => ⟨by have := hb.1; omega, by have := hb.1; omega, hb.2⟩)
            clear gn0
            have hst := store_run (P := Try.prog) S_Catalog rowI rfl (rGCatalog_lawful.len gn9) on6
            have kG : Keep (· = H) w6 (w6.setRow H cs6.toArray) := (Keep.refl (· = H) w6).setRow (fun _ => rfl) _
            replace gn9 := rGCatalog_lawful.keep gn9 kG (fun b hb e => by have := hb.1; omega)
            replace rowI := rowI.setRow cs6
            replace kz := kz.trans kG
            have hzG := Lib.hid kG.size
            clear kG kk
            go_wp2_with fail
            clear hst
            go_meet
            case rel => exact ⟨y.1, cs6, rowI, rGCatalog_lawful.mono gn9 (fun b hb => ⟨by have := hzG.out; have := hb.2.2; omega, by have := hb.2.1; omega, by have := hb.1; omega⟩), HRT.out.1, HRT.out.2.1, HRT.out.2.2, kz⟩
          rcases test_eq kd 3 with ⟨q3, -⟩ | ⟨q3, -⟩
          · as_aux_lemma =>
            obtain ⟨y, HY⟩ : ∃ y, Hid (stepF ci oid frm tt op.fBad = y) := ⟨_, rfl⟩
            have HRT : Hid (RightP y.1 ∧ (y.1.fVersion = ci.fVersion ∨ y.1.fVersion = ci.fVersion + 1) ∧ ∀ id, Sides (stateV ci id) (stateV y.1 id)) := by
              rw [← HY.out]
              exact ⟨step_right hR.out _ _ _ _, ver2_step _ _ _ _ _, (fun id => sides_step hR.out _ _ _ _ id)⟩
            have HC := sStep_c ci _ oid frm tt op.fBad w5 (rGCatalog_lawful.mono gc (q := (· < w5.heap.size)) (fun b hb => by have h1 := hb.1; show b < w5.heap.size; omega)) (right_small hR.out) (by omega) htt2
            rw [HY.out] at HC
            have HC1 := Lib.hid HC
            clear HC
            have ld0 := Whole.run (P := Try.prog) S_Catalog rfl row0
            have ldX := True.intro
            have o13 := rowO.cell 13
            (try simp only [List.getElem?_cons_succ] at o13); (try simp only [List.getElem?_cons_zero] at o13)
            have o14 := rowO.cell 14
            (try simp only [List.getElem?_cons_succ] at o14); (try simp only [List.getElem?_cons_zero] at o14)
            have o15 := rowO.cell 15
            (try simp only [List.getElem?_cons_succ] at o15); (try simp only [List.getElem?_cons_zero] at o15)
            have o16 := rowO.cell 16
            (try simp only [List.getElem?_cons_succ] at o16); (try simp only [List.getElem?_cons_zero] at o16)
            go_wp2_with fail
            clear ld0 ldX o13 o14 o15 o16
            go_fit HC1.out
            rintro e w6 ⟨cs6, rfl, gn0, on6, k6⟩
            clear HC1
            have hz6 := k6.size
            have kz : Keep (· = H) w5 w6 := k6.nix
            replace rowI := rowI.keep k6 id
            clear k6
            have gn9 : rGCatalog w6 (fun b => H < b ∧ g2 < b ∧ b < w6.heap.size) cs6 y.1 := rGCatalog_lawful.mono gn0 (fun b hb => ⟨by have := hb.1; omega, by have := hb.1; omega, hb.2⟩)
            clear gn0
            have hst := store_run (P := Try.prog) S_Catalog rowI rfl (rGCatalog_lawful.len gn9) on6
            have kG : Keep (· = H) w6 (w6.setRow H cs6.toArray) := (Keep.refl (· = H) w6).setRow (fun _ => rfl) _
            replace gn9 := rGCatalog_lawful.keep gn9 kG (fun b hb e => by have := hb.1; omega)
            replace rowI := rowI.setRow cs6
            replace kz := kz.trans kG
            have hzG := Lib.hid kG.size
            clear kG kk
            go_wp2_with fail
            clear hst
            go_meet
            case rel => exact ⟨y.1, cs6, rowI, rGCatalog_lawful.mono gn9 (fun b hb => ⟨by have := hzG.out; have := hb.2.2; omega, by have := hb.2.1; omega, by have := hb.1; omega⟩), HRT.out.1, HRT.out.2.1, HRT.out.2.2, kz⟩
          · as_aux_lemma =>
            obtain ⟨y, HY⟩ : ∃ y, Hid (addTableF ci op.fT = y) := ⟨_, rfl⟩
            have HRT : Hid (RightP y.1 ∧ (y.1.fVersion = ci.fVersion ∨ y.1.fVersion = ci.fVersion + 1) ∧ ∀ id, Sides (stateV ci id) (stateV y.1 id)) := by
              rw [← HY.out]
              exact ⟨addTable_right hR.out _, ver2_tab _ _, (fun id => sides_tab _ _ id)⟩
            have HC := sAddTable_c ci _ op.fT _ w5 (rGCatalog_lawful.mono gc (q := (· < w5.heap.size)) (fun b hb => by have h1 := hb.1; show b < w5.heap.size; omega)) (rGTable_lawful.mono gT (fun b hb => by have hb' : b < W.heap.size := hb; show b < w5.heap.size; omega)) (right_small hR.out) (by omega) (fun b hb => hb)
            rw [HY.out] at HC
            have HC1 := Lib.hid HC
            clear HC
            have ld0 := Whole.run (P := Try.prog) S_Catalog rfl row0
            have ldX := Whole.mid (P := Try.prog) (pre := [.int .i64 kd]) (cs := [.int .i64 op.fT.fID, .string (strB op.fT.fName), .slice aTC op.fT.fColumns.length cTC, .slice aTK op.fT.fKey.length cTK]) (post := [.int .i64 op.fX.fID, .int .i64 op.fX.fTable, .string (strB op.fX.fName), .slice aXC op.fX.fColumns.length cXC, .bool op.fX.fUnique, .int .i64 op.fX.fState, .bool op.fX.fBad, .string (strB op.fName), .int .i64 oid, .int .i64 frm, .int .i64 tt, .bool op.fBad]) (o := 1) S_Table rowO rfl rfl
            have o1 := True.intro
            go_wp2_with fail
            clear ld0 ldX o1
            go_fit HC1.out
            rintro e w6 ⟨cs6, rfl, gn0, on6, k6⟩
            clear HC1
            have hz6 := k6.size
            have kz : Keep (· = H) w5 w6 := k6.nix
            replace rowI := rowI.keep k6 id
            clear k6
            have gn9 : rGCatalog w6 (fun b => H < b ∧ g2 < b ∧ b < w6.heap.size) cs6 y.1 := rGCatalog_lawful.mono gn0 (fun b hb => ⟨by have := hb.1; omega, by have := hb.1; omega, hb.2⟩)
            clear gn0
            have hst := store_run (P := Try.prog) S_Catalog rowI rfl (rGCatalog_lawful.len gn9) on6
            have kG : Keep (· = H) w6 (w6.setRow H cs6.toArray) := (Keep.refl (· = H) w6).setRow (fun _ => rfl) _
            replace gn9 := rGCatalog_lawful.keep gn9 kG (fun b hb e => by have := hb.1; omega)
            replace rowI := rowI.setRow cs6
            replace kz := kz.trans kG
            have hzG := Lib.hid kG.size
            clear kG kk
            go_wp2_with fail
            clear hst
            go_meet
            case rel => exact ⟨y.1, cs6, rowI, rGCatalog_lawful.mono gn9 (fun b hb => ⟨by have := hzG.out; have := hb.2.2; omega, by have := hb.2.1; omega, by have := hb.1; omega⟩), HRT.out.1, HRT.out.2.1, HRT.out.2.2, kz⟩
        case rest =>
        obtain ⟨d, csn, rowN, gn, hRd, hvd, hsd, kS⟩ := hcut
        as_aux_lemma =>
          clear rowI
          replace row0 := row0.keep kS (by omega)
          replace gc := rGCatalog_lawful.keep gc kS (fun b hb e => by have := hb.1; omega)
          replace kk := kk.then kS (fun i hi e => by omega)
          clear gT gX kS rowO
          have hRB : Hid (rightB d = true) := rightB_iff.2 hRd
          replace hRd := Lib.hid hRd
          replace hsd := Lib.hid hsd
          obtain ⟨bT, dT, bX, dX, rfl, -⟩ := rGCatalog_open gn
          have HC := rRight_c d _ _ (rGCatalog_lawful.mono gn (q := (· < wc.heap.size)) (fun b hb => hb.1)) (fun b hb => hb)
          rw [hRB.out] at HC
          have HCC := Lib.hid HC
          clear HC
          have ldN := Whole.run (P := Try.prog) S_Catalog rfl rowN
          go_wp2_with fail
          clear ldN
          go_fit HCC.out
          rintro e w7 ⟨rfl, k7⟩
          clear HCC
          replace row0 := row0.keep k7 id
          replace rowN := rowN.keep k7 id
          replace gc := rGCatalog_lawful.nix gc k7
          replace gn := rGCatalog_lawful.nix gn k7
          replace kk := kk.trans k7
          have hz7 := Lib.hid k7.size
          clear k7
          have x0 := row0.cell 0
          (try simp only [List.getElem?_cons_succ] at x0); (try simp only [List.getElem?_cons_zero] at x0)
          have n0 := rowN.cell 0
          (try simp only [List.getElem?_cons_succ] at n0); (try simp only [List.getElem?_cons_zero] at n0)
          have hvv : Hid (d.fVersion ≤ ci.fVersion + 1) := by show d.fVersion ≤ ci.fVersion + 1; rcases hvd with h | h <;> omega
          have hgo : ∃ e1 e2 : Bool, (d.fVersion != ci.fVersion) = e1 ∧ (e1 = true → e2 = false) ∧ (d.fVersion != ci.fVersion + 1) = e2 := by
            refine ⟨_, _, rfl, fun h => ?_, rfl⟩
            rcases hvd with h1 | h1
            · rw [h1] at h; simp at h
            · rw [h1]; simp
          clear hvd
          obtain ⟨e1, e2, t1, t2, t3⟩ := hgo
          cases e1 with
          | true =>
            obtain rfl := t2 rfl
            clear t2
            go_wp2_with fail
            clear t1 x0 n0
            (try clear t3)
            refine INNER _ g2 H ci d _ _ _ _ _ _ _ _ _ _ _ _ _ _ _ _ _ _ _ _ _ _ _ _ _ _ _ _ _ _ _ _ _ _ _ _ _ _ _ _ _ _ _ _ _ _ _ _ _ _ _ _ _ _ _ _ _ _ _ _ _ _ _ _ _ _ _ _ _ _ _ _ _ _ _ _ _ _ _ _ _ _ _ _ _ _ _ _ _ _ _ _ _ _ _ _ _ _ _ _ _ _ _ _ _ _ _ _ _ _ _ _ _ _ _ _ _ _ _ _ _ _ _ _ _ _ _ _ _ _ _ _ _ _ _ _ _ _ _ _ _ _ _ _ _ _ _ _ _ _ _ _ _ _ _ _ _ _ _ _ _ _ _ _ _ _ _ _ _ _ _ _ _ _ _ _ _ _ _ _ _ _ _ _ _ _ _ _ _ _ _ _ _ _ _ _ _ _ _ _ _ _ _ _ _ _ _ _ _ _ _ _ _ _ _ _ _ _ _ _ _ _ _ _ _ _ _ _ _ _ _ _ row0 rowN gc gn hsd _ (show Shut _ from fun u4 u9 u10 u11 u12 u139 u140 u141 u142 u143 u144 u145 u146 u147 u148 u149 u150 u151 u152 u153 u154 u155 u156 u157 u158 u159 u160 u161 u162 u163 u164 u165 u166 u167 u168 u169 u170 u171 u172 u173 u174 u175 u176 u177 u178 u179 u180 u181 u182 u183 u184 u185 u186 u187 u188 u189 u190 u191 u192 u193 u194 u195 u196 u197 u198 u199 u200 u201 u202 u203 u204 u205 u206 u207 u208 u209 u210 u211 u212 u213 u214 u215 u216 u217 u218 u219 u220 u221 u222 u223 u224 u225 u226 u227 u228 u229 u230 u231 w9 k9 => ?_)
            replace row0 := row0.keep k9 id
            replace rowN := rowN.keep k9 id
            replace gn := rGCatalog_lawful.nix gn k9
            replace kk := kk.trans k9
            have hz9 := Lib.hid k9.size
            clear k9
            have ldN := Whole.run (P := Try.prog) S_Catalog rfl rowN
            have hst := store_run (P := Try.prog) S_Catalog row0 rfl (rGCatalog_lawful.len gn) (rGCatalog_ones gn)
            have kG : Keep (· = g2) w9 (w9.setRow g2 ([.int .i64 d.fVersion, .int .i64 d.fNext, .slice bT d.fTables.length dT, .slice bX d.fIndexes.length dX] : List Value).toArray) := (Keep.refl (· = g2) w9).setRow (fun _ => rfl) _
            replace gn := rGCatalog_lawful.keep gn kG (fun b hb e => hb.2.1 e)
            replace kk := kk.then kG (fun i hi e => by omega)
            replace row0 := row0.setRow [.int .i64 d.fVersion, .int .i64 d.fNext, .slice bT d.fTables.length dT, .slice bX d.fIndexes.length dX]
            have hz10 := Lib.hid kG.size
            clear kG
            go_wp2_with fail
            clear hst ldN
            go_roundw
            case rel => exact ⟨k + 1, d, _, by omega, by omega, by go_num, hRd, by have := hvv.out; omega, row0, rGCatalog_lawful.mono gn (fun b hb => ⟨Nat.lt_of_lt_of_le hb.1 (Nat.le_trans hz7.out (Nat.le_trans hz9.out hz10.out)), hb.2.1⟩), kk⟩
            case measure => simp [intOf]; omega
          | false =>
            clear t2 t3
            go_wp2_with fail
            clear t1 x0 n0
            (try clear t3)
            refine INNER _ g2 H ci d _ _ _ _ _ _ _ _ _ _ _ _ _ _ _ _ _ _ _ _ _ _ _ _ _ _ _ _ _ _ _ _ _ _ _ _ _ _ _ _ _ _ _ _ _ _ _ _ _ _ _ _ _ _ _ _ _ _ _ _ _ _ _ _ _ _ _ _ _ _ _ _ _ _ _ _ _ _ _ _ _ _ _ _ _ _ _ _ _ _ _ _ _ _ _ _ _ _ _ _ _ _ _ _ _ _ _ _ _ _ _ _ _ _ _ _ _ _ _ _ _ _ _ _ _ _ _ _ _ _ _ _ _ _ _ _ _ _ _ _ _ _ _ _ _ _ _ _ _ _ _ _ _ _ _ _ _ _ _ _ _ _ _ _ _ _ _ _ _ _ _ _ _ _ _ _ _ _ _ _ _ _ _ _ _ _ _ _ _ _ _ _ _ _ _ _ _ _ _ _ _ _ _ _ _ _ _ _ _ _ _ _ _ _ _ _ _ _ _ _ _ _ _ _ _ _ _ _ _ _ _ _ row0 rowN gc gn hsd _ (show Shut _ from fun u4 u9 u10 u11 u12 u139 u140 u141 u142 u143 u144 u145 u146 u147 u148 u149 u150 u151 u152 u153 u154 u155 u156 u157 u158 u159 u160 u161 u162 u163 u164 u165 u166 u167 u168 u169 u170 u171 u172 u173 u174 u175 u176 u177 u178 u179 u180 u181 u182 u183 u184 u185 u186 u187 u188 u189 u190 u191 u192 u193 u194 u195 u196 u197 u198 u199 u200 u201 u202 u203 u204 u205 u206 u207 u208 u209 u210 u211 u212 u213 u214 u215 u216 u217 u218 u219 u220 u221 u222 u223 u224 u225 u226 u227 u228 u229 u230 u231 w9 k9 => ?_)
            replace row0 := row0.keep k9 id
            replace rowN := rowN.keep k9 id
            replace gn := rGCatalog_lawful.nix gn k9
            replace kk := kk.trans k9
            have hz9 := Lib.hid k9.size
            clear k9
            have ldN := Whole.run (P := Try.prog) S_Catalog rfl rowN
            have hst := store_run (P := Try.prog) S_Catalog row0 rfl (rGCatalog_lawful.len gn) (rGCatalog_ones gn)
            have kG : Keep (· = g2) w9 (w9.setRow g2 ([.int .i64 d.fVersion, .int .i64 d.fNext, .slice bT d.fTables.length dT, .slice bX d.fIndexes.length dX] : List Value).toArray) := (Keep.refl (· = g2) w9).setRow (fun _ => rfl) _
            replace gn := rGCatalog_lawful.keep gn kG (fun b hb e => hb.2.1 e)
            replace kk := kk.then kG (fun i hi e => by omega)
            replace row0 := row0.setRow [.int .i64 d.fVersion, .int .i64 d.fNext, .slice bT d.fTables.length dT, .slice bX d.fIndexes.length dX]
            have hz10 := Lib.hid kG.size
            clear kG
            go_wp2_with fail
            clear hst ldN
            go_roundw
            case rel => exact ⟨k + 1, d, _, by omega, by omega, by go_num, hRd, by have := hvv.out; omega, row0, rGCatalog_lawful.mono gn (fun b hb => ⟨Nat.lt_of_lt_of_le hb.1 (Nat.le_trans hz7.out (Nat.le_trans hz9.out hz10.out)), hb.2.1⟩), kk⟩
            case measure => simp [intOf]; omega
      · have h60' : (60 : Int) ≤ (k : Int) := by omega
        go_wp2_with fail
        exact hQ.out _ _ _ _ _ _ _ _ _ _ _ _ _ _ _ _ _ _ _ _ _ _ _ _ _ _ _ _ _ _ _ _ _ _ _ _ _ _ _ _ _ _ _ _ _ _ _ _ _ _ _ _ _ _ _ _ _ _ _ _ _ _ _ _ _ _ _ _ _ _ _ _ _ _ _ _ _ _ _ _ _ _ _ _ _ _ _ _ _ _ _ _ _ _ _ _ _ _ _ _ _ _ _ _ _ _ _ _ _ _ _ _ _ _ _ _ _ _ _ _ _ _ _ _ _ _ _ _ _ _ _ _ _ _ _ _ _ _ _ _ _ _ _ _ _ _ _ _ _ _ _ _ _ _ _ _ _ _ _ _ _ _ _ _ _ _ _ _ _ _ _ _ _ _ _ _ _ _ _ _ _ _ _ _ _ _ _ _ _ _ _ _ _ _ _ _ _ _ _ _ _ _ _ _ _ _ _ _ _ _ _ _ _ kk
    · go_wp2_with fail
      exact hQ.out _ _ _ _ _ _ _ _ _ _ _ _ _ _ _ _ _ _ _ _ _ _ _ _ _ _ _ _ _ _ _ _ _ _ _ _ _ _ _ _ _ _ _ _ _ _ _ _ _ _ _ _ _ _ _ _ _ _ _ _ _ _ _ _ _ _ _ _ _ _ _ _ _ _ _ _ _ _ _ _ _ _ _ _ _ _ _ _ _ _ _ _ _ _ _ _ _ _ _ _ _ _ _ _ _ _ _ _ _ _ _ _ _ _ _ _ _ _ _ _ _ _ _ _ _ _ _ _ _ _ _ _ _ _ _ _ _ _ _ _ _ _ _ _ _ _ _ _ _ _ _ _ _ _ _ _ _ _ _ _ _ _ _ _ _ _ _ _ _ _ _ _ _ _ _ _ _ _ _ _ _ _ _ _ _ _ _ _ _ _ _ _ _ _ _ _ _ _ _ _ _ _ _ _ _ _ _ _ _ _ _ _ _ kk
end
end schemaSides
end Go.Proofs.Ytfogbbnfedcldaa
