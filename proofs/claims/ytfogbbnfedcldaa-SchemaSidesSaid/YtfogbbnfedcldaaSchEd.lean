/- SCHEMA: the law SchemaSides. Printed by mac.py. -/
import Derived.Test.YtfogbbnfedcldaaSchEc
namespace Go.Proofs.Ytfogbbnfedcldaa
open Go.RowKit

theorem cat0_r (w : World) (p : Nat → Prop) : rGCatalog w p [.int .i64 0, .int .i64 1, .slice none 0 0, .slice none 0 0] cat0 := rGCatalog_mk w p (x := cat0) (aTables := none) (aIndexes := none) (cTables := 0) (cIndexes := 0) ⟨by decide, by decide⟩ ⟨by decide, by decide⟩ (rList_nil _ _ _ _) (rList_nil _ _ _ _)
namespace schemaSides
section
attribute [local go_sem ↓] ldz_Catalog stz_Catalog
set_option maxRecDepth 100000 in
set_option maxHeartbeats 16000000 in
theorem walk' (W : World) (c : GCatalog) (csc : List Value) (aS : Option Addr) (cS : Nat) (S : List GOp) (hc : rGCatalog W (· < W.heap.size) csc c) (hS : rList rGOp W (· < W.heap.size) [.slice aS S.length cS] S) (hSb : ∀ k (h : k < S.length), S[k].fX.fColumns.length * 8 ≤ 140737488355328) :
    Calls Try.prog 8 #[.agg csc.toArray, .slice aS S.length cS] W fun e w' => e = .returned (.bool true) ∧ Keep Nix W w' := by
  have row0 : RowIs (W.alloc (.cells csc.toArray 25)) W.heap.size 25 csc := by have := RowIs.alloc W csc.toArray 25; simpa using this
  have kk : Keep Nix W (W.alloc (.cells csc.toArray 25)) := (Keep.refl Nix W).alloc _
  have gc : rGCatalog (W.alloc (.cells csc.toArray 25)) (· < W.heap.size) csc c := rGCatalog_lawful.nix hc kk
  obtain ⟨hlc, -⟩ := cat_facts hc
  obtain ⟨aT, cT, aX, cX, rfl, -⟩ := rGCatalog_open hc
  clear hc
  obtain ⟨sb, HSB⟩ : ∃ b, Hid (decide (Small c) = b) := ⟨_, rfl⟩
  obtain ⟨rb, HRB⟩ : ∃ b, Hid (rightB c = b) := ⟨_, rfl⟩
  go_enter Try.func8, Try.ntmps8
  go_wp2_with fail
  go_fit (swake_c _)
  rintro e w1 ⟨rfl, k1⟩
  (try replace row0 := row0.keep k1 id)
  (try replace gc := rGCatalog_lawful.nix gc k1)
  replace kk := kk.trans k1
  clear k1
  have ld0 := Whole.run (P := Try.prog) S_Catalog rfl row0
  go_wp2_with fail
  clear ld0
  have HC := small_c c _ _ gc
  rw [HSB.out] at HC
  have HCC := Lib.hid HC
  clear HC
  go_fit HCC.out
  rintro e w2 ⟨rfl, k2⟩
  (try replace row0 := row0.keep k2 id)
  (try replace gc := rGCatalog_lawful.nix gc k2)
  replace kk := kk.trans k2
  clear k2 HCC
  cases sb with
  | false =>
    go_wp2_with fail
    go_fit (swake_c _)
    rintro e w3 ⟨rfl, k3⟩
    go_wp2_with fail
    go_ret
    exact ⟨rfl, kk.trans k3⟩
  | true =>
  have ld0 := Whole.run (P := Try.prog) S_Catalog rfl row0
  go_wp2_with fail
  clear ld0
  have HC := rRight_c c _ _ gc (fun b hb => Nat.lt_of_lt_of_le hb kk.size)
  rw [HRB.out] at HC
  have HCC := Lib.hid HC
  clear HC
  go_fit HCC.out
  rintro e w4 ⟨rfl, k4⟩
  (try replace row0 := row0.keep k4 id)
  (try replace gc := rGCatalog_lawful.nix gc k4)
  replace kk := kk.trans k4
  clear k4 HCC
  have hb1 : ∀ w', (Instr.build 25 #[(1, .int .i64 1)]).run Try.prog w' = .ok (.agg #[.int .i64 0, .int .i64 1, .slice none 0 0, .slice none 0 0]) w' := fun w' => by kernel_rfl
  cases rb with
  | false =>
    have hst := store_run (P := Try.prog) (cs := [.int .i64 0, .int .i64 1, .slice none 0 0, .slice none 0 0]) S_Catalog row0 rfl rfl rfl
    replace row0 := row0.setRow [.int .i64 0, .int .i64 1, .slice none 0 0, .slice none 0 0]
    replace kk : Keep Nix W (w4.setRow W.heap.size ([.int .i64 0, .int .i64 1, .slice none 0 0, .slice none 0 0] : List Value).toArray) := kk.setRow (fun h => absurd h (Nat.lt_irrefl _)) _
    clear gc
    go_wp2_with fail
    refine LOOP W _ W.heap.size cat0 _ aS cS S _ _ _ _ _ _ _ _ _ _ _ _ _ _ _ _ _ _ _ _ _ _ _ _ _ _ _ _ _ _ _ _ _ _ _ _ _ _ _ _ _ _ _ _ _ _ _ _ _ _ _ _ _ _ _ _ _ _ _ _ _ _ _ _ _ _ _ _ _ _ _ _ _ _ _ _ _ _ _ _ _ _ _ _ _ _ _ _ _ _ _ _ _ _ _ _ _ _ _ _ _ _ _ _ _ _ _ _ _ _ _ _ _ _ _ _ _ _ _ _ _ _ _ _ _ _ _ _ _ _ _ _ _ _ _ _ _ _ _ _ _ _ _ _ _ _ _ _ _ _ _ _ _ _ _ _ _ _ _ _ _ _ _ _ _ _ _ _ _ _ _ _ _ _ _ _ _ _ _ _ _ _ _ _ _ _ _ _ _ _ _ _ _ _ _ _ _ _ _ _ _ _ _ _ _ _ _ _ _ _ _ _ _ _ _ _ _ _ _ _ _ _ _ _ _ _ _ _ _ _ row0 (Nat.le_refl _) (cat0_r _ _) (Lib.hid right_cat0) (by decide) kk hS hSb _ (show Shut _ from fun u4 u5 u6 u7 u8 u9 u10 u11 u12 u30 u31 u32 u33 u34 u35 u36 u37 u38 u39 u40 u41 u42 u43 u44 u45 u46 u47 u48 u49 u50 u51 u52 u53 u54 u55 u56 u57 u58 u59 u60 u61 u62 u63 u64 u65 u66 u67 u68 u69 u70 u71 u72 u73 u74 u75 u76 u77 u78 u79 u80 u81 u82 u83 u84 u85 u86 u87 u88 u89 u90 u91 u92 u93 u94 u95 u96 u97 u98 u99 u100 u101 u102 u103 u104 u105 u106 u107 u108 u109 u110 u111 u112 u113 u114 u115 u116 u117 u118 u119 u120 u121 u122 u123 u124 u125 u126 u127 u128 u129 u130 u131 u132 u133 u134 u135 u136 u137 u138 u139 u140 u141 u142 u143 u144 u145 u146 u147 u148 u149 u150 u151 u152 u153 u154 u155 u156 u157 u158 u159 u160 u161 u162 u163 u164 u165 u166 u167 u168 u169 u170 u171 u172 u173 u174 u175 u176 u177 u178 u179 u180 u181 u182 u183 u184 u185 u186 u187 u188 u189 u190 u191 u192 u193 u194 u195 u196 u197 u198 u199 u200 u201 u202 u203 u204 u205 u206 u207 u208 u209 u210 u211 u212 u213 u214 u215 u216 u217 u218 u219 u220 u221 u222 u223 u224 u225 u226 u227 u228 u229 u230 u231 u232 wz kz => ?_)
    go_wp2_with fail
    go_ret
    exact ⟨rfl, kz⟩
  | true =>
    rcases Int.lt_or_le 1099511627776 c.fVersion with hv | hv
    · have hst := store_run (P := Try.prog) (cs := [.int .i64 0, .int .i64 1, .slice none 0 0, .slice none 0 0]) S_Catalog row0 rfl rfl rfl
      have x0 := row0.cell 0
      (try simp only [List.getElem?_cons_succ] at x0); (try simp only [List.getElem?_cons_zero] at x0)
      replace row0 := row0.setRow [.int .i64 0, .int .i64 1, .slice none 0 0, .slice none 0 0]
      replace kk : Keep Nix W (w4.setRow W.heap.size ([.int .i64 0, .int .i64 1, .slice none 0 0, .slice none 0 0] : List Value).toArray) := kk.setRow (fun h => absurd h (Nat.lt_irrefl _)) _
      clear gc
      go_wp2_with fail
      refine LOOP W _ W.heap.size cat0 _ aS cS S _ _ _ _ _ _ _ _ _ _ _ _ _ _ _ _ _ _ _ _ _ _ _ _ _ _ _ _ _ _ _ _ _ _ _ _ _ _ _ _ _ _ _ _ _ _ _ _ _ _ _ _ _ _ _ _ _ _ _ _ _ _ _ _ _ _ _ _ _ _ _ _ _ _ _ _ _ _ _ _ _ _ _ _ _ _ _ _ _ _ _ _ _ _ _ _ _ _ _ _ _ _ _ _ _ _ _ _ _ _ _ _ _ _ _ _ _ _ _ _ _ _ _ _ _ _ _ _ _ _ _ _ _ _ _ _ _ _ _ _ _ _ _ _ _ _ _ _ _ _ _ _ _ _ _ _ _ _ _ _ _ _ _ _ _ _ _ _ _ _ _ _ _ _ _ _ _ _ _ _ _ _ _ _ _ _ _ _ _ _ _ _ _ _ _ _ _ _ _ _ _ _ _ _ _ _ _ _ _ _ _ _ _ _ _ _ _ _ _ _ _ _ _ _ _ _ _ _ _ _ row0 (Nat.le_refl _) (cat0_r _ _) (Lib.hid right_cat0) (by decide) kk hS hSb _ (show Shut _ from fun u4 u5 u6 u7 u8 u9 u10 u11 u12 u30 u31 u32 u33 u34 u35 u36 u37 u38 u39 u40 u41 u42 u43 u44 u45 u46 u47 u48 u49 u50 u51 u52 u53 u54 u55 u56 u57 u58 u59 u60 u61 u62 u63 u64 u65 u66 u67 u68 u69 u70 u71 u72 u73 u74 u75 u76 u77 u78 u79 u80 u81 u82 u83 u84 u85 u86 u87 u88 u89 u90 u91 u92 u93 u94 u95 u96 u97 u98 u99 u100 u101 u102 u103 u104 u105 u106 u107 u108 u109 u110 u111 u112 u113 u114 u115 u116 u117 u118 u119 u120 u121 u122 u123 u124 u125 u126 u127 u128 u129 u130 u131 u132 u133 u134 u135 u136 u137 u138 u139 u140 u141 u142 u143 u144 u145 u146 u147 u148 u149 u150 u151 u152 u153 u154 u155 u156 u157 u158 u159 u160 u161 u162 u163 u164 u165 u166 u167 u168 u169 u170 u171 u172 u173 u174 u175 u176 u177 u178 u179 u180 u181 u182 u183 u184 u185 u186 u187 u188 u189 u190 u191 u192 u193 u194 u195 u196 u197 u198 u199 u200 u201 u202 u203 u204 u205 u206 u207 u208 u209 u210 u211 u212 u213 u214 u215 u216 u217 u218 u219 u220 u221 u222 u223 u224 u225 u226 u227 u228 u229 u230 u231 u232 wz kz => ?_)
      go_wp2_with fail
      go_ret
      exact ⟨rfl, kz⟩
    · have x0 := row0.cell 0
      (try simp only [List.getElem?_cons_succ] at x0); (try simp only [List.getElem?_cons_zero] at x0)
      have hR := Lib.hid (rightB_iff.1 HRB.out)
      go_wp2_with fail
      refine LOOP W _ W.heap.size c _ aS cS S _ _ _ _ _ _ _ _ _ _ _ _ _ _ _ _ _ _ _ _ _ _ _ _ _ _ _ _ _ _ _ _ _ _ _ _ _ _ _ _ _ _ _ _ _ _ _ _ _ _ _ _ _ _ _ _ _ _ _ _ _ _ _ _ _ _ _ _ _ _ _ _ _ _ _ _ _ _ _ _ _ _ _ _ _ _ _ _ _ _ _ _ _ _ _ _ _ _ _ _ _ _ _ _ _ _ _ _ _ _ _ _ _ _ _ _ _ _ _ _ _ _ _ _ _ _ _ _ _ _ _ _ _ _ _ _ _ _ _ _ _ _ _ _ _ _ _ _ _ _ _ _ _ _ _ _ _ _ _ _ _ _ _ _ _ _ _ _ _ _ _ _ _ _ _ _ _ _ _ _ _ _ _ _ _ _ _ _ _ _ _ _ _ _ _ _ _ _ _ _ _ _ _ _ _ _ _ _ _ _ _ _ _ _ _ _ _ _ _ _ _ _ _ _ _ _ _ _ _ _ row0 (Nat.le_refl _) (rGCatalog_lawful.mono gc (fun b hb => ⟨Nat.lt_of_lt_of_le hb kk.size, Nat.ne_of_lt hb⟩)) hR hv kk hS hSb _ (show Shut _ from fun u4 u5 u6 u7 u8 u9 u10 u11 u12 u30 u31 u32 u33 u34 u35 u36 u37 u38 u39 u40 u41 u42 u43 u44 u45 u46 u47 u48 u49 u50 u51 u52 u53 u54 u55 u56 u57 u58 u59 u60 u61 u62 u63 u64 u65 u66 u67 u68 u69 u70 u71 u72 u73 u74 u75 u76 u77 u78 u79 u80 u81 u82 u83 u84 u85 u86 u87 u88 u89 u90 u91 u92 u93 u94 u95 u96 u97 u98 u99 u100 u101 u102 u103 u104 u105 u106 u107 u108 u109 u110 u111 u112 u113 u114 u115 u116 u117 u118 u119 u120 u121 u122 u123 u124 u125 u126 u127 u128 u129 u130 u131 u132 u133 u134 u135 u136 u137 u138 u139 u140 u141 u142 u143 u144 u145 u146 u147 u148 u149 u150 u151 u152 u153 u154 u155 u156 u157 u158 u159 u160 u161 u162 u163 u164 u165 u166 u167 u168 u169 u170 u171 u172 u173 u174 u175 u176 u177 u178 u179 u180 u181 u182 u183 u184 u185 u186 u187 u188 u189 u190 u191 u192 u193 u194 u195 u196 u197 u198 u199 u200 u201 u202 u203 u204 u205 u206 u207 u208 u209 u210 u211 u212 u213 u214 u215 u216 u217 u218 u219 u220 u221 u222 u223 u224 u225 u226 u227 u228 u229 u230 u231 u232 wz kz => ?_)
      go_wp2_with fail
      go_ret
      exact ⟨rfl, kz⟩
end
def rGOpB : RD GOp := fun w p cs x => rGOp w p cs x ∧ x.fX.fColumns.length * 8 ≤ 140737488355328
theorem redGOpB {W : World} {m : Nat} {cs : List Value} (h : Red Try.prog W m 57 cs) : ∃ x, rGOpB W (· < W.heap.size) cs x ∧ x.size ≤ m := by
  obtain ⟨x, g, s⟩ := redGOp h
  refine ⟨x, ⟨g, ?_⟩, s⟩
  obtain ⟨aTC, cTC, aTK, cTK, aXC, cXC, rfl, -⟩ := rGOp_open g
  have h1 := (h.struct Try.underlying57 (sz := 17) (by kernel_rfl)).2 2 _ rfl
  have h2 := (h1.struct Try.underlying37 (sz := 7) (by kernel_rfl)).2 3 _ rfl
  have h3 : Red Try.prog W m 31 [.slice aXC x.fX.fColumns.length cXC] := h2
  obtain ⟨a, n, cap, css, ms, e, -, -, -, hn, -, hb, -⟩ := h3.slice (sz := 1) (by' := 8) Try.underlying31 (by kernel_rfl) (by kernel_rfl) (by decide)
  simp only [List.cons.injEq, Value.slice.injEq, and_true] at e
  obtain ⟨-, rfl, -⟩ := e
  have hr : cap * 8 ≤ 140737488351232 := hb
  omega
theorem walk {m0 m1 : Nat} (W : World) (v0 v1 : Value) (h0 : Arg Try.prog W m0 25 v0) (h1 : Arg Try.prog W m1 55 v1) :
    Calls Try.prog 8 #[v0, v1] W fun e w' => e = .returned (.bool true) ∧ Keep Nix W w' := by
  obtain ⟨cs0, rfl, r0⟩ := h0.struct Try.underlying25
  obtain ⟨a, n, cap, rfl, r1⟩ := h1.slice Try.underlying55
  obtain ⟨c, g0, -⟩ := redGCatalog r0
  obtain ⟨S, g1, -⟩ := Red.toList (sz := 17) (by' := 208) GOp.size Try.underlying55 (by kernel_rfl) (by kernel_rfl) (by decide) (by decide) (fun h => redGOpB h) r1
  obtain ⟨a', cap', css, e, q1, q2, q3, q4, q5⟩ := g1
  simp only [List.cons.injEq, Value.slice.injEq, and_true] at e
  obtain ⟨rfl, rfl, rfl⟩ := e
  exact walk' W c cs0 a cap S g0 ⟨a, cap, css, rfl, q1, q2, q3, q4, fun i c x hc hx => (q5 i c x hc hx).1⟩ (fun k hk => (q5 k (css[k]'(by omega)) S[k] (List.getElem?_eq_getElem _) (List.getElem?_eq_getElem hk)).2)
end schemaSides
end Go.Proofs.Ytfogbbnfedcldaa
