/- SCHEMA: awake; the law SchemaStates. Printed by mac.py. -/
import Derived.Test.YtfogbbnfedcldaaSchH
namespace Go.Proofs.Ytfogbbnfedcldaa
open Go.RowKit

def cat0 : GCatalog := ⟨0, 1, [], []⟩
def tab0 : GTable := ⟨0, [116], [⟨[97], 1, false⟩], [0]⟩
def cat1 : GCatalog := ⟨1, 2, [⟨1, [116], [⟨[97], 1, false⟩], [0]⟩], []⟩
section
attribute [local go_sem ↓] lsz_Column ldz_Catalog stz_Catalog
set_option maxRecDepth 100000 in
set_option maxHeartbeats 4000000 in
theorem swake_c (w : World) : Calls Try.prog 10 #[] w fun e w' => e = .returned (.bool true) ∧ Keep Nix w w' := by
  have hb25 : ∀ w', (Instr.build 25 #[(1, .int .i64 1)]).run Try.prog w' = .ok (.agg #[.int .i64 0, .int .i64 1, .slice none 0 0, .slice none 0 0]) w' := fun w' => by kernel_rfl
  have hb64 : ∀ w', (Instr.build 64 #[(0, .string { data := #[97] }), (1, .int .i64 1)]).run Try.prog w' = .ok (.agg #[.string { data := #[97] }, .int .i64 1, .bool false]) w' := fun w' => by kernel_rfl
  have hb33 : ∀ w', (Instr.build 33 #[(1, .string { data := #[116] }), (2, .slice (some ⟨w.heap.size, 0, none⟩) 1 1), (3, .slice (some ⟨w.heap.size + 1, 0, none⟩) 1 1)]).run Try.prog w' = .ok (.agg #[.int .i64 0, .string { data := #[116] }, .slice (some ⟨w.heap.size, 0, none⟩) 1 1, .slice (some ⟨w.heap.size + 1, 0, none⟩) 1 1]) w' := fun w' => by kernel_rfl
  have hls := list_run (P := Try.prog) T_lColumn (by decide) [.string { data := #[97] }, .int .i64 1, .bool false] rfl w
  have hY : addTableF cat0 tab0 = (cat1, 0) := by decide +kernel
  have hRt : rightB cat1 = true := by decide +kernel
  go_enter Try.func10, Try.ntmps10
  go_wp2_with fail
  clear hb25 hb64 hb33 hls
  have kk : Keep Nix w ((w.alloc (.cells #[.string { data := #[97] }, .int .i64 1, .bool false] 64)).alloc (.cells #[.int .i64 0] 3)) := ((Keep.refl Nix w).alloc _).alloc _
  have row0 : RowIs ((w.alloc (.cells #[.string { data := #[97] }, .int .i64 1, .bool false] 64)).alloc (.cells #[.int .i64 0] 3)) w.heap.size 64 [.string { data := #[97] }, .int .i64 1, .bool false] := (RowIs.alloc w _ _).keep ((Keep.refl Nix _).alloc _) id
  have row1 : RowIs ((w.alloc (.cells #[.string { data := #[97] }, .int .i64 1, .bool false] 64)).alloc (.cells #[.int .i64 0] 3)) (w.heap.size + 1) 3 [.int .i64 0] := RowIs.alloc_at _ _ (by simp) _ _
  generalize ((w.alloc (.cells #[.string { data := #[97] }, .int .i64 1, .bool false] 64)).alloc (.cells #[.int .i64 0] 3)) = w0 at *
  have hc : rGCatalog w0 (· < w0.heap.size) [.int .i64 0, .int .i64 1, .slice none 0 0, .slice none 0 0] cat0 :=
    rGCatalog_mk w0 _ (x := cat0) ⟨by decide, by decide⟩ ⟨by decide, by decide⟩ ⟨none, 0, [], rfl, rfl, Lies.nil _ _ _, Nat.le_refl _, by decide, fun i c x h => by simp at h⟩ ⟨none, 0, [], rfl, rfl, Lies.nil _ _ _, Nat.le_refl _, by decide, fun i c x h => by simp at h⟩
  have ht : rGTable w0 (· < w0.heap.size) [.int .i64 0, .string { data := #[116] }, .slice (some ⟨w.heap.size, 0, none⟩) 1 1, .slice (some ⟨w.heap.size + 1, 0, none⟩) 1 1] tab0 := by
    refine rGTable_mk w0 _ (x := tab0) ⟨by decide, by decide⟩ (by decide) ?_ ?_
    · refine ⟨_, _, [[.string { data := #[97] }, .int .i64 1, .bool false]], rfl, rfl, row0.lies _ row0.lt (fun j u hu => by simpa using hu), Nat.le_refl _, by decide, fun i c x h1 h2 => ?_⟩
      match i, h1, h2 with
      | 0, h1, h2 =>
        simp only [tab0, List.getElem?_cons_zero, Option.some.injEq] at h1 h2
        subst h1; subst h2
        exact rGColumn_mk w0 _ (x := ⟨[97], 1, false⟩) (by decide) ⟨by decide, by decide⟩
      | i + 1, h1, _ => simp at h1
    · refine ⟨_, _, [[.int .i64 0]], rfl, rfl, row1.lies _ row1.lt (fun j u hu => by simpa using hu), Nat.le_refl _, by decide, fun i c x h1 h2 => ?_⟩
      match i, h1, h2 with
      | 0, h1, h2 =>
        simp only [tab0, List.getElem?_cons_zero, Option.some.injEq] at h1 h2
        subst h1; subst h2
        exact ⟨rfl, by decide⟩
      | i + 1, h1, _ => simp at h1
  have hs0 : smallC cat0 := ⟨(fun t ht => nomatch ht), (fun x hx => nomatch hx), by decide, by decide⟩
  have HA := sAddTable_c cat0 _ tab0 _ w0 hc ht hs0 (by decide) (fun _ h => h)
  rw [hY] at HA
  go_fit HA
  rintro e w1 ⟨cs, rfl, hR, -, k1⟩
  obtain ⟨aT, cT, aX, cX, hcs, -, -, -, -, -⟩ := rGCatalog_open hR
  replace hcs : cs = [.int .i64 1, .int .i64 2, .slice aT 1 cT, .slice aX 0 cX] := hcs
  subst hcs
  have hst := store_run (P := Try.prog) (cs := [.int .i64 1, .int .i64 2, .slice aT 1 cT, .slice aX 0 cX]) S_Catalog (RowIs.alloc w1 #[.int .i64 0, .int .i64 0, .slice none 0 0, .slice none 0 0] 25) rfl rfl rfl
  have row := (RowIs.alloc w1 #[.int .i64 0, .int .i64 0, .slice none 0 0, .slice none 0 0] 25).setRow [.int .i64 1, .int .i64 2, .slice aT 1 cT, .slice aX 0 cX]
  have k2 : Keep Nix w1 ((w1.alloc (.cells #[.int .i64 0, .int .i64 0, .slice none 0 0, .slice none 0 0] 25)).setRow w1.heap.size ([.int .i64 1, .int .i64 2, .slice aT 1 cT, .slice aX 0 cX] : List Value).toArray) := ((Keep.refl Nix w1).alloc _).setRow (fun h => absurd h (Nat.lt_irrefl _)) _
  have kk2 := (kk.trans k1).trans k2
  have hR2 := rGCatalog_lawful.mono (rGCatalog_lawful.nix hR k2) (q := (· < ((w1.alloc (.cells #[.int .i64 0, .int .i64 0, .slice none 0 0, .slice none 0 0] 25)).setRow w1.heap.size ([.int .i64 1, .int .i64 2, .slice aT 1 cT, .slice aX 0 cX] : List Value).toArray).heap.size)) (fun b hb => Nat.lt_of_lt_of_le hb.2 k2.size)
  have ldw := Whole.row (P := Try.prog) (T := 25) S_Catalog rfl row
  unfold Whole at ldw
  have x0 := row.cell 0
  (try simp only [List.getElem?_cons_succ] at x0); (try simp only [List.getElem?_cons_zero] at x0)
  have x2 := row.cell 2
  (try simp only [List.getElem?_cons_succ] at x2); (try simp only [List.getElem?_cons_zero] at x2)
  clear HA hR k1 k2 hc ht row0 row1 hs0
  have HR2 := Lib.hid hR2
  clear hR2
  go_wp2_with fail
  clear hst ldw x0 x2
  have HC := sRight_c cat1 _ _ HR2.out (fun _ h => h)
  rw [hRt] at HC
  go_fit HC
  rintro e w3 ⟨rfl, k3⟩
  go_wp2_with fail
  go_ret
  exact ⟨rfl, kk2.trans k3⟩
end
end Go.Proofs.Ytfogbbnfedcldaa
