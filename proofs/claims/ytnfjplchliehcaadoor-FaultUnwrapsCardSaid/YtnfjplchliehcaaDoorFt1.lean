/- FAULTS: what an error is, the writers of faults, what they say. Printed by mac.py. -/
import Derived.Test.YtnfjplchliehcaaDoorLst
import Derived.LaidEql
import Derived.Stop.Asserts
import Derived.RowKitTokens
import Derived.Laws.Concat
namespace Go.Proofs.YtnfjplchliehcaaDoor
open Go.RowKit Go.Extern.Stop Go.Stop Go.Extern

/-- An error: a number, another one, or a fault around one. -/
inductive Er where
  | code (c : Int)
  | other (s : List UInt8)
  | fault (wh : List UInt8) (c : Er)
def nameL : List (List UInt8) := [[111, 107], [97, 114, 103, 117, 109, 101, 110, 116], [110, 105, 108], [100, 111, 119, 110], [102, 117, 108, 108], [110, 111, 110, 101], [116, 119, 105, 99, 101], [115, 116, 97, 116, 101], [115, 104, 111, 114, 116], [102, 111, 114, 109], [108, 111, 110, 103], [98, 97, 100], [108, 111, 99, 107, 101, 100], [99, 104, 97, 110, 103, 101, 100], [114, 97, 110, 103, 101], [101, 112, 111, 99, 104], [97, 98, 111, 114, 116, 101, 100], [117, 110, 105, 113, 117, 101], [110, 111, 32, 105, 110, 100, 101, 120], [108, 101, 97, 100, 101, 114], [119, 97, 105, 116], [118, 101, 114, 115, 105, 111, 110]]
def nameS (c : Int) : List UInt8 := if 0 ≤ c ∧ c < 22 then nameL.getD c.toNat [] else [117, 110, 107, 110, 111, 119, 110]
theorem nameS_len (c : Int) : (nameS c).length ≤ 8 := by
  unfold nameS
  split
  · rename_i h
    obtain ⟨k, rfl⟩ : ∃ k : Nat, c = k := ⟨c.toNat, by omega⟩
    have h2 : k < 22 := by omega
    rw [Int.toNat_natCast]
    clear h
    revert h2
    revert k
    decide
  · decide
def Er.depth : Er → Nat
  | .fault _ c => c.depth + 1
  | _ => 0
def Er.text : Er → List UInt8
  | .code c => nameS c
  | .other s => s
  | .fault wh c => wh ++ 58 :: 32 :: c.text
def Er.codeOf : Er → Int
  | .code c => c
  | .other _ => 11
  | .fault _ c => c.codeOf
def Er.isCode : Er → Bool
  | .code _ => true
  | .other _ => false
  | .fault _ c => c.isCode
def Er.whs : Er → List (List UInt8)
  | .fault wh c => wh :: c.whs
  | _ => []
def IsEr (w : World) : Er → Value → Prop
  | .code c, v => v = .iface 22 (.int .i64 c)
  | .other s, v => ∃ b, v = .iface 68 (.pointer (some ⟨b, 0, none⟩)) ∧ RowIs w b 70 [.string (strB s)]
  | .fault wh c, v => ∃ b vc, v = .iface 29 (.pointer (some ⟨b, 0, none⟩)) ∧ RowIs w b 54 [.string (strB wh), vc] ∧ IsEr w c vc
theorem IsEr.keep {w w' : World} : ∀ {E : Er} {v : Value}, IsEr w E v → Keep Nix w w' → IsEr w' E v
  | .code _, _, h, _ => h
  | .other _, _, ⟨b, h1, h2⟩, k => ⟨b, h1, h2.keep k id⟩
  | .fault _ _, _, ⟨b, vc, h1, h2, h3⟩, k => ⟨b, vc, h1, h2.keep k id, h3.keep k⟩
theorem IsEr.iface {w : World} : ∀ {E : Er} {v : Value}, IsEr w E v → ∃ T x, v = .iface T x
  | .code _, _, h => ⟨_, _, h⟩
  | .other _, _, ⟨_, h, _⟩ => ⟨_, _, h⟩
  | .fault _ _, _, ⟨_, _, h, _, _⟩ => ⟨_, _, h⟩
theorem RowIs.det {w : World} {b t : Nat} {cs ds : List Value} (h : RowIs w b t cs) (k : RowIs w b t ds) : cs = ds := by
  unfold RowIs at h k
  rw [h] at k
  simpa using k
theorem IsEr.det {w : World} : ∀ {E E' : Er} {v : Value}, IsEr w E v → IsEr w E' v → E = E'
  | .code _, .code _, _, h, h' => by rw [show _ = _ from h] at h'; have := (show _ = _ from h'); simp at this; rw [this]
  | .code _, .other _, _, h, ⟨_, h', _⟩ => by rw [show _ = _ from h] at h'; simp at h'
  | .code _, .fault _ _, _, h, ⟨_, _, h', _⟩ => by rw [show _ = _ from h] at h'; simp at h'
  | .other _, .code _, _, ⟨_, h, _⟩, h' => by rw [h] at h'; have := (show _ = _ from h'); simp at this
  | .other _, .other _, _, ⟨b, h, r⟩, ⟨b', h', r'⟩ => by
    rw [h] at h'; simp at h'; subst h'
    have := r.det r'; simp [strB] at this; rw [this]
  | .other _, .fault _ _, _, ⟨_, h, _⟩, ⟨_, _, h', _⟩ => by rw [h] at h'; simp at h'
  | .fault _ _, .code _, _, ⟨_, _, h, _⟩, h' => by rw [h] at h'; have := (show _ = _ from h'); simp at this
  | .fault _ _, .other _, _, ⟨_, _, h, _⟩, ⟨_, h', _⟩ => by rw [h] at h'; simp at h'
  | .fault _ c, .fault _ c', _, ⟨b, vc, h, r, q⟩, ⟨b', vc', h', r', q'⟩ => by
    rw [h] at h'; simp at h'; subst h'
    have := r.det r'; simp [strB] at this
    obtain ⟨e1, e2⟩ := this
    subst e1; subst e2
    rw [q.det q']
open Classical in
noncomputable def depV (w : World) (v : Value) : Nat := if h : ∃ E, IsEr w E v then h.choose.depth else 0
theorem depV_eq {w : World} {E : Er} {v : Value} (h : IsEr w E v) : depV w v = E.depth := by
  have hx : ∃ E, IsEr w E v := ⟨E, h⟩
  unfold depV
  rw [dif_pos hx, (hx.choose_spec).det h]
theorem addS {P : Program} (a b : List UInt8) (h : a.length + b.length ≤ 9223372036854775807) (w : World) : (Op.stringOp .add (strB a) (strB b)).run P w = .ok (.string (strB (a ++ b))) w := by
  rw [run_string_add_sum w _ _ (by rw [strB_size, strB_size]; exact h)]
  unfold strB
  rw [ByteArray.mk_append_mk]

theorem wrap_nil (wh : List UInt8) (w : World) : Calls Tryd.prog 10 #[.nilIface, .string (strB wh)] w fun e w' => e = .returned .nilIface ∧ w = w' := by
  go_enter Tryd.func10, Tryd.ntmps10
  go_wp2
  go_ret
  exact ⟨rfl, rfl⟩
theorem wrap_c (E : Er) (v : Value) (wh : List UInt8) (w : World) (h : IsEr w E v) : Calls Tryd.prog 10 #[v, .string (strB wh)] w fun e w' => ∃ b, e = .returned (.iface 29 (.pointer (some ⟨b, 0, none⟩))) ∧ b = w.heap.size ∧ RowIs w' b 54 [.string (strB wh), v] ∧ IsEr w' (.fault wh E) (.iface 29 (.pointer (some ⟨b, 0, none⟩))) ∧ Keep Nix w w' := by
  obtain ⟨T, x, rfl⟩ := h.iface
  have row := RowIs.alloc w #[.string (strB wh), .iface T x] 54
  have kk : Keep Nix w (w.alloc (.cells #[.string (strB wh), .iface T x] 54)) := (Keep.refl Nix w).alloc _
  have hh := h.keep kk
  clear h
  go_enter Tryd.func10, Tryd.ntmps10
  go_wp2
  go_ret
  exact ⟨_, rfl, rfl, row, ⟨_, _, rfl, row, hh⟩, kk⟩
theorem newf_no (wh : List UInt8) (w : World) : Calls Tryd.prog 9 #[.int .i64 0, .string (strB wh)] w fun e w' => e = .returned .nilIface ∧ w = w' := by
  go_enter Tryd.func9, Tryd.ntmps9
  go_wp2
  go_ret
  exact ⟨rfl, rfl⟩
theorem newf_c (c : Int) (hc : c ≠ 0) (wh : List UInt8) (w : World) : Calls Tryd.prog 9 #[.int .i64 c, .string (strB wh)] w fun e w' => ∃ b, e = .returned (.iface 29 (.pointer (some ⟨b, 0, none⟩))) ∧ b = w.heap.size ∧ RowIs w' b 54 [.string (strB wh), .iface 22 (.int .i64 c)] ∧ IsEr w' (.fault wh (.code c)) (.iface 29 (.pointer (some ⟨b, 0, none⟩))) ∧ Keep Nix w w' := by
  have row := RowIs.alloc w #[.string (strB wh), .iface 22 (.int .i64 c)] 54
  have kk : Keep Nix w (w.alloc (.cells #[.string (strB wh), .iface 22 (.int .i64 c)] 54)) := (Keep.refl Nix w).alloc _
  go_enter Tryd.func9, Tryd.ntmps9
  go_wp2
  go_ret
  exact ⟨_, rfl, rfl, row, ⟨_, _, rfl, row, rfl⟩, kk⟩
theorem newo_c (s : List UInt8) (w : World) : Calls Tryd.prog 13 #[.string (strB s)] w fun e w' => ∃ b, e = .returned (.iface 68 (.pointer (some ⟨b, 0, none⟩))) ∧ IsEr w' (.other s) (.iface 68 (.pointer (some ⟨b, 0, none⟩))) ∧ Keep Nix w w' := by
  have row := RowIs.alloc w #[.string (strB s)] 70
  have kk : Keep Nix w (w.alloc (.cells #[.string (strB s)] 70)) := (Keep.refl Nix w).alloc _
  go_enter Tryd.func13, Tryd.ntmps13
  go_wp2
  go_ret
  exact ⟨_, rfl, ⟨_, rfl, row⟩, kk⟩
theorem unwrap_c (b : Nat) (vs vc : Value) (w : World) (row : RowIs w b 54 [vs, vc]) : Calls Tryd.prog 14 #[.pointer (some ⟨b, 0, none⟩)] w fun e w' => e = .returned vc ∧ w = w' := by
  have x1 := row.cell 1
  (try simp only [List.getElem?_cons_succ] at x1); (try simp only [List.getElem?_cons_zero] at x1)
  go_enter Tryd.func14, Tryd.ntmps14
  go_wp2
  go_ret
  exact ⟨rfl, rfl⟩
theorem unwrapF_nil (w : World) : Calls Tryd.prog 14 #[.pointer none] w fun e w' => e = .returned .nilIface ∧ w = w' := by
  go_enter Tryd.func14, Tryd.ntmps14
  go_wp2
  go_ret
  exact ⟨rfl, rfl⟩
theorem errorF_nil (w : World) : Calls Tryd.prog 23 #[.pointer none] w fun e w' => e = .returned (.string ⟨#[]⟩) ∧ w = w' := by
  go_enter Tryd.func23, Tryd.ntmps23
  go_wp2
  go_ret
  exact ⟨rfl, rfl⟩
theorem errorS_c (b : Nat) (s : List UInt8) (w : World) (row : RowIs w b 70 [.string (strB s)]) : Calls Tryd.prog 56 #[.pointer (some ⟨b, 0, none⟩)] w fun e w' => e = .returned (.string (strB s)) ∧ w = w' := by
  have x0 := row.cell 0
  (try simp only [List.getElem?_cons_succ] at x0); (try simp only [List.getElem?_cons_zero] at x0)
  go_enter Tryd.func56, Tryd.ntmps56
  go_wp2
  go_ret
  exact ⟨rfl, rfl⟩
end Go.Proofs.YtnfjplchliehcaaDoor
