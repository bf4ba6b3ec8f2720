/- FAULTS: fault.Where; what a chain says. Printed by mac.py. -/
import Derived.Test.YtnfjplchliehcaaDoorFt8
namespace Go.Proofs.YtnfjplchliehcaaDoor
open Go.RowKit Go.Extern.Stop Go.Stop Go.Extern

def strV (l : List UInt8) : Value := .string (strB l)
theorem T_strs : SliceT Tryd.prog 23 9 1 16 := SliceT.mk' Tryd.underlying23 (z := .string ⟨#[]⟩) (by kernel_rfl) rfl (by decide)
def Er.tail : Er → List UInt8
  | .code c => nameS c
  | .other s => s
  | .fault _ c => c.tail
def joinT (ws : List (List UInt8)) (t : List UInt8) : List UInt8 := ws.foldr (fun w r => w ++ 58 :: 32 :: r) t
theorem text_join : ∀ E : Er, E.text = joinT E.whs E.tail
  | .code _ => rfl
  | .other _ => rfl
  | .fault wh c => by
    show wh ++ 58 :: 32 :: c.text = wh ++ 58 :: 32 :: joinT c.whs c.tail
    rw [text_join c]
theorem join_len : ∀ (ws : List (List UInt8)) (t : List UInt8), (∀ x ∈ ws, x.length ≤ far) → (joinT ws t).length ≤ ws.length * (far + 2) + t.length
  | [], t, _ => by simp [joinT]
  | x :: ws, t, h => by
    have h1 := h x (by simp)
    have h2 := join_len ws t (fun y hy => h y (List.mem_cons_of_mem _ hy))
    have e : (joinT (x :: ws) t).length = x.length + 2 + (joinT ws t).length := by
      show (x ++ 58 :: 32 :: joinT ws t).length = _
      simp; omega
    rw [e, List.length_cons, Nat.add_mul]; omega
/-- An error, or none. -/
def IsErO (w : World) : Option Er → Value → Prop
  | none, v => v = .nilIface
  | some E, v => IsEr w E v
def whsO : Option Er → List (List UInt8)
  | none => []
  | some E => E.whs
theorem IsErO.keep {w w' : World} {o : Option Er} {v : Value} (h : IsErO w o v) (k : Keep Nix w w') : IsErO w' o v := by
  cases o with
  | none => exact h
  | some E => exact IsEr.keep h k
open Classical in
noncomputable def depO (w : World) (v : Value) : Nat := if v = .nilIface then 0 else depV w v + 1
theorem depO_nil (w : World) : depO w .nilIface = 0 := if_pos rfl
theorem depO_er {w : World} {E : Er} {v : Value} (h : IsEr w E v) : depO w v = E.depth + 1 := by
  obtain ⟨T, x, rfl⟩ := h.iface
  unfold depO
  rw [if_neg (by simp), depV_eq h]
theorem toF_E (v : Value) (w : World) : (Instr.typeAssert (.iface 22 v) 26 29 true).run Tryd.prog w = .ok (.tuple #[.pointer none, .bool false]) w := by kernel_rfl
theorem toF_S (v : Value) (w : World) : (Instr.typeAssert (.iface 68 v) 26 29 true).run Tryd.prog w = .ok (.tuple #[.pointer none, .bool false]) w := by kernel_rfl
theorem toF_F (v : Value) (w : World) : (Instr.typeAssert (.iface 29 v) 26 29 true).run Tryd.prog w = .ok (.tuple #[v, .bool true]) w := by kernel_rfl
def WherePost (w : World) (ws : List (List UInt8)) (e : Ending) (w' : World) : Prop := ∃ a cap, e = .returned (.slice a ws.length cap) ∧ w'.ownsRow w.heap.size 9 1 (.slice a ws.length cap) ws.length (ws.map strV) ∧ Keep Nix w w'
set_option maxRecDepth 100000 in
set_option maxHeartbeats 4000000 in
theorem where_c (o : Option Er) (v : Value) (w : World) (h : IsErO w o v) (hn : (whsO o).length ≤ 100) : Calls Tryd.prog 19 #[v] w (WherePost w (whsO o)) := by
  generalize hWS : whsO o = WS at hn ⊢
  go_enter Tryd.func19, Tryd.ntmps19
  go_wp2_with fail
  go_loopw [0, 3] (fun v l wr => ∃ (q : Option Er) (done : List (List UInt8)) (a : Option Addr) (cap : Nat), IsErO w q v ∧ Hid (done ++ whsO q = WS) ∧ l = .slice a done.length cap ∧ wr.ownsRow w.heap.size 9 1 (.slice a done.length cap) done.length (done.map strV) ∧ Keep Nix w wr) (fun v _ _ => depO w v)
  case atStart => exact ⟨o, [], none, 0, h, hWS, rfl, ⟨rfl, .inl ⟨rfl, rfl⟩⟩, Keep.refl _ _⟩
  case round =>
    clear h
    obtain ⟨q, done, a, cap, h, hdn, rfl, own, kk⟩ := hrel
    cases q with
    | none =>
      obtain rfl : u0 = .nilIface := h
      have hdn' : Hid (done = WS) := by show done = WS; rw [← hdn.out]; exact (List.append_nil done).symm
      go_wp2_with fail
      go_ret
      rw [← hdn'.out]
      exact ⟨a, cap, rfl, own, kk⟩
    | some E =>
      cases E with
      | code c =>
        obtain rfl : u0 = .iface 22 (.int .i64 c) := h
        have hd : depO w (.iface 22 (.int .i64 c)) = 1 := depO_er (E := .code c) rfl
        have h1 := toF_E
        have HO := Lib.hid own
        have HK := Lib.hid kk
        clear own kk
        go_wp2_with fail
        go_fit (unwE_c c _)
        rintro e w' ⟨rfl, rfl⟩
        go_wp2_with fail
        go_roundw
        case rel => exact ⟨none, done, a, cap, rfl, hdn, rfl, HO.out, HK.out⟩
        case measure => rw [hd, depO_nil]; omega
      | other s =>
        obtain ⟨b2, rfl, row2⟩ := h
        have hd : depO w (.iface 68 (.pointer (some ⟨b2, 0, none⟩))) = 1 := depO_er (E := .other s) ⟨b2, rfl, row2⟩
        have h1 := toF_S
        have HO := Lib.hid own
        have HK := Lib.hid kk
        clear own kk
        go_wp2_with fail
        go_fit (unwS_c ⟨b2, 0, none⟩ _)
        rintro e w' ⟨rfl, rfl⟩
        go_wp2_with fail
        go_roundw
        case rel => exact ⟨none, done, a, cap, rfl, hdn, rfl, HO.out, HK.out⟩
        case measure => rw [hd, depO_nil]; omega
      | fault wh E2 =>
        obtain ⟨b2, vc, rfl, row2, h2⟩ := h
        have hd : depO w (.iface 29 (.pointer (some ⟨b2, 0, none⟩))) = E2.depth + 1 + 1 := depO_er (E := .fault wh E2) ⟨b2, vc, rfl, row2, h2⟩
        have hd2 := depO_er h2
        have h1 := toF_F
        have rowR := row2.keep kk id
        have x0 := rowR.cell 0
        (try simp only [List.getElem?_cons_succ] at x0); (try simp only [List.getElem?_cons_zero] at x0)
        have hs := kk.size
        have hlen : done.length ≤ 99 := by
          have h1 := congrArg List.length hdn.out
          rw [List.length_append] at h1
          have h2 : (whsO (some (.fault wh E2))).length = E2.whs.length + 1 := rfl
          omega
        go_wp2_with (at_builtin; refine wpl_append1 T_strs rfl (.tmp 20) (.tmp 25) rfl w.heap.size rfl own rfl rfl ?c1 ?c2 ?c3 hs ?_)
        case c1 => rfl
        case c2 => unfold maxLen; omega
        case c3 => omega
        intro a2 cap2 wB ownB kB
        have kkB := kk.then kB (fun i hi hb => by have := (own.lt i hb).1; omega)
        have rowB := row2.keep kkB id
        replace ownB : wB.ownsRow w.heap.size 9 1 (.slice a2 (done ++ [wh]).length cap2) (done ++ [wh]).length ((done ++ [wh]).map strV) := by
          rw [List.map_append, List.length_append]; exact ownB
        have HO := Lib.hid ownB
        have HK := Lib.hid kkB
        have hdn2 : Hid ((done ++ [wh]) ++ whsO (some E2) = WS) := by show _ = WS; rw [← hdn.out]; simp [whsO, Er.whs]
        have el : Hid (done.length + 1 = (done ++ [wh]).length) := (by show _ = _; rw [List.length_append]; rfl)
        clear ownB kkB own kk kB rowR x0 hs
        go_wp2_with fail
        go_fit (unwF_c b2 _ _ wB rowB)
        rintro e w' ⟨rfl, rfl⟩
        go_wp2_with fail
        go_roundw
        case rel => exact ⟨some E2, done ++ [wh], a2, cap2, h2, hdn2, by rw [el.out], HO.out, HK.out⟩
        case measure => rw [hd, hd2]; omega
end Go.Proofs.YtnfjplchliehcaaDoor
