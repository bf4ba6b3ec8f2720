/- FAULTS: errors.Is, fault.Is. Printed by mac.py. -/
import Derived.Test.YtnfjplchliehcaaDoorFtD
namespace Go.Proofs.YtnfjplchliehcaaDoor
open Go.RowKit Go.Extern.Stop Go.Stop Go.Extern

/-- '==' between two interface values of one integer type. -/
theorem run_equalIn_num {P : Program} (w : World) (d : Nat) {ti tn : TypeId} {ms : Array (String × TypeId)} {i : TypeInfo} {k : IntKind} (a b : Int)
    (hi : P.underlying ti = some (.interface ms)) (hn : P.underlying tn = some (.int k)) (hinfo : P.info? tn = some i) (hcomp : i.comparable = true) :
    (Op.equalIn (d + 2) ti (.iface tn (.int k a)) (.iface tn (.int k b))).run P w = .ok (a == b) w := by
  simp [Op.equalIn, run_underlying hi, run_underlying hn, typeInfo, hinfo, hcomp]
theorem run_eql_num {P : Program} (w : World) {ti tn : TypeId} {ms : Array (String × TypeId)} {i : TypeInfo} {k : IntKind} (a b : Int)
    (hi : P.underlying ti = some (.interface ms)) (hn : P.underlying tn = some (.int k)) (hinfo : P.info? tn = some i) (hcomp : i.comparable = true) :
    (binOp .eql ti (.iface tn (.int k a)) (.iface tn (.int k b))).run P w = .ok (.bool (a == b)) w := by
  simp only [binOp]
  simp [Op.equal, Op.maxDepth, run_equalIn_num w 9998 a b hi hn hinfo hcomp]
theorem eqEE (a b : Int) (w : World) : (binOp .eql 26 (.iface 22 (.int .i64 a)) (.iface 22 (.int .i64 b))).run Tryd.prog w = .ok (.bool (a == b)) w := by
  obtain ⟨i, hi, hcmp⟩ := Option.map_eq_some_iff.1 (show (Tryd.prog.info? 22).map (·.comparable) = some true by kernel_rfl)
  exact run_eql_num (P := Tryd.prog) w a b Tryd.underlying26 Tryd.underlying22 hi hcmp
theorem eqFE (u v : Value) (w : World) : (binOp .eql 26 (.iface 29 u) (.iface 22 v)).run Tryd.prog w = .ok (.bool false) w := run_eql_iface_types (P := Tryd.prog) 29 22 u v Tryd.underlying26 (by decide) w
theorem nI_E (v : Value) (xT : TypeId) (w : World) : (Instr.typeAssert (.iface 22 v) xT 89 true).run Tryd.prog w = .ok (.tuple #[.nilIface, .bool false]) w := run_typeAssert_lacksB Tryd.underlying89 (by kernel_rfl) (by kernel_rfl) v xT w
theorem nI_F (v : Value) (xT : TypeId) (w : World) : (Instr.typeAssert (.iface 29 v) xT 89 true).run Tryd.prog w = .ok (.tuple #[.iface 29 v, .bool true]) w := run_typeAssert_hasB Tryd.underlying89 (by kernel_rfl) v xT w
theorem methI (v : Value) (w : World) : (Go.method 220 29 v "Is").run Tryd.prog w = .ok (12, v) w := by kernel_rfl
set_option maxRecDepth 100000 in
set_option maxHeartbeats 4000000 in
theorem is_c (E : Er) (v : Value) (ask : Int) (w : World) (h : IsEr w E v) (hic : E.isCode = true) (hl : Laid w) : Calls Tryd.prog 33 #[v, .iface 22 (.int .i64 ask), .bool true] w fun e w' => e = .returned (.bool (E.codeOf == ask)) ∧ Keep Nix w w' := by
  obtain ⟨b, hb⟩ : ∃ b, (E.codeOf == ask) = b := ⟨_, rfl⟩
  rw [hb]
  have n1 := nI_E
  have n2 := nI_F
  have n3 := nU_E
  have n4 := nU_F
  have n5 := nL_E
  have q2 := eqFE
  have mI := methI
  have mU := methU
  go_enter Tryd.func33, Tryd.ntmps33
  go_wp2_with fail
  go_loopw [0] (fun v wr => ∃ E' : Er, IsEr w E' v ∧ E'.isCode = true ∧ Hid (E'.codeOf = E.codeOf) ∧ Keep Nix w wr) (fun v _ => depV w v)
  case atStart => exact ⟨E, h, hic, rfl, Keep.refl _ _⟩
  case round =>
    clear h hic
    obtain ⟨E', h, hic, hce, kk⟩ := hrel
    cases E' with
    | code c =>
      obtain rfl : u0 = .iface 22 (.int .i64 c) := h
      have heq := eqEE c ask
      have hc : c = E.codeOf := hce.out
      rw [hc] at heq
      rw [hb] at heq
      rw [← hc] at heq
      clear hc hb
      cases b
      all_goals
        go_wp2_with fail
        go_ret
        exact ⟨rfl, kk⟩
    | other s => cases hic
    | fault wh E2 =>
      obtain ⟨b2, vc, rfl, row2, h2⟩ := h
      have hd1 : depV w (.iface 29 (.pointer (some ⟨b2, 0, none⟩))) = E2.depth + 1 := depV_eq (E := .fault wh E2) ⟨b2, vc, rfl, row2, h2⟩
      have hd2 : depV w vc = E2.depth := depV_eq h2
      have hF : IsEr w (.fault wh E2) (.iface 29 (.pointer (some ⟨b2, 0, none⟩))) := ⟨b2, vc, rfl, row2, h2⟩
      obtain ⟨T2, x2, rfl⟩ := h2.iface
      have HC := isF_c (.fault wh E2) b2 ask wr (hF.keep kk) (hl.keep kk)
      rw [hce.out, hb] at HC
      have HCC := Lib.hid HC
      clear HC hF
      have hb' := Lib.hid hb
      clear hb
      go_wp2_with fail
      go_fit HCC.out
      rintro e w2 ⟨rfl, k2⟩
      replace kk := kk.trans k2
      have rowB := row2.keep kk id
      clear HCC k2
      cases b with
      | true =>
        go_wp2_with fail
        go_ret
        exact ⟨rfl, kk⟩
      | false =>
        go_wp2_with fail
        go_fit (unwrap_c b2 _ _ w2 rowB)
        rintro e w' ⟨rfl, rfl⟩
        have HK := Lib.hid kk
        clear kk rowB
        go_wp2_with fail
        go_roundw
        case rel => exact ⟨E2, h2, hic, hce, HK.out⟩
        case measure => rw [hd1, hd2]; omega
set_option maxRecDepth 100000 in
set_option maxHeartbeats 4000000 in
theorem errorsIs_c (E : Er) (v : Value) (ask : Int) (w : World) (h : IsEr w E v) (hic : E.isCode = true) (hl : Laid w) : Calls Tryd.prog 25 #[v, .iface 22 (.int .i64 ask)] w fun e w' => e = .returned (.bool (E.codeOf == ask)) ∧ Keep Nix w w' := by
  have h32 := @run_callFunc_extern Tryd.prog 32 _ ReflectliteType.typeOf Tryd.func32 (by kernel_rfl) (by kernel_rfl) (by kernel_rfl) (by kernel_rfl)
  have tT := AsE.typeOfE
  obtain ⟨g, hg, cT⟩ : ∃ g, Extern.find Tryd.f59 = some g ∧ ∀ w : World, (g #[.agg #[.pointer (some ⟨1, 22, none⟩)]]).run Tryd.prog w = .ok (.bool true) w := ⟨_, rfl, fun w => by kernel_rfl⟩
  have hC := @run_callFunc_extern Tryd.prog 59 _ g Tryd.func59 (by kernel_rfl) (by kernel_rfl) (by kernel_rfl) hg
  clear hg
  have mR : ∀ (v : Value) (w : World), (Go.method 220 78 v "Comparable").run Tryd.prog w = .ok (59, v) w := fun v w => by kernel_rfl
  have HC := Lib.hid (is_c E v ask w h hic hl)
  obtain ⟨T, x, rfl⟩ := h.iface
  clear h
  go_enter Tryd.func25, Tryd.ntmps25
  go_wp2_with fail
  go_fit HC.out
  rintro e w2 ⟨rfl, k2⟩
  go_wp2_with fail
  go_ret
  exact ⟨rfl, k2⟩
def codeO : Option Er → Int
  | none => 0
  | some E => E.codeOf
theorem faultIs_c (o : Option Er) (v : Value) (ask : Int) (w : World) (h : IsErO w o v) (hl : Laid w) : Calls Tryd.prog 24 #[v, .int .i64 ask] w fun e w' => e = .returned (.bool (codeO o == ask)) ∧ Keep Nix w w' := by
  cases o with
  | none =>
    obtain rfl : v = .nilIface := h
    go_enter Tryd.func24, Tryd.ntmps24
    go_wp2_with fail
    go_fit (code_nil w)
    rintro e w' ⟨rfl, rfl⟩
    go_wp2_with fail
    go_fit (errorsIs_c (.code 0) _ ask w rfl rfl hl)
    rintro e w2 ⟨rfl, k2⟩
    go_wp2_with fail
    go_ret
    exact ⟨rfl, k2⟩
  | some E =>
    go_enter Tryd.func24, Tryd.ntmps24
    go_wp2_with fail
    go_fit (code_c E v w h hl)
    rintro e w1 ⟨rfl, k1⟩
    go_wp2_with fail
    go_fit (errorsIs_c (.code E.codeOf) _ ask w1 rfl rfl (hl.keep k1))
    rintro e w2 ⟨rfl, k2⟩
    go_wp2_with fail
    go_ret
    exact ⟨rfl, k1.trans k2⟩
end Go.Proofs.YtnfjplchliehcaaDoor
