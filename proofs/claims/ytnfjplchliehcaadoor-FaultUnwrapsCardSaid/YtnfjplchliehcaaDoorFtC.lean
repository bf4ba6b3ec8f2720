/- FAULTS: made, walked. Printed by mac.py. -/
import Derived.Test.YtnfjplchliehcaaDoorFtB
namespace Go.Proofs.YtnfjplchliehcaaDoor
open Go.RowKit Go.Extern.Stop Go.Stop Go.Extern

theorem results_tmp_cell {P : Program} {fn : Func} {p q : Tmp} {ty : TypeId} (h : fn.results = #[.tmp q, .cell p ty]) (tmps : Array Value) (w : World) (g : Nat) (t : TypeId) (cs : Array Value) (fr : Nat × Nat) (d : TypeDesc)
    (hp : tmps.getD p undef = .pointer (some ⟨g, 0, none⟩)) (hg : w.heap[g]? = some (.cells cs t fr))
    (hu : P.underlying ty = some d) (hd : (match d with | .struct _ | .array _ _ => true | _ => false) = true) (hi : (P.info? ty).map (·.size) = some cs.size) :
    (results fn tmps).run P w = .ok (.tuple #[tmps.getD q undef, .agg cs]) w := by
  have hp' : tmps[p]?.getD undef = .pointer (some ⟨g, 0, none⟩) := by simpa using hp
  simp [results, h, hp', asAddr, run_loadVar_row w g t ty cs fr d hg hu hd hi]
/-- As Way, ahead of the mark of no error. -/
def Pre (W : World) (n0 bC bR : Nat) (code : Int) (other : List UInt8) (v : Value) (w : World) : Prop :=
  ∃ (o : Option Er) (kd : Int) (a : Option Addr) (cap : Nat), IsErO w o v ∧ RowIs w bC 38 (chainV a cap (whsO o).length code other kd) ∧ Lies w (fun b => n0 ≤ b ∧ b ≠ bC ∧ b ≠ bR) a ((whsO o).map strV) ∧ (o ≠ none → EndOk o kd code other) ∧ (whsO o).length ≤ 1 ∧ (∀ x ∈ whsO o, x.length ≤ far) ∧
    RowIs w bR 38 [.slice none 0 0, .int .i64 0, .string ⟨#[]⟩, .int .i64 0] ∧ Keep Nix W w
section
attribute [local go_sem ↓] cv_up cv_down rm_uint
set_option maxRecDepth 100000 in
set_option maxHeartbeats 4000000 in
theorem made_c (kp code : Int) (other : List UInt8) (l : List (List UInt8)) (aW : Option Addr) (cW : Nat) (w : World) (hl : rList rStr w (· < w.heap.size) [.slice aW l.length cW] l) (_ho : other.length ≤ far) :
    Calls Tryd.prog 16 #[.int .i64 kp, .int .i64 code, .string (strB other), .slice aW l.length cW] w (MadePost w code other) := by
  have HL := Lib.hid hl
  obtain ⟨-, hcap, hfl⟩ := rList_len hl
  have hfar := far_len
  have mL : l.length ≤ 140737488351232 := hfl
  clear hl hfl
  obtain ⟨c, m, hm, f1, -, f3, f4⟩ := round_facts kp 3 (by decide) (by decide)
  replace f3 : ∀ x y w, (rmSem 73 x y (.int .u64 (c : Int)) (.int .u64 3)).run Tryd.prog w = .ok (.value (.int .u64 (m : Int))) w := f3
  have row1 := RowIs.alloc w #[.slice none 0 0, .int .i64 0, .string ⟨#[]⟩, .int .i64 0] 38
  have k1 : Keep Nix w (w.alloc (.cells #[.slice none 0 0, .int .i64 0, .string ⟨#[]⟩, .int .i64 0] 38)) := (Keep.refl Nix w).alloc _
  have row2 : RowIs (((w.alloc (.cells #[.slice none 0 0, .int .i64 0, .string ⟨#[]⟩, .int .i64 0] 38))).alloc (.cells #[.slice none 0 0, .int .i64 code, .string (strB other), .int .i64 (m : Int)] 38)) (w.heap.size + 1) 38 [.slice none 0 0, .int .i64 code, .string (strB other), .int .i64 (m : Int)] := by
    have := RowIs.alloc (w.alloc (.cells #[.slice none 0 0, .int .i64 0, .string ⟨#[]⟩, .int .i64 0] 38)) #[.slice none 0 0, .int .i64 code, .string (strB other), .int .i64 (m : Int)] 38
    simpa using this
  have k2 : Keep Nix (w.alloc (.cells #[.slice none 0 0, .int .i64 0, .string ⟨#[]⟩, .int .i64 0] 38)) (((w.alloc (.cells #[.slice none 0 0, .int .i64 0, .string ⟨#[]⟩, .int .i64 0] 38))).alloc (.cells #[.slice none 0 0, .int .i64 code, .string (strB other), .int .i64 (m : Int)] 38)) := (Keep.refl Nix _).alloc _
  replace row1 := row1.keep k2 id
  replace k1 := k1.trans k2
  clear k2
  obtain ⟨l', HT⟩ : ∃ l', Hid (l.take 12 = l') := ⟨_, rfl⟩
  have hn12 : l'.length ≤ 12 := by rw [← HT.out, List.length_take]; omega
  go_enter Tryd.func16, Tryd.ntmps16
  go_upto_if 15 with fail
  go_cut [3] from 13 to 68 (fun s3 wx => s3 = .slice aW l'.length cW ∧ (w.alloc (.cells #[.slice none 0 0, .int .i64 0, .string ⟨#[]⟩, .int .i64 0] 38)) = wx)
  case first =>
    clear row1 row2 k1 f1 f3 f4
    rcases Nat.lt_or_ge 12 l.length with h | h
    · have h' : (12 : Int) < (l.length : Int) := by omega
      have e : l'.length = 12 := by rw [← HT.out, List.length_take]; omega
      go_wp2_with fail
      go_meet
      rw [e]
      exact ⟨rfl, rfl⟩
    · have h' : (l.length : Int) ≤ 12 := by omega
      have e : l'.length = l.length := by rw [← HT.out, List.take_of_length_le h]
      go_wp2_with fail
      go_meet
      rw [e]
      exact ⟨rfl, rfl⟩
  case rest =>
    obtain ⟨rfl, rfl⟩ := hcut
    go_upto_block 0 with fail
    clear f1 f3 f4
    obtain ⟨kd, hkd⟩ : ∃ kd : Int, (m : Int) = kd := ⟨_, rfl⟩
    rw [hkd] at row2 row1 k1 ⊢
    have hk3 : kd = 0 ∨ kd = 1 ∨ kd = 2 := by omega
    clear hkd
    generalize (((w.alloc (.cells #[.slice none 0 0, .int .i64 0, .string ⟨#[]⟩, .int .i64 0] 38))).alloc (.cells #[.slice none 0 0, .int .i64 code, .string (strB other), .int .i64 kd] 38)) = w2 at *
    generalize hbC : w.heap.size + 1 = bC at *
    generalize hbR : w.heap.size = bR at *
    go_cut [11] from 13 to 68 (fun s11 wx => Pre w bR bC bR code other s11 wx)
    case first =>
      have ROWR := Lib.hid row1
      rcases hk3 with rfl | rfl | rfl
      · have HP : Hid (Pre w bR bC bR code other .nilIface w2) := ⟨none, 0, none, 0, rfl, row2, fun h => absurd rfl h, fun h => absurd rfl h, by decide, (fun x hx => by cases hx), row1, k1⟩
        clear row1 row2 k1
        go_wp2_with fail
        go_meet
        exact HP.out
      · rcases test_eq code 0 with ⟨t1, t2⟩ | ⟨t1, t2⟩
        · have f3 := row2.frozen 3
          have x3 := row2.cell 3
          (try simp only [List.getElem?_cons_succ] at x3); (try simp only [List.getElem?_cons_zero] at x3)
          have kS : Keep (· = bC) w2 (w2.setCell ⟨bC, 3, none⟩ (.int .i64 0)) := (Keep.refl (· = bC) w2).setCell (fun _ => rfl) _
          have HP : Hid (Pre w bR bC bR code other .nilIface (w2.setCell ⟨bC, 3, none⟩ (.int .i64 0))) := ⟨none, 0, none, 0, rfl, row2.set 3 _, fun h => absurd rfl h, fun h => absurd rfl h, by decide, (fun x hx => by cases hx), row1.keep kS (by omega), k1.then kS (fun i hi e => by omega)⟩
          clear row1 row2 k1 kS t2
          go_wp2_with fail
          go_meet
          exact HP.out
        · clear row1
          go_wp2_with fail
          go_fit (newf_c code t2 [102, 105, 114, 115, 116] w2)
          rintro e w3 ⟨b, rfl, -, -, hE, k3⟩
          have k4 : Keep Nix w3 (w3.alloc (.cells #[.string ⟨#[102, 105, 114, 115, 116]⟩] 9)) := (Keep.refl Nix w3).alloc _
          have rowN := RowIs.alloc w3 #[.string ⟨#[102, 105, 114, 115, 116]⟩] 9
          have row1' := ROWR.out.keep (k3.trans k4) id
          have row2' := row2.keep (k3.trans k4) id
          have f0 := row2'.frozen 0
          have x0 := row2'.cell 0
          (try simp only [List.getElem?_cons_succ] at x0); (try simp only [List.getElem?_cons_zero] at x0)
          have hE' := hE.keep k4
          have hs3 := k3.size
          have hs1 := k1.size
          have hbl := row2.lt
          have hbl2 := ROWR.out.lt
          have kS : Keep (· = bC) (w3.alloc (.cells #[.string ⟨#[102, 105, 114, 115, 116]⟩] 9)) ((w3.alloc (.cells #[.string ⟨#[102, 105, 114, 115, 116]⟩] 9)).setCell ⟨bC, 0, none⟩ (.slice (some ⟨w3.heap.size, 0, none⟩) 1 1)) := (Keep.refl (· = bC) (w3.alloc (.cells #[.string ⟨#[102, 105, 114, 115, 116]⟩] 9))).setCell (fun _ => rfl) _
          have HP : Hid (Pre w bR bC bR code other (.iface 29 (.pointer (some ⟨b, 0, none⟩))) ((w3.alloc (.cells #[.string ⟨#[102, 105, 114, 115, 116]⟩] 9)).setCell ⟨bC, 0, none⟩ (.slice (some ⟨w3.heap.size, 0, none⟩) 1 1))) :=
            ⟨some (.fault [102, 105, 114, 115, 116] (.code code)), 1, some ⟨w3.heap.size, 0, none⟩, 1, IsEr.keepC row2' kS hE', row2'.set 0 _, (rowN.keep kS (by omega)).lies _ ⟨by omega, by omega, by omega⟩ (off := 0) (fun j u hu => by rw [Nat.zero_add]; exact hu), fun _ => .inl ⟨rfl, rfl, rfl, t2, rfl⟩, Nat.le_refl 1, (fun x hx => by
              have : x = [102, 105, 114, 115, 116] := List.mem_singleton.1 hx
              subst this; decide), row1'.keep kS (by omega), ((k1.trans k3).trans k4).then kS (fun i hi e => by omega)⟩
          clear row2 row2' k1 k3 k4 kS t2 hE hE' rowN row1' ROWR
          go_wp2_with fail
          go_meet
          exact HP.out
      · go_wp2_with fail
        go_fit (newo_c other w2)
        rintro e w3 ⟨b, rfl, hE, k3⟩
        have HP : Hid (Pre w bR bC bR code other (.iface 68 (.pointer (some ⟨b, 0, none⟩))) w3) :=
          ⟨some (.other other), 2, none, 0, hE, row2.keep k3 id, fun h => absurd rfl h, fun _ => .inr ⟨rfl, rfl, rfl, rfl⟩, Nat.zero_le _, (fun x hx => by cases hx), row1.keep k3 id, k1.trans k3⟩
        clear row1 row2 k1 k3 hE
        go_wp2_with fail
        go_meet
        exact HP.out
    case rest =>
      clear row1 row2 k1 hk3
      obtain ⟨o, kd1, a, cap, hE, rowC, lie, hend, hln, hfr, rowR, kk⟩ := hcut
      have hbC' := rowC.lt
      go_upto_region 13 with fail
      go_cut [41] from 13 to 68 (fun s41 wx => s41 = .bool o.isNone ∧ wc = wx)
      case first =>
        clear rowC lie hend hln hfr rowR kk
        cases o with
        | none =>
          obtain rfl : u11 = .nilIface := hE
          go_wp2_with fail
          go_meet
          exact ⟨rfl, rfl⟩
        | some E =>
          obtain ⟨T, x, rfl⟩ := IsEr.iface (show IsEr wc E u11 from hE)
          go_wp2_with fail
          go_meet
          exact ⟨rfl, rfl⟩
      case rest =>
        obtain ⟨rfl, rfl⟩ := hcut
        go_upto_if 41 with fail
        go_cut [11] from 13 to 68 (fun s11 wx => Way w bR bC bR code other 0 s11 wx)
        case first =>
          cases o with
          | none =>
            obtain rfl : u11 = .nilIface := hE
            unfold chainV at rowC
            have f3 := rowC.frozen 3
            have x3 := rowC.cell 3
            (try simp only [List.getElem?_cons_succ] at x3); (try simp only [List.getElem?_cons_zero] at x3)
            have kS : Keep (· = bC) wc (wc.setCell ⟨bC, 3, none⟩ (.int .i64 0)) := (Keep.refl (· = bC) wc).setCell (fun _ => rfl) _
            have HW : Hid (Way w bR bC bR code other 0 .nilIface (wc.setCell ⟨bC, 3, none⟩ (.int .i64 0))) := ⟨none, 0, a, cap, rfl, rowC.set 3 _, fun h => absurd rfl h, rfl, Nat.zero_le _, hfr, rowR.keep kS (by omega), kk.then kS (fun i hi e => by omega)⟩
            clear kS rowC lie hend hln hfr rowR kk
            go_wp2_with fail
            go_meet
            exact HW.out
          | some E =>
            have HW : Hid (Way w bR bC bR code other 0 u11 wc) := ⟨some E, kd1, a, cap, hE, rowC, lie, hend (by simp), hln, hfr, rowR, kk⟩
            clear rowC lie hend hln hfr rowR kk hE
            go_wp2_with fail
            go_meet
            exact HW.out
        case rest =>
          clear rowC lie hend hln hfr rowR kk hE
          have HW := hcut
          clear hcut
          go_wp2_with fail
          go_loopw [11, 12] (fun v i wr => ∃ k : Nat, k ≤ l'.length ∧ i = .int .i64 k ∧ Way w bR bC bR code other k v wr) (fun _ i _ => l'.length - (intOf i).toNat)
          case atStart => exact ⟨0, by omega, rfl, HW⟩
          case round =>
            clear HW
            obtain ⟨k, hk, rfl, o, kd, a, cap, hE, rowC, lie, hend, hln, hfr, rowR, kk⟩ := hrel
            rcases Nat.lt_or_ge k l'.length with hlt | hge
            · have hi1 : (k : Int) < (l'.length : Int) := by omega
              have hi0 : (0 : Int) ≤ (k : Int) := by omega
              have hkl : k < l.length := by have h1 := HT.out ▸ hlt; rw [List.length_take] at h1; omega
              obtain ⟨b, off, cc, cs, e1, hbW, hb, r, hcl⟩ := rList_at rStr_lawful (by decide) HL.out k hkl
              simp only [List.cons.injEq, Value.slice.injEq, and_true] at e1
              obtain ⟨rfl, -, -⟩ := e1
              generalize l[k] = x at r
              obtain ⟨rfl, hxf⟩ := r
              have XW : w.cell? ⟨b, off + k, none⟩ = some (.string (strB x)) := by simpa using hcl 0 _ rfl
              have hbw : b < w.heap.size := hb
              clear hcl hbW hb
              cases o with
              | none =>
                obtain rfl : u11 = .nilIface := hE
                obtain rfl : kd = 0 := hend
                have x0 := (kk.cell (p := ⟨b, off + k, none⟩) hbw id).trans XW
                unfold chainV at rowC
                have x3 := rowC.cell 3
                (try simp only [List.getElem?_cons_succ] at x3); (try simp only [List.getElem?_cons_zero] at x3)
                have HW : Hid (Way w bR bC bR code other (k + 1) .nilIface wr) := ⟨none, 0, a, cap, rfl, rowC, lie, rfl, Nat.zero_le _, hfr, rowR, kk⟩
                clear rowC lie hln hfr rowR kk
                go_wp2_with fail
                go_fit (wrap_nil x wr)
                rintro e w' ⟨rfl, rfl⟩
                go_wp2_with fail
                go_roundw
                case rel => exact ⟨k + 1, by omega, by go_num, HW.out⟩
                case measure => simp [intOf]; omega
              | some E =>
                replace hE : IsEr wr E u11 := hE
                have x0 := (kk.cell (p := ⟨b, off + k, none⟩) hbw id).trans XW
                have hbr := Nat.lt_of_lt_of_le hbw kk.size
                have hkd : (kd == 0) = false := by
                  rcases hend with ⟨h, -⟩ | ⟨h, -⟩ <;> subst h <;> rfl
                go_wp2_with fail
                go_fit (wrap_c E u11 x wr hE)
                rintro e w5 ⟨b2, rfl, -, -, hE5, k5⟩
                replace rowC := rowC.keep k5 id
                replace rowR := rowR.keep k5 id
                replace lie := lie.keep k5 (fun _ _ h => h)
                replace kk := kk.trans k5
                replace x0 := (k5.cell (p := ⟨b, off + k, none⟩) hbr id).trans x0
                clear k5 hE
                unfold chainV at rowC
                have x3 := rowC.cell 3
                (try simp only [List.getElem?_cons_succ] at x3); (try simp only [List.getElem?_cons_zero] at x3)
                go_upto_region 20 with fail
                have kd5 : Keep Nix w5 w5.drew := (Keep.refl Nix w5).drew
                replace rowC := rowC.keep kd5 id
                replace rowR := rowR.keep kd5 id
                replace lie := lie.keep kd5 (fun _ _ h => h)
                replace hE5 := hE5.keep kd5
                replace kk := kk.trans kd5
                have hbq : b < w5.drew.heap.size := Nat.lt_of_lt_of_le hbw kk.size
                replace x0 := (kd5.cell (p := ⟨b, off + k, none⟩) hbq id).trans x0
                have hlnE : (whsO (some E)).length ≤ 20 := by omega
                have hszq := kk.size
                have hCq := rowC.lt
                clear kd5 x3
                refine wp_region_held_drew (S := (fun w' => w'.cell? ⟨b, off + k, none⟩ = some (.string (strB x)))) (by kernel_rfl) (x0) (fun hHeld => ?_)
                generalize w5.drew = wq at *
                refine wpAnyH_take (i := 0) (v := ?_) rfl (by kernel_rfl) (by kernel_rfl) (by kernel_rfl) (fun _ _ _ h => h) (Or.inl ⟨by kernel_rfl, ?_⟩) hHeld ?_
                rotate_left
                · intro w' hSw
                  (try dsimp only at hSw)
                  (try simp only [List.getElem_toArray]); (try simp only [List.getElem_cons_succ]); (try simp only [List.getElem_cons_zero])
                  go_simp
                  try with_reducible rfl
                (try simp only [Act.put]); (try simp only [List.getElem_toArray]); (try simp only [List.getElem_cons_succ]); (try simp only [List.getElem_cons_zero]); (try simp only [List.setIfInBounds_toArray]); (try simp only [List.set_cons_succ]); (try simp only [List.set_cons_zero])
                refine wpAnyH_take (i := 1) (v := ?_) rfl (by kernel_rfl) (by kernel_rfl) (by kernel_rfl) (fun _ _ _ h => h) (Or.inl ⟨by kernel_rfl, ?_⟩) hHeld ?_
                rotate_left
                · intro w' hSw
                  (try dsimp only at hSw)
                  (try simp only [List.getElem_toArray]); (try simp only [List.getElem_cons_succ]); (try simp only [List.getElem_cons_zero])
                  go_simp
                  try with_reducible rfl
                (try simp only [Act.put]); (try simp only [List.getElem_toArray]); (try simp only [List.getElem_cons_succ]); (try simp only [List.getElem_cons_zero]); (try simp only [List.setIfInBounds_toArray]); (try simp only [List.set_cons_succ]); (try simp only [List.set_cons_zero])
                refine wpAnyH_take (i := 2) (v := ?_) rfl (by kernel_rfl) (by kernel_rfl) (by kernel_rfl) (fun _ _ _ h => h) (Or.inl ⟨by kernel_rfl, ?_⟩) hHeld ?_
                rotate_left
                · intro w' hSw
                  (try dsimp only at hSw)
                  (try simp only [List.getElem_toArray]); (try simp only [List.getElem_cons_succ]); (try simp only [List.getElem_cons_zero])
                  go_simp
                  try with_reducible rfl
                (try simp only [Act.put]); (try simp only [List.getElem_toArray]); (try simp only [List.getElem_cons_succ]); (try simp only [List.getElem_cons_zero]); (try simp only [List.setIfInBounds_toArray]); (try simp only [List.set_cons_succ]); (try simp only [List.set_cons_zero])
                refine wpAnyH_take (i := 3) (v := ?_) rfl (by kernel_rfl) (by kernel_rfl) (by kernel_rfl) (fun _ _ _ h => h) (Or.inl ⟨by kernel_rfl, ?_⟩) hHeld ?_
                rotate_left
                · intro w' hSw
                  (try dsimp only at hSw)
                  (try simp only [List.getElem_toArray]); (try simp only [List.getElem_cons_succ]); (try simp only [List.getElem_cons_zero])
                  go_simp
                  try with_reducible rfl
                (try simp only [Act.put]); (try simp only [List.getElem_toArray]); (try simp only [List.getElem_cons_succ]); (try simp only [List.getElem_cons_zero]); (try simp only [List.setIfInBounds_toArray]); (try simp only [List.set_cons_succ]); (try simp only [List.set_cons_zero])
                refine wpAnyH_take (i := 5) (v := ?_) rfl (by kernel_rfl) (by kernel_rfl) (by kernel_rfl) (fun _ _ _ h => h) (Or.inl ⟨by kernel_rfl, ?_⟩) hHeld ?_
                rotate_left
                · intro w' hSw
                  (try dsimp only at hSw)
                  (try simp only [List.getElem_toArray]); (try simp only [List.getElem_cons_succ]); (try simp only [List.getElem_cons_zero])
                  go_simp
                  try with_reducible rfl
                (try simp only [Act.put]); (try simp only [List.getElem_toArray]); (try simp only [List.getElem_cons_succ]); (try simp only [List.getElem_cons_zero]); (try simp only [List.setIfInBounds_toArray]); (try simp only [List.set_cons_succ]); (try simp only [List.set_cons_zero])
                refine wpAnyH_ready (rs := [4, 6]) (by kernel_rfl) (by simp) ?_
                refine AllReadyH.cons rfl (fun K hK => ?_) (AllReadyH.cons rfl (fun K hK => ?_) AllReadyH.nil)
                · go_simp
                  have kB : Keep Nix wq (wq.alloc (.cells #[.string (strB x)] 9)) := (Keep.refl Nix wq).alloc _
                  have rowN := RowIs.alloc wq #[.string (strB x)] 9
                  replace rowC := rowC.keep kB id
                  replace rowR := rowR.keep kB id
                  replace lie := lie.keep kB (fun _ _ h => h)
                  replace hE5 := hE5.keep kB
                  replace kk := kk.trans kB
                  replace x0 := (kB.cell (p := ⟨b, off + k, none⟩) hbq id).trans x0
                  clear kB
                  generalize hnb : wq.heap.size = nb at *
                  generalize wq.alloc (.cells #[.string (strB x)] 9) = wq2 at *
                  refine hK.out _ _ (x0) (fun hHeld => ?_)
                  clear hK K
                  (try simp only [Act.put]); (try simp only [List.getElem_toArray]); (try simp only [List.getElem_cons_succ]); (try simp only [List.getElem_cons_zero]); (try simp only [List.setIfInBounds_toArray]); (try simp only [List.set_cons_succ]); (try simp only [List.set_cons_zero])
                  refine wpAnyH_ready (rs := [6]) (by kernel_rfl) (by simp) ?_
                  refine AllReadyH.cons rfl (fun K hK => ?_) AllReadyH.nil
                  have y0 := rowC.cell 0
                  (try simp only [List.getElem?_cons_succ] at y0); (try simp only [List.getElem?_cons_zero] at y0)
                  go_simp
                  clear y0
                  refine hK.out _ _ (x0) (fun hHeld => ?_)
                  clear hK K
                  (try simp only [Act.put]); (try simp only [List.getElem_toArray]); (try simp only [List.getElem_cons_succ]); (try simp only [List.getElem_cons_zero]); (try simp only [List.setIfInBounds_toArray]); (try simp only [List.set_cons_succ]); (try simp only [List.set_cons_zero])
                  refine wpAnyH_ready (rs := [7]) (by kernel_rfl) (by simp) ?_
                  refine AllReadyH.cons rfl (fun K hK => ?_) AllReadyH.nil
                  obtain ⟨a2, cap2, w7, hrun, own7, kA⟩ := appN_run (w := wq2) T_strs 23 nb (own1 rowN) ((whsO (some E)).map strV) (by rw [List.length_map, Nat.mul_one]) (c := cap) lie (fun u hu => by
                    obtain ⟨z, -, rfl⟩ := List.mem_map.1 hu
                    rfl) (by unfold maxLen; omega) (by omega) (Nat.le_of_lt rowN.lt)
                  refine step_app (by kernel_rfl) _ _ rfl rfl rfl hrun ?_
                  (try simp only [List.getElem_toArray]); (try simp only [List.getElem_cons_succ]); (try simp only [List.getElem_cons_zero])
                  replace kA : Keep (· = nb) wq2 w7 := kA.mono (fun i hi => own_eq hi)
                  have hCN : bC ≠ nb := rowC.ne rowN (by decide)
                  have hRN : bR ≠ nb := rowR.ne rowN (by decide)
                  have hbn : b ≠ nb := by omega
                  have hnbn : bR < nb := by omega
                  replace hE5 := IsEr.keepT (by decide) (by decide) rowN kA hE5
                  replace rowC := rowC.keep kA hCN
                  replace rowR := rowR.keep kA hRN
                  have hnlt := rowN.lt
                  have hb7 : b < w7.heap.size := Nat.lt_of_lt_of_le (by omega) kA.size
                  replace x0 := (kA.cell (p := ⟨b, off + k, none⟩) (by show b < wq2.heap.size; omega) hbn).trans x0
                  replace kk := kk.then kA (fun i hi e => by omega)
                  have lie7 := Lies.of_owned own7
                  clear hrun kA rowN lie
                  refine hK.out _ _ (x0) (fun hHeld => ?_)
                  clear hK K
                  (try simp only [Act.put]); (try simp only [List.getElem_toArray]); (try simp only [List.getElem_cons_succ]); (try simp only [List.getElem_cons_zero]); (try simp only [List.setIfInBounds_toArray]); (try simp only [List.set_cons_succ]); (try simp only [List.set_cons_zero])
                  refine wpAnyH_take (i := 8) (v := ?_) rfl (by kernel_rfl) (by kernel_rfl) (by kernel_rfl) (fun _ _ _ h => h) (Or.inl ⟨by kernel_rfl, ?_⟩) hHeld ?_
                  rotate_left
                  · intro w' hSw
                    (try dsimp only at hSw)
                    (try simp only [List.getElem_toArray]); (try simp only [List.getElem_cons_succ]); (try simp only [List.getElem_cons_zero])
                    go_simp
                    try with_reducible rfl
                  (try simp only [Act.put]); (try simp only [List.getElem_toArray]); (try simp only [List.getElem_cons_succ]); (try simp only [List.getElem_cons_zero]); (try simp only [List.setIfInBounds_toArray]); (try simp only [List.set_cons_succ]); (try simp only [List.set_cons_zero])
                  refine wpAnyH_ready (rs := [9]) (by kernel_rfl) (by simp) ?_
                  refine AllReadyH.cons rfl (fun K hK => ?_) AllReadyH.nil
                  have f0 := rowC.frozen 0
                  have y0 := rowC.cell 0
                  (try simp only [List.getElem?_cons_succ] at y0); (try simp only [List.getElem?_cons_zero] at y0)
                  have hne : bR ≠ bC := by omega
                  have kS : Keep (· = bC) w7 (w7.setCell ⟨bC, 0, none⟩ (.slice a2 (1 + (whsO (some E)).length) cap2)) := (Keep.refl (· = bC) w7).setCell (fun _ => rfl) _
                  have HW : Hid (Way w bR bC bR code other (k + 1) (.iface 29 (.pointer (some ⟨b2, 0, none⟩))) (w7.setCell ⟨bC, 0, none⟩ (.slice a2 (1 + (whsO (some E)).length) cap2))) := (by
                    refine ⟨some (.fault x E), kd, a2, cap2, IsEr.keepC rowC kS hE5, ?_, (lie7.mono (fun i hi => ?_)).keep kS (fun i hi => hi.2.1), EndOk.wrap hend x, ?_, ?_, rowR.keep kS hne, kk.then kS (fun i hi e => by omega)⟩
                    · have := rowC.set 0 (.slice a2 (1 + (whsO (some E)).length) cap2)
                      rw [Nat.add_comm] at this ⊢
                      exact this
                    · exact ⟨by omega, by omega, by omega⟩
                    · show E.whs.length + 1 ≤ _
                      have : E.whs.length ≤ k + 1 := hln
                      omega
                    · intro z hz
                      rcases List.mem_cons.1 (show z ∈ x :: E.whs from hz) with rfl | h
                      · exact hxf
                      · exact hfr z h)
                  replace x0 := (kS.cell (p := ⟨b, off + k, none⟩) hb7 (by show ¬ b = bC; omega)).trans x0
                  clear kS rowC rowR kk hE5 lie7 own7
                  go_simp
                  clear y0 f0
                  refine hK.out _ _ (x0) (fun hHeld => ?_)
                  clear hK K
                  (try simp only [Act.put]); (try simp only [List.getElem_toArray]); (try simp only [List.getElem_cons_succ]); (try simp only [List.getElem_cons_zero]); (try simp only [List.setIfInBounds_toArray]); (try simp only [List.set_cons_succ]); (try simp only [List.set_cons_zero])
                  refine wpAnyH_done (by kernel_rfl) ?_ _
                  clear hHeld x0
                  go_wp2_with fail
                  go_roundw
                  case rel => exact ⟨k + 1, by omega, by go_num, HW.out⟩
                  case measure => simp [intOf]; omega
                · have y0 := rowC.cell 0
                  (try simp only [List.getElem?_cons_succ] at y0); (try simp only [List.getElem?_cons_zero] at y0)
                  go_simp
                  clear y0
                  refine hK.out _ _ (x0) (fun hHeld => ?_)
                  clear hK K
                  (try simp only [Act.put]); (try simp only [List.getElem_toArray]); (try simp only [List.getElem_cons_succ]); (try simp only [List.getElem_cons_zero]); (try simp only [List.setIfInBounds_toArray]); (try simp only [List.set_cons_succ]); (try simp only [List.set_cons_zero])
                  refine wpAnyH_ready (rs := [4]) (by kernel_rfl) (by simp) ?_
                  refine AllReadyH.cons rfl (fun K hK => ?_) AllReadyH.nil
                  go_simp
                  have kB : Keep Nix wq (wq.alloc (.cells #[.string (strB x)] 9)) := (Keep.refl Nix wq).alloc _
                  have rowN := RowIs.alloc wq #[.string (strB x)] 9
                  replace rowC := rowC.keep kB id
                  replace rowR := rowR.keep kB id
                  replace lie := lie.keep kB (fun _ _ h => h)
                  replace hE5 := hE5.keep kB
                  replace kk := kk.trans kB
                  replace x0 := (kB.cell (p := ⟨b, off + k, none⟩) hbq id).trans x0
                  clear kB
                  generalize hnb : wq.heap.size = nb at *
                  generalize wq.alloc (.cells #[.string (strB x)] 9) = wq2 at *
                  refine hK.out _ _ (x0) (fun hHeld => ?_)
                  clear hK K
                  (try simp only [Act.put]); (try simp only [List.getElem_toArray]); (try simp only [List.getElem_cons_succ]); (try simp only [List.getElem_cons_zero]); (try simp only [List.setIfInBounds_toArray]); (try simp only [List.set_cons_succ]); (try simp only [List.set_cons_zero])
                  refine wpAnyH_ready (rs := [7]) (by kernel_rfl) (by simp) ?_
                  refine AllReadyH.cons rfl (fun K hK => ?_) AllReadyH.nil
                  obtain ⟨a2, cap2, w7, hrun, own7, kA⟩ := appN_run (w := wq2) T_strs 23 nb (own1 rowN) ((whsO (some E)).map strV) (by rw [List.length_map, Nat.mul_one]) (c := cap) lie (fun u hu => by
                    obtain ⟨z, -, rfl⟩ := List.mem_map.1 hu
                    rfl) (by unfold maxLen; omega) (by omega) (Nat.le_of_lt rowN.lt)
                  refine step_app (by kernel_rfl) _ _ rfl rfl rfl hrun ?_
                  (try simp only [List.getElem_toArray]); (try simp only [List.getElem_cons_succ]); (try simp only [List.getElem_cons_zero])
                  replace kA : Keep (· = nb) wq2 w7 := kA.mono (fun i hi => own_eq hi)
                  have hCN : bC ≠ nb := rowC.ne rowN (by decide)
                  have hRN : bR ≠ nb := rowR.ne rowN (by decide)
                  have hbn : b ≠ nb := by omega
                  have hnbn : bR < nb := by omega
                  replace hE5 := IsEr.keepT (by decide) (by decide) rowN kA hE5
                  replace rowC := rowC.keep kA hCN
                  replace rowR := rowR.keep kA hRN
                  have hnlt := rowN.lt
                  have hb7 : b < w7.heap.size := Nat.lt_of_lt_of_le (by omega) kA.size
                  replace x0 := (kA.cell (p := ⟨b, off + k, none⟩) (by show b < wq2.heap.size; omega) hbn).trans x0
                  replace kk := kk.then kA (fun i hi e => by omega)
                  have lie7 := Lies.of_owned own7
                  clear hrun kA rowN lie
                  refine hK.out _ _ (x0) (fun hHeld => ?_)
                  clear hK K
                  (try simp only [Act.put]); (try simp only [List.getElem_toArray]); (try simp only [List.getElem_cons_succ]); (try simp only [List.getElem_cons_zero]); (try simp only [List.setIfInBounds_toArray]); (try simp only [List.set_cons_succ]); (try simp only [List.set_cons_zero])
                  refine wpAnyH_take (i := 8) (v := ?_) rfl (by kernel_rfl) (by kernel_rfl) (by kernel_rfl) (fun _ _ _ h => h) (Or.inl ⟨by kernel_rfl, ?_⟩) hHeld ?_
                  rotate_left
                  · intro w' hSw
                    (try dsimp only at hSw)
                    (try simp only [List.getElem_toArray]); (try simp only [List.getElem_cons_succ]); (try simp only [List.getElem_cons_zero])
                    go_simp
                    try with_reducible rfl
                  (try simp only [Act.put]); (try simp only [List.getElem_toArray]); (try simp only [List.getElem_cons_succ]); (try simp only [List.getElem_cons_zero]); (try simp only [List.setIfInBounds_toArray]); (try simp only [List.set_cons_succ]); (try simp only [List.set_cons_zero])
                  refine wpAnyH_ready (rs := [9]) (by kernel_rfl) (by simp) ?_
                  refine AllReadyH.cons rfl (fun K hK => ?_) AllReadyH.nil
                  have f0 := rowC.frozen 0
                  have y0 := rowC.cell 0
                  (try simp only [List.getElem?_cons_succ] at y0); (try simp only [List.getElem?_cons_zero] at y0)
                  have hne : bR ≠ bC := by omega
                  have kS : Keep (· = bC) w7 (w7.setCell ⟨bC, 0, none⟩ (.slice a2 (1 + (whsO (some E)).length) cap2)) := (Keep.refl (· = bC) w7).setCell (fun _ => rfl) _
                  have HW : Hid (Way w bR bC bR code other (k + 1) (.iface 29 (.pointer (some ⟨b2, 0, none⟩))) (w7.setCell ⟨bC, 0, none⟩ (.slice a2 (1 + (whsO (some E)).length) cap2))) := (by
                    refine ⟨some (.fault x E), kd, a2, cap2, IsEr.keepC rowC kS hE5, ?_, (lie7.mono (fun i hi => ?_)).keep kS (fun i hi => hi.2.1), EndOk.wrap hend x, ?_, ?_, rowR.keep kS hne, kk.then kS (fun i hi e => by omega)⟩
                    · have := rowC.set 0 (.slice a2 (1 + (whsO (some E)).length) cap2)
                      rw [Nat.add_comm] at this ⊢
                      exact this
                    · exact ⟨by omega, by omega, by omega⟩
                    · show E.whs.length + 1 ≤ _
                      have : E.whs.length ≤ k + 1 := hln
                      omega
                    · intro z hz
                      rcases List.mem_cons.1 (show z ∈ x :: E.whs from hz) with rfl | h
                      · exact hxf
                      · exact hfr z h)
                  replace x0 := (kS.cell (p := ⟨b, off + k, none⟩) hb7 (by show ¬ b = bC; omega)).trans x0
                  clear kS rowC rowR kk hE5 lie7 own7
                  go_simp
                  clear y0 f0
                  refine hK.out _ _ (x0) (fun hHeld => ?_)
                  clear hK K
                  (try simp only [Act.put]); (try simp only [List.getElem_toArray]); (try simp only [List.getElem_cons_succ]); (try simp only [List.getElem_cons_zero]); (try simp only [List.setIfInBounds_toArray]); (try simp only [List.set_cons_succ]); (try simp only [List.set_cons_zero])
                  refine wpAnyH_done (by kernel_rfl) ?_ _
                  clear hHeld x0
                  go_wp2_with fail
                  go_roundw
                  case rel => exact ⟨k + 1, by omega, by go_num, HW.out⟩
                  case measure => simp [intOf]; omega
            · obtain rfl : k = l'.length := by omega
              have kd5 : Keep Nix wr wr.drew := (Keep.refl Nix wr).drew
              replace rowC := rowC.keep kd5 id
              replace rowR := rowR.keep kd5 id
              replace lie := lie.keep kd5 (fun _ _ h => h)
              replace hE := hE.keep kd5
              replace kk := kk.trans kd5
              clear kd5
              unfold chainV at rowC
              have y0 := rowC.cell 0
              (try simp only [List.getElem?_cons_succ] at y0); (try simp only [List.getElem?_cons_zero] at y0)
              have y1 := rowC.cell 1
              (try simp only [List.getElem?_cons_succ] at y1); (try simp only [List.getElem?_cons_zero] at y1)
              have y2 := rowC.cell 2
              (try simp only [List.getElem?_cons_succ] at y2); (try simp only [List.getElem?_cons_zero] at y2)
              have y3 := rowC.cell 3
              (try simp only [List.getElem?_cons_succ] at y3); (try simp only [List.getElem?_cons_zero] at y3)
              go_upto_region 21 with fail
              refine wp_region_held_drew (S := (fun w' => w'.cell? ⟨bC, 0, none⟩ = some (.slice a (whsO o).length cap) ∧ w'.cell? ⟨bC, 1, none⟩ = some (.int .i64 code) ∧ w'.cell? ⟨bC, 2, none⟩ = some (.string (strB other)) ∧ w'.cell? ⟨bC, 3, none⟩ = some (.int .i64 kd))) (by kernel_rfl) (⟨y0, y1, y2, y3⟩) (fun hHeld => ?_)
              generalize wr.drew = wq at *
              refine wpAnyH_take (i := 0) (v := ?_) rfl (by kernel_rfl) (by kernel_rfl) (by kernel_rfl) (fun _ _ _ h => h) (Or.inl ⟨by kernel_rfl, ?_⟩) hHeld ?_
              rotate_left
              · intro w' hSw
                (try dsimp only at hSw)
                (try simp only [List.getElem_toArray]); (try simp only [List.getElem_cons_succ]); (try simp only [List.getElem_cons_zero])
                go_simp
                try with_reducible rfl
              (try simp only [Act.put]); (try simp only [List.getElem_toArray]); (try simp only [List.getElem_cons_succ]); (try simp only [List.getElem_cons_zero]); (try simp only [List.setIfInBounds_toArray]); (try simp only [List.set_cons_succ]); (try simp only [List.set_cons_zero])
              refine wpAnyH_take (i := 1) (v := ?_) rfl (by kernel_rfl) (by kernel_rfl) (by kernel_rfl) (fun _ _ _ h => h) (Or.inl ⟨by kernel_rfl, ?_⟩) hHeld ?_
              rotate_left
              · intro w' hSw
                (try dsimp only at hSw)
                (try simp only [List.getElem_toArray]); (try simp only [List.getElem_cons_succ]); (try simp only [List.getElem_cons_zero])
                go_simp
                try with_reducible rfl
              (try simp only [Act.put]); (try simp only [List.getElem_toArray]); (try simp only [List.getElem_cons_succ]); (try simp only [List.getElem_cons_zero]); (try simp only [List.setIfInBounds_toArray]); (try simp only [List.set_cons_succ]); (try simp only [List.set_cons_zero])
              refine wpAnyH_take (i := 2) (v := ?_) rfl (by kernel_rfl) (by kernel_rfl) (by kernel_rfl) (fun _ _ _ h => h) (Or.inl ⟨by kernel_rfl, ?_⟩) hHeld ?_
              rotate_left
              · intro w' hSw
                (try dsimp only at hSw)
                (try simp only [List.getElem_toArray]); (try simp only [List.getElem_cons_succ]); (try simp only [List.getElem_cons_zero])
                go_simp
                try with_reducible rfl
              (try simp only [Act.put]); (try simp only [List.getElem_toArray]); (try simp only [List.getElem_cons_succ]); (try simp only [List.getElem_cons_zero]); (try simp only [List.setIfInBounds_toArray]); (try simp only [List.set_cons_succ]); (try simp only [List.set_cons_zero])
              refine wpAnyH_ready (rs := [3]) (by kernel_rfl) (by simp) ?_
              refine AllReadyH.cons rfl (fun K hK => ?_) AllReadyH.nil
              have z0 := rowR.cell 0
              (try simp only [List.getElem?_cons_succ] at z0); (try simp only [List.getElem?_cons_zero] at z0)
              have z1 := rowR.cell 1
              (try simp only [List.getElem?_cons_succ] at z1); (try simp only [List.getElem?_cons_zero] at z1)
              have z2 := rowR.cell 2
              (try simp only [List.getElem?_cons_succ] at z2); (try simp only [List.getElem?_cons_zero] at z2)
              have z3 := rowR.cell 3
              (try simp only [List.getElem?_cons_succ] at z3); (try simp only [List.getElem?_cons_zero] at z3)
              have g0 := rowR.frozen 0
              have g1 := rowR.frozen 1
              have g2 := rowR.frozen 2
              have g3 := rowR.frozen 3
              have hsz := kk.size
              have hCR : bC ≠ bR := by omega
              have rowF : RowIs ((((wq.setCell ⟨bR, 0, none⟩ (.slice a (whsO o).length cap)).setCell ⟨bR, 1, none⟩ (.int .i64 code)).setCell ⟨bR, 2, none⟩ (.string (strB other))).setCell ⟨bR, 3, none⟩ (.int .i64 kd)) bR 38 [.slice a (whsO o).length cap, .int .i64 code, .string (strB other), .int .i64 kd] := (((rowR.set 0 _).set 1 _).set 2 _).set 3 _
              have kS : Keep (· = bR) wq ((((wq.setCell ⟨bR, 0, none⟩ (.slice a (whsO o).length cap)).setCell ⟨bR, 1, none⟩ (.int .i64 code)).setCell ⟨bR, 2, none⟩ (.string (strB other))).setCell ⟨bR, 3, none⟩ (.int .i64 kd)) := ((((Keep.refl (· = bR) wq).setCell (p := ⟨bR, 0, none⟩) (fun _ => rfl) _).setCell (p := ⟨bR, 1, none⟩) (fun _ => rfl) _).setCell (p := ⟨bR, 2, none⟩) (fun _ => rfl) _).setCell (p := ⟨bR, 3, none⟩) (fun _ => rfl) _
              have rowC' := rowC.keep kS hCR
              have hE' := IsErO.keepC rowR kS hE
              have lie' := lie.keep kS (fun i hi => hi.2.2)
              have kk' := kk.then kS (fun i hi e => by omega)
              go_simp
              clear y0 y1 y2 y3 z0 z1 z2 z3 g0 g1 g2 g3
              generalize ((((wq.setCell ⟨bR, 0, none⟩ (.slice a (whsO o).length cap)).setCell ⟨bR, 1, none⟩ (.int .i64 code)).setCell ⟨bR, 2, none⟩ (.string (strB other))).setCell ⟨bR, 3, none⟩ (.int .i64 kd)) = wz at *
              have y0 := rowC'.cell 0
              (try simp only [List.getElem?_cons_succ] at y0); (try simp only [List.getElem?_cons_zero] at y0)
              have y1 := rowC'.cell 1
              (try simp only [List.getElem?_cons_succ] at y1); (try simp only [List.getElem?_cons_zero] at y1)
              have y2 := rowC'.cell 2
              (try simp only [List.getElem?_cons_succ] at y2); (try simp only [List.getElem?_cons_zero] at y2)
              have y3 := rowC'.cell 3
              (try simp only [List.getElem?_cons_succ] at y3); (try simp only [List.getElem?_cons_zero] at y3)
              refine hK.out _ _ (⟨y0, y1, y2, y3⟩) (fun hHeld => ?_)
              clear hK K
              (try simp only [Act.put]); (try simp only [List.getElem_toArray]); (try simp only [List.getElem_cons_succ]); (try simp only [List.getElem_cons_zero]); (try simp only [List.setIfInBounds_toArray]); (try simp only [List.set_cons_succ]); (try simp only [List.set_cons_zero])
              refine wpAnyH_done (by kernel_rfl) ?_ _
              have hinfo : (Tryd.prog.info? 38).map (·.size) = some 4 := by kernel_rfl
              clear y0 y1 y2 y3 hHeld
              go_wp2_with fail
              refine bodyPost_ret (results_tmp_cell (by rfl) _ _ _ _ _ _ _ (by rfl) rowF Tryd.underlying38 (by rfl) hinfo) rfl ?_
              exact ⟨o, u11, kd, a, cap, rfl, hE', lie'.mono (fun i hi => by rw [hbR]; exact hi.1), hend, by omega, hfr, kk'⟩
end
end Go.Proofs.YtnfjplchliehcaaDoor
