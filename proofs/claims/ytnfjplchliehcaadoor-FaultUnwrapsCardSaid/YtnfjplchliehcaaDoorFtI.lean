/- FAULTS: the law FaultUnwraps. Printed by mac.py. -/
import Derived.Test.YtnfjplchliehcaaDoorFtH
import Derived.Test.YtnfjplchliehcaaDoorFtF
namespace Go.Proofs.YtnfjplchliehcaaDoor
open Go.RowKit Go.Extern.Stop Go.Stop Go.Extern

/-- More may be held from here on. -/
theorem wpAnyH_sub {P : Program} {md : Region.Mode} {ops : Array Oper} {Q : Exit → Act → World → Prop} {S S' : World → Prop} (h : ∀ w, S' w → S w) : ∀ (fuel : Nat) (listed : Array Bool) (a : Act) (w : World), wpAnyH P md ops Q S' fuel listed a w → wpAnyH P md ops Q S fuel listed a w
  | 0, _, _, _, k => k
  | fuel + 1, _, _, _, k => ⟨k.1, fun i hi => wpOp_mono (fun a' w' h' => ⟨h w' h'.1, wpAnyH_sub h fuel _ a' w' h'.2⟩) (k.2 i hi)⟩
/-- The fault at b is k wraps above the one at b0. -/
def ChainTo (w : World) (b0 : Nat) : Nat → Nat → Prop
  | 0, b => b = b0
  | k + 1, b => ∃ wh b', RowIs w b 54 [.string (strB wh), .iface 29 (.pointer (some ⟨b', 0, none⟩))] ∧ ChainTo w b0 k b'
theorem ChainTo.keep {S : Nat → Prop} {w w' : World} {b0 : Nat} (k : Keep S w w') (hS : ∀ i, i < w.heap.size → (∃ cs, RowIs w i 54 cs) → ¬ S i) : ∀ {n b : Nat}, ChainTo w b0 n b → ChainTo w' b0 n b
  | 0, _, h => h
  | _ + 1, b, ⟨wh, b', h1, h2⟩ => ⟨wh, b', h1.keep k (hS b h1.lt ⟨_, h1⟩), ChainTo.keep k hS h2⟩
theorem ChainTo.er {w : World} {b0 : Nat} {s : List UInt8} {code : Int} (h0 : RowIs w b0 54 [.string (strB s), .iface 22 (.int .i64 code)]) : ∀ {n b : Nat}, ChainTo w b0 n b → ∃ E, IsEr w E (.iface 29 (.pointer (some ⟨b, 0, none⟩))) ∧ E.codeOf = code
  | 0, b, h => by
    obtain rfl : b = b0 := h
    exact ⟨.fault s (.code code), ⟨_, _, rfl, h0, rfl⟩, rfl⟩
  | n + 1, b, ⟨wh, b', h1, h2⟩ => by
    obtain ⟨E, hE, hc⟩ := ChainTo.er h0 h2
    exact ⟨.fault wh E, ⟨_, _, rfl, h1, hE⟩, hc⟩
theorem eqFF (b : Addr) (w : World) : (binOp .eql 26 (.iface 29 (.pointer (some b))) (.iface 29 (.pointer (some b)))).run Tryd.prog w = .ok (.bool true) w := by
  obtain ⟨i, hi, hcmp⟩ := Option.map_eq_some_iff.1 (show (Tryd.prog.info? 29).map (·.comparable) = some true by kernel_rfl)
  obtain ⟨j, hj, -⟩ := Option.map_eq_some_iff.1 (show (Tryd.prog.info? 54).map (·.size) = some 2 by kernel_rfl)
  exact run_eql_iface_ptr_same (P := Tryd.prog) w b Tryd.underlying26 Tryd.underlying29 hi hcmp hj
namespace faultUnwraps
set_option maxRecDepth 100000 in
set_option maxHeartbeats 4000000 in
theorem walk {m0 m1 : Nat} (W : World) (v0 v1 : Value) (h0 : Arg Tryd.prog W m0 22 v0) (h1 : Arg Tryd.prog W m1 23 v1) (hg : W.cell? ⟨0, 0, none⟩ = some (.iface 78 (.agg #[.pointer (some ⟨1, 26, none⟩)]))) :
    Calls Tryd.prog 3 #[v0, v1] W fun e w' => e = .returned (.bool true) ∧ Keep Nix W w' := by
  obtain ⟨code, rfl, -⟩ := h0.int Tryd.underlying22
  obtain ⟨aW, nW, cW, rfl, rW⟩ := h1.slice Tryd.underlying23
  obtain ⟨l, hW, -⟩ := Red.toList (sz := 1) (by' := 16) (fun l : List UInt8 => l.length + 1) Tryd.underlying23 (by kernel_rfl) (by kernel_rfl) (by decide) (by decide) (fun h => Red.toStr Tryd.underlying9 h) rW
  obtain ⟨rfl, -, hfl⟩ := rList_len hW
  have hl := Laid.of hg
  have hfar := far_len
  have mL : l.length ≤ 140737488351232 := Nat.le_trans hfl hfar.1
  have HL := Lib.hid hW
  clear hg h0 h1 rW hW hfl hfar
  go_enter Tryd.func3, Tryd.ntmps3
  go_wp2_with fail
  go_fit (ftawake_c W hl)
  rintro e w1 ⟨rfl, kk⟩
  rcases test_eq code 0 with ⟨t1, t2⟩ | ⟨t1, t2⟩
  · clear t2
    go_wp2_with fail
    go_fit (ftawake_c w1 (hl.keep kk))
    rintro e w2 ⟨rfl, k2⟩
    go_wp2_with fail
    go_ret
    exact ⟨rfl, kk.trans k2⟩
  · rcases Nat.lt_or_ge 20 l.length with h20 | h20
    · have h20' : (20 : Int) < (l.length : Int) := by omega
      clear t2
      go_wp2_with fail
      go_fit (ftawake_c w1 (hl.keep kk))
      rintro e w2 ⟨rfl, k2⟩
      go_wp2_with fail
      go_ret
      exact ⟨rfl, kk.trans k2⟩
    · have h20' : (l.length : Int) ≤ 20 := by omega
      go_wp2_with fail
      go_fit (newf_c code t2 [102, 105, 114, 115, 116] w1)
      rintro e w2 ⟨b0, rfl, -, row0, -, k2⟩
      replace kk := Lib.hid (kk.trans k2)
      have row0' := Lib.hid row0
      clear k2 t2 row0
      go_wp2_with fail
      go_loopw [6, 7] (fun v i wr => ∃ k b : Nat, k ≤ l.length ∧ i = .int .i64 k ∧ v = .iface 29 (.pointer (some ⟨b, 0, none⟩)) ∧ ChainTo wr b0 k b ∧ RowIs wr b0 54 [.string (strB [102, 105, 114, 115, 116]), .iface 22 (.int .i64 code)] ∧ Keep Nix W wr) (fun _ i _ => l.length - (intOf i).toNat)
      case atStart => exact ⟨0, b0, by omega, rfl, rfl, rfl, row0'.out, kk.out⟩
      case round =>
        clear kk row0'
        obtain ⟨k, b, hk, rfl, rfl, hch, row0, kk⟩ := hrel
        rcases Nat.lt_or_ge k l.length with hlt | hge
        · have hi1 : (k : Int) < (l.length : Int) := by omega
          have hi0 : (0 : Int) ≤ (k : Int) := by omega
          obtain ⟨bL, off, cc, cs, e1, hbW, hb, r, hcl⟩ := rList_at rStr_lawful (by decide) HL.out k hlt
          simp only [List.cons.injEq, Value.slice.injEq, and_true] at e1
          obtain ⟨rfl, -, -⟩ := e1
          generalize l[k] = x at r
          obtain ⟨rfl, hxf⟩ := r
          have XW : W.cell? ⟨bL, off + k, none⟩ = some (.string (strB x)) := by simpa using hcl 0 _ rfl
          have x0 := (kk.cell (p := ⟨bL, off + k, none⟩) hb id).trans XW
          obtain ⟨E, hE, -⟩ := hch.er row0
          clear hcl hbW
          go_wp2_with fail
          go_fit (wrap_c E _ x wr hE)
          rintro e w3 ⟨b2, rfl, -, row2, -, k3⟩
          have HC : Hid (ChainTo w3 b0 (k + 1) b2) := ⟨x, b, row2, hch.keep k3 (fun _ _ _ => id)⟩
          have HR := Lib.hid (row0.keep k3 id)
          have HK := Lib.hid (kk.trans k3)
          clear hE row2 k3 hch row0 kk x0
          go_wp2_with fail
          go_roundw
          case rel => exact ⟨k + 1, b2, by omega, by go_num, rfl, HC.out, HR.out, HK.out⟩
          case measure => simp [intOf]; omega
        · obtain rfl : k = l.length := by omega
          have HC := Lib.hid hch
          have HR := Lib.hid row0
          have HK := Lib.hid kk
          clear hch row0 kk
          go_wp2_with fail
          go_loopw [6, 8] (fun v i wr => ∃ k b : Nat, k ≤ l.length ∧ i = .int .i64 k ∧ v = .iface 29 (.pointer (some ⟨b, 0, none⟩)) ∧ ChainTo wr b0 (l.length - k) b ∧ RowIs wr b0 54 [.string (strB [102, 105, 114, 115, 116]), .iface 22 (.int .i64 code)] ∧ Keep Nix W wr) (fun _ i _ => l.length - (intOf i).toNat)
          case atStart => exact ⟨0, b, by omega, rfl, rfl, HC.out, HR.out, HK.out⟩
          case round =>
            clear HC HR HK
            obtain ⟨k, b, hk, rfl, rfl, hch, row0, kk⟩ := hrel
            rcases Nat.lt_or_ge k l.length with hlt | hge
            · have hi1 : (k : Int) < (l.length : Int) := by omega
              obtain ⟨m, hm⟩ : ∃ m, l.length - k = m + 1 := ⟨l.length - k - 1, by omega⟩
              rw [hm] at hch
              have hm' : l.length - (k + 1) = m := by omega
              obtain ⟨E, hE, hcd⟩ := hch.er row0
              obtain ⟨wh, b', row, hch'⟩ := hch
              have kA : Keep Nix wr (wr.alloc (.cells #[.pointer none] 29)) := (Keep.refl Nix wr).alloc _
              have rowT := RowIs.alloc wr #[.pointer none] 29
              have kD : Keep Nix (wr.alloc (.cells #[.pointer none] 29)) (wr.alloc (.cells #[.pointer none] 29)).drew := (Keep.refl Nix _).drew
              have K1 := kA.trans kD
              replace rowT := rowT.keep kD id
              replace hE := hE.keep K1
              replace row := row.keep K1 id
              replace row0 := row0.keep K1 id
              replace hch' := hch'.keep K1 (fun _ _ _ => id)
              have hbl := Nat.lt_of_lt_of_le row0.lt (Nat.le_refl _)
              have hsz := kk.size
              replace kk := kk.trans K1
              clear kA kD K1
              go_upto_region 13 with fail
              refine wp_region_held_drew (S := (fun _ => True)) (by kernel_rfl) (trivial) (fun hHeld => ?_)
              generalize htb : wr.heap.size = tb at *
              generalize (wr.alloc (.cells #[.pointer none] 29)).drew = wq at *
              refine wpAnyH_take (i := 0) (v := ?_) rfl (by kernel_rfl) (by kernel_rfl) (by kernel_rfl) (fun _ _ _ h => h) (Or.inl ⟨by kernel_rfl, ?_⟩) hHeld ?_
              rotate_left
              · intro w' hSw
                (try dsimp only at hSw)
                (try simp only [List.getElem_toArray]); (try simp only [List.getElem_cons_succ]); (try simp only [List.getElem_cons_zero])
                go_simp
                try with_reducible rfl
              (try simp only [Act.put]); (try simp only [List.getElem_toArray]); (try simp only [List.getElem_cons_succ]); (try simp only [List.getElem_cons_zero]); (try simp only [List.setIfInBounds_toArray]); (try simp only [List.set_cons_succ]); (try simp only [List.set_cons_zero])
              refine wpAnyH_take (i := 1) (v := ?_) rfl (by kernel_rfl) (by kernel_rfl) (by kernel_rfl) (fun _ _ _ h => h) (Or.inl ⟨by kernel_rfl, ?_⟩) hHeld ?_
              rotate_left
              · intro w' hSw
                (try dsimp only at hSw)
                (try simp only [List.getElem_toArray]); (try simp only [List.getElem_cons_succ]); (try simp only [List.getElem_cons_zero])
                go_simp
                try with_reducible rfl
              (try simp only [Act.put]); (try simp only [List.getElem_toArray]); (try simp only [List.getElem_cons_succ]); (try simp only [List.getElem_cons_zero]); (try simp only [List.setIfInBounds_toArray]); (try simp only [List.set_cons_succ]); (try simp only [List.set_cons_zero])
              refine wpAnyH_ready (rs := [2]) (by kernel_rfl) (by simp) ?_
              refine AllReadyH.cons rfl (fun K hK => ?_) AllReadyH.nil
              go_simp
              go_fit (asF_c ⟨b, 0, none⟩ tb _ wq rowT (hl.keep kk).1)
              rintro e w3 ⟨rfl, rT, k3⟩
              have hrne : ∀ i, i < wq.heap.size → (∃ cs, RowIs wq i 54 cs) → ¬ i = tb := fun i _ ⟨cs, hcs⟩ => hcs.ne rowT (by decide)
              replace hE := IsEr.keepT (by decide) (by decide) rowT k3 hE
              replace row := row.keep k3 (row.ne rowT (by decide))
              replace row0 := row0.keep k3 (row0.ne rowT (by decide))
              replace hch' := hch'.keep k3 hrne
              replace kk := kk.then k3 (fun i hi e => by omega)
              clear k3 rowT hrne hbl
              go_wp2_with fail
              have z0 := rT.cell 0
              (try simp only [List.getElem?_cons_succ] at z0); (try simp only [List.getElem?_cons_zero] at z0)
              refine hK.out _ _ (trivial) (fun hHeld => ?_)
              clear hK K
              (try simp only [Act.put]); (try simp only [List.getElem_toArray]); (try simp only [List.getElem_cons_succ]); (try simp only [List.getElem_cons_zero]); (try simp only [List.setIfInBounds_toArray]); (try simp only [List.set_cons_succ]); (try simp only [List.set_cons_zero])
              clear hHeld
              refine wpAnyH_sub (S' := fun w' => w'.cell? ⟨tb, 0, none⟩ = some (.pointer (some ⟨b, 0, none⟩))) (fun _ _ => trivial) _ _ _ _ ?_
              have hHeld := z0
              clear z0
              refine wpAnyH_take (i := 3) (v := ?_) rfl (by kernel_rfl) (by kernel_rfl) (by kernel_rfl) (fun _ _ _ h => h) (Or.inl ⟨by kernel_rfl, ?_⟩) hHeld ?_
              rotate_left
              · intro w' hSw
                (try dsimp only at hSw)
                (try simp only [List.getElem_toArray]); (try simp only [List.getElem_cons_succ]); (try simp only [List.getElem_cons_zero])
                go_simp
                try with_reducible rfl
              (try simp only [Act.put]); (try simp only [List.getElem_toArray]); (try simp only [List.getElem_cons_succ]); (try simp only [List.getElem_cons_zero]); (try simp only [List.setIfInBounds_toArray]); (try simp only [List.set_cons_succ]); (try simp only [List.set_cons_zero])
              refine wpAnyH_take (i := 4) (v := ?_) rfl (by kernel_rfl) (by kernel_rfl) (by kernel_rfl) (fun _ _ _ h => h) (Or.inl ⟨by kernel_rfl, ?_⟩) hHeld ?_
              rotate_left
              · intro w' hSw
                (try dsimp only at hSw)
                (try simp only [List.getElem_toArray]); (try simp only [List.getElem_cons_succ]); (try simp only [List.getElem_cons_zero])
                go_simp
                try with_reducible rfl
              (try simp only [Act.put]); (try simp only [List.getElem_toArray]); (try simp only [List.getElem_cons_succ]); (try simp only [List.getElem_cons_zero]); (try simp only [List.setIfInBounds_toArray]); (try simp only [List.set_cons_succ]); (try simp only [List.set_cons_zero])
              refine wpAnyH_take (i := 5) (v := ?_) rfl (by kernel_rfl) (by kernel_rfl) (by kernel_rfl) (fun _ _ _ h => h) (Or.inl ⟨by kernel_rfl, ?_⟩) hHeld ?_
              rotate_left
              · intro w' hSw
                (try dsimp only at hSw)
                (try simp only [List.getElem_toArray]); (try simp only [List.getElem_cons_succ]); (try simp only [List.getElem_cons_zero])
                go_simp
                try with_reducible rfl
              (try simp only [Act.put]); (try simp only [List.getElem_toArray]); (try simp only [List.getElem_cons_succ]); (try simp only [List.getElem_cons_zero]); (try simp only [List.setIfInBounds_toArray]); (try simp only [List.set_cons_succ]); (try simp only [List.set_cons_zero])
              refine wpAnyH_take (i := 6) (v := ?_) rfl (by kernel_rfl) (by kernel_rfl) (by kernel_rfl) (fun _ _ _ h => h) (Or.inl ⟨by kernel_rfl, ?_⟩) hHeld ?_
              rotate_left
              · intro w' hSw
                (try dsimp only at hSw)
                (try simp only [List.getElem_toArray]); (try simp only [List.getElem_cons_succ]); (try simp only [List.getElem_cons_zero])
                go_simp
                try with_reducible rfl
              (try simp only [Act.put]); (try simp only [List.getElem_toArray]); (try simp only [List.getElem_cons_succ]); (try simp only [List.getElem_cons_zero]); (try simp only [List.setIfInBounds_toArray]); (try simp only [List.set_cons_succ]); (try simp only [List.set_cons_zero])
              refine wpAnyH_take (i := 7) (v := ?_) rfl (by kernel_rfl) (by kernel_rfl) (by kernel_rfl) (fun _ _ _ h => h) (Or.inl ⟨by kernel_rfl, ?_⟩) hHeld ?_
              rotate_left
              · intro w' hSw
                (try dsimp only at hSw)
                (try simp only [List.getElem_toArray]); (try simp only [List.getElem_cons_succ]); (try simp only [List.getElem_cons_zero])
                go_simp
                try with_reducible rfl
              (try simp only [Act.put]); (try simp only [List.getElem_toArray]); (try simp only [List.getElem_cons_succ]); (try simp only [List.getElem_cons_zero]); (try simp only [List.setIfInBounds_toArray]); (try simp only [List.set_cons_succ]); (try simp only [List.set_cons_zero])
              refine wpAnyH_take (i := 8) (v := ?_) rfl (by kernel_rfl) (by kernel_rfl) (by kernel_rfl) (fun _ _ _ h => h) (Or.inl ⟨by kernel_rfl, ?_⟩) hHeld ?_
              rotate_left
              · intro w' hSw
                (try dsimp only at hSw)
                (try simp only [List.getElem_toArray]); (try simp only [List.getElem_cons_succ]); (try simp only [List.getElem_cons_zero])
                go_simp
                try with_reducible rfl
              (try simp only [Act.put]); (try simp only [List.getElem_toArray]); (try simp only [List.getElem_cons_succ]); (try simp only [List.getElem_cons_zero]); (try simp only [List.setIfInBounds_toArray]); (try simp only [List.set_cons_succ]); (try simp only [List.set_cons_zero])
              refine wpAnyH_take (i := 9) (v := ?_) rfl (by kernel_rfl) (by kernel_rfl) (by kernel_rfl) (fun _ _ _ h => h) (Or.inl ⟨by kernel_rfl, ?_⟩) hHeld ?_
              rotate_left
              · intro w' hSw
                (try dsimp only at hSw)
                (try simp only [List.getElem_toArray]); (try simp only [List.getElem_cons_succ]); (try simp only [List.getElem_cons_zero])
                go_simp
                try with_reducible rfl
              (try simp only [Act.put]); (try simp only [List.getElem_toArray]); (try simp only [List.getElem_cons_succ]); (try simp only [List.getElem_cons_zero]); (try simp only [List.setIfInBounds_toArray]); (try simp only [List.set_cons_succ]); (try simp only [List.set_cons_zero])
              refine wpAnyH_take (i := 10) (v := ?_) rfl (by kernel_rfl) (by kernel_rfl) (by kernel_rfl) (fun _ _ _ h => h) (Or.inl ⟨by kernel_rfl, ?_⟩) hHeld ?_
              rotate_left
              · intro w' hSw
                (try dsimp only at hSw)
                (try simp only [List.getElem_toArray]); (try simp only [List.getElem_cons_succ]); (try simp only [List.getElem_cons_zero])
                go_simp
                try with_reducible rfl
              (try simp only [Act.put]); (try simp only [List.getElem_toArray]); (try simp only [List.getElem_cons_succ]); (try simp only [List.getElem_cons_zero]); (try simp only [List.setIfInBounds_toArray]); (try simp only [List.set_cons_succ]); (try simp only [List.set_cons_zero])
              refine wpAnyH_take (i := 11) (v := ?_) rfl (by kernel_rfl) (by kernel_rfl) (by kernel_rfl) (fun _ _ _ h => h) (Or.inl ⟨by kernel_rfl, ?_⟩) hHeld ?_
              rotate_left
              · intro w' hSw
                (try dsimp only at hSw)
                (try simp only [List.getElem_toArray]); (try simp only [List.getElem_cons_succ]); (try simp only [List.getElem_cons_zero])
                go_simp
                try with_reducible rfl
              (try simp only [Act.put]); (try simp only [List.getElem_toArray]); (try simp only [List.getElem_cons_succ]); (try simp only [List.getElem_cons_zero]); (try simp only [List.setIfInBounds_toArray]); (try simp only [List.set_cons_succ]); (try simp only [List.set_cons_zero])
              refine wpAnyH_ready (rs := [12]) (by kernel_rfl) (by simp) ?_
              refine AllReadyH.cons rfl (fun K hK => ?_) AllReadyH.nil
              rw [if_pos (by kernel_rfl)]
              go_simp
              go_fit (isF_c E b code w3 hE (hl.keep kk))
              rintro e w4 ⟨rfl, k4⟩
              rw [show (E.codeOf == code) = true from by rw [hcd]; exact beq_self_eq_true _]
              replace hE := hE.keep k4
              replace row := row.keep k4 id
              replace row0 := row0.keep k4 id
              replace rT := rT.keep k4 id
              replace hch' := hch'.keep k4 (fun _ _ _ => id)
              replace kk := kk.trans k4
              clear k4
              go_wp2_with fail
              have z0 := rT.cell 0
              (try simp only [List.getElem?_cons_succ] at z0); (try simp only [List.getElem?_cons_zero] at z0)
              refine hK.out _ _ (z0) (fun hHeld => ?_)
              clear hK K
              (try simp only [Act.put]); (try simp only [List.getElem_toArray]); (try simp only [List.getElem_cons_succ]); (try simp only [List.getElem_cons_zero]); (try simp only [List.setIfInBounds_toArray]); (try simp only [List.set_cons_succ]); (try simp only [List.set_cons_zero])
              refine wpAnyH_take (i := 13) (v := ?_) rfl (by kernel_rfl) (by kernel_rfl) (by kernel_rfl) (fun _ _ _ h => h) (Or.inl ⟨by kernel_rfl, ?_⟩) hHeld ?_
              rotate_left
              · intro w' hSw
                (try dsimp only at hSw)
                (try simp only [List.getElem_toArray]); (try simp only [List.getElem_cons_succ]); (try simp only [List.getElem_cons_zero])
                go_simp
                try with_reducible rfl
              (try simp only [Act.put]); (try simp only [List.getElem_toArray]); (try simp only [List.getElem_cons_succ]); (try simp only [List.getElem_cons_zero]); (try simp only [List.setIfInBounds_toArray]); (try simp only [List.set_cons_succ]); (try simp only [List.set_cons_zero])
              refine wpAnyH_take (i := 14) (v := ?_) rfl (by kernel_rfl) (by kernel_rfl) (by kernel_rfl) (fun _ _ _ h => h) (Or.inl ⟨by kernel_rfl, ?_⟩) hHeld ?_
              rotate_left
              · intro w' hSw
                (try dsimp only at hSw)
                (try simp only [List.getElem_toArray]); (try simp only [List.getElem_cons_succ]); (try simp only [List.getElem_cons_zero])
                go_simp
                try with_reducible rfl
              (try simp only [Act.put]); (try simp only [List.getElem_toArray]); (try simp only [List.getElem_cons_succ]); (try simp only [List.getElem_cons_zero]); (try simp only [List.setIfInBounds_toArray]); (try simp only [List.set_cons_succ]); (try simp only [List.set_cons_zero])
              refine wpAnyH_take (i := 15) (v := ?_) rfl (by kernel_rfl) (by kernel_rfl) (by kernel_rfl) (fun _ _ _ h => h) (Or.inl ⟨by kernel_rfl, ?_⟩) hHeld ?_
              rotate_left
              · intro w' hSw
                (try dsimp only at hSw)
                (try simp only [List.getElem_toArray]); (try simp only [List.getElem_cons_succ]); (try simp only [List.getElem_cons_zero])
                go_simp
                try with_reducible rfl
              (try simp only [Act.put]); (try simp only [List.getElem_toArray]); (try simp only [List.getElem_cons_succ]); (try simp only [List.getElem_cons_zero]); (try simp only [List.setIfInBounds_toArray]); (try simp only [List.set_cons_succ]); (try simp only [List.set_cons_zero])
              refine wpAnyH_take (i := 16) (v := ?_) rfl (by kernel_rfl) (by kernel_rfl) (by kernel_rfl) (fun _ _ _ h => h) (Or.inl ⟨by kernel_rfl, ?_⟩) hHeld ?_
              rotate_left
              · intro w' hSw
                (try dsimp only at hSw)
                (try simp only [List.getElem_toArray]); (try simp only [List.getElem_cons_succ]); (try simp only [List.getElem_cons_zero])
                go_simp
                try with_reducible rfl
              (try simp only [Act.put]); (try simp only [List.getElem_toArray]); (try simp only [List.getElem_cons_succ]); (try simp only [List.getElem_cons_zero]); (try simp only [List.setIfInBounds_toArray]); (try simp only [List.set_cons_succ]); (try simp only [List.set_cons_zero])
              refine wpAnyH_ready (rs := [17]) (by kernel_rfl) (by simp) ?_
              refine AllReadyH.cons rfl (fun K hK => ?_) AllReadyH.nil
              rw [if_pos (by kernel_rfl)]
              go_simp
              go_fit (newo_c [120] w4)
              rintro e w5 ⟨b9, rfl, -, k4⟩
              replace hE := hE.keep k4
              replace row := row.keep k4 id
              replace row0 := row0.keep k4 id
              replace rT := rT.keep k4 id
              replace hch' := hch'.keep k4 (fun _ _ _ => id)
              replace kk := kk.trans k4
              clear k4
              clear z0
              go_wp2_with fail
              have z0 := rT.cell 0
              (try simp only [List.getElem?_cons_succ] at z0); (try simp only [List.getElem?_cons_zero] at z0)
              refine hK.out _ _ (z0) (fun hHeld => ?_)
              clear hK K
              (try simp only [Act.put]); (try simp only [List.getElem_toArray]); (try simp only [List.getElem_cons_succ]); (try simp only [List.getElem_cons_zero]); (try simp only [List.setIfInBounds_toArray]); (try simp only [List.set_cons_succ]); (try simp only [List.set_cons_zero])
              refine wpAnyH_ready (rs := [18]) (by kernel_rfl) (by simp) ?_
              refine AllReadyH.cons rfl (fun K hK => ?_) AllReadyH.nil
              rw [if_pos (by kernel_rfl)]
              go_simp
              go_fit (isF_other b ⟨b9, 0, none⟩ w5)
              rintro e w' ⟨rfl, rfl⟩
              go_wp2_with fail
              refine hK.out _ _ (z0) (fun hHeld => ?_)
              clear hK K
              (try simp only [Act.put]); (try simp only [List.getElem_toArray]); (try simp only [List.getElem_cons_succ]); (try simp only [List.getElem_cons_zero]); (try simp only [List.setIfInBounds_toArray]); (try simp only [List.set_cons_succ]); (try simp only [List.set_cons_zero])
              refine wpAnyH_take (i := 19) (v := ?_) rfl (by kernel_rfl) (by kernel_rfl) (by kernel_rfl) (fun _ _ _ h => h) (Or.inl ⟨by kernel_rfl, ?_⟩) hHeld ?_
              rotate_left
              · intro w' hSw
                (try dsimp only at hSw)
                (try simp only [List.getElem_toArray]); (try simp only [List.getElem_cons_succ]); (try simp only [List.getElem_cons_zero])
                go_simp
                try with_reducible rfl
              (try simp only [Act.put]); (try simp only [List.getElem_toArray]); (try simp only [List.getElem_cons_succ]); (try simp only [List.getElem_cons_zero]); (try simp only [List.setIfInBounds_toArray]); (try simp only [List.set_cons_succ]); (try simp only [List.set_cons_zero])
              refine wpAnyH_take (i := 20) (v := ?_) rfl (by kernel_rfl) (by kernel_rfl) (by kernel_rfl) (fun _ _ _ h => h) (Or.inl ⟨by kernel_rfl, ?_⟩) hHeld ?_
              rotate_left
              · intro w' hSw
                (try dsimp only at hSw)
                (try simp only [List.getElem_toArray]); (try simp only [List.getElem_cons_succ]); (try simp only [List.getElem_cons_zero])
                go_simp
                try with_reducible rfl
              (try simp only [Act.put]); (try simp only [List.getElem_toArray]); (try simp only [List.getElem_cons_succ]); (try simp only [List.getElem_cons_zero]); (try simp only [List.setIfInBounds_toArray]); (try simp only [List.set_cons_succ]); (try simp only [List.set_cons_zero])
              refine wpAnyH_take (i := 21) (v := ?_) rfl (by kernel_rfl) (by kernel_rfl) (by kernel_rfl) (fun _ _ _ h => h) (Or.inl ⟨by kernel_rfl, ?_⟩) hHeld ?_
              rotate_left
              · intro w' hSw
                (try dsimp only at hSw)
                (try simp only [List.getElem_toArray]); (try simp only [List.getElem_cons_succ]); (try simp only [List.getElem_cons_zero])
                go_simp
                try with_reducible rfl
              (try simp only [Act.put]); (try simp only [List.getElem_toArray]); (try simp only [List.getElem_cons_succ]); (try simp only [List.getElem_cons_zero]); (try simp only [List.setIfInBounds_toArray]); (try simp only [List.set_cons_succ]); (try simp only [List.set_cons_zero])
              refine wpAnyH_ready (rs := [22]) (by kernel_rfl) (by simp) ?_
              refine AllReadyH.cons rfl (fun K hK => ?_) AllReadyH.nil
              rw [if_pos (by kernel_rfl)]
              go_simp
              go_fit (unwrap_c b _ _ w5 row)
              rintro e w' ⟨rfl, rfl⟩
              go_wp2_with fail
              refine hK.out _ _ (z0) (fun hHeld => ?_)
              clear hK K
              (try simp only [Act.put]); (try simp only [List.getElem_toArray]); (try simp only [List.getElem_cons_succ]); (try simp only [List.getElem_cons_zero]); (try simp only [List.setIfInBounds_toArray]); (try simp only [List.set_cons_succ]); (try simp only [List.set_cons_zero])
              refine wpAnyH_take (i := 23) (v := ?_) rfl (by kernel_rfl) (by kernel_rfl) (by kernel_rfl) (fun _ _ _ h => h) (Or.inl ⟨by kernel_rfl, ?_⟩) hHeld ?_
              rotate_left
              · intro w' hSw
                (try dsimp only at hSw)
                (try simp only [List.getElem_toArray]); (try simp only [List.getElem_cons_succ]); (try simp only [List.getElem_cons_zero])
                go_simp
                try with_reducible rfl
              (try simp only [Act.put]); (try simp only [List.getElem_toArray]); (try simp only [List.getElem_cons_succ]); (try simp only [List.getElem_cons_zero]); (try simp only [List.setIfInBounds_toArray]); (try simp only [List.set_cons_succ]); (try simp only [List.set_cons_zero])
              refine wpAnyH_take (i := 24) (v := ?_) rfl (by kernel_rfl) (by kernel_rfl) (by kernel_rfl) (fun _ _ _ h => h) (Or.inl ⟨by kernel_rfl, ?_⟩) hHeld ?_
              rotate_left
              · intro w' hSw
                (try dsimp only at hSw)
                (try simp only [List.getElem_toArray]); (try simp only [List.getElem_cons_succ]); (try simp only [List.getElem_cons_zero])
                go_simp
                try with_reducible rfl
              (try simp only [Act.put]); (try simp only [List.getElem_toArray]); (try simp only [List.getElem_cons_succ]); (try simp only [List.getElem_cons_zero]); (try simp only [List.setIfInBounds_toArray]); (try simp only [List.set_cons_succ]); (try simp only [List.set_cons_zero])
              refine wpAnyH_done (by kernel_rfl) ?_ _
              clear hHeld z0 hE rT
              go_wp2_with fail
              go_fit (unwF_c b _ _ w5 row)
              rintro e w' ⟨rfl, rfl⟩
              have HC : Hid (ChainTo w5 b0 (l.length - (k + 1)) b') := by show ChainTo _ _ _ _; rw [hm']; exact hch'
              have HR := Lib.hid row0
              have HK := Lib.hid kk
              clear hch' row0 kk row hm hm'
              go_wp2_with fail
              go_roundw
              case rel => exact ⟨k + 1, b', by omega, by go_num, rfl, HC.out, HR.out, HK.out⟩
              case measure => simp [intOf]; omega
            · obtain rfl : k = l.length := by omega
              rw [Nat.sub_self] at hch
              obtain rfl : b = b0 := hch
              have q1 := eqFF
              have q2 := eqEE code code
              rw [beq_self_eq_true] at q2
              go_wp2_with fail
              go_fit (unwF_c b _ _ wr row0)
              rintro e w' ⟨rfl, rfl⟩
              go_wp2_with fail
              go_fit (newf_no [120] wr)
              rintro e w' ⟨rfl, rfl⟩
              go_wp2_with fail
              go_ret
              exact ⟨rfl, kk⟩
end faultUnwraps
end Go.Proofs.YtnfjplchliehcaaDoor
