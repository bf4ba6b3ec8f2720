/- PAGES: Scan: what its closure tells. Printed by mac.py. -/
import Derived.Test.YthkocgpbpgfocaaPgR
import Derived.OwnWalkIn
import Derived.TacticsInMore
import Derived.LoopNIn
import Derived.LoopIn
namespace Go.Proofs.Ythkocgpbpgfocaa
open Go.RowKit Go.Shelf

attribute [local go_sem] Oper.semAt_some
set_option maxRecDepth 100000 in
set_option maxHeartbeats 1000000 in
theorem scan_tells (g n1 n2 c : Nat) (ax : Option Addr) (xs : List GPair) (w : World) (row : RowIs w g 22 [.slice ax xs.length c]) (hl : rList rGPair w (fun b => n1 ≤ b ∧ b < n2) [.slice ax xs.length c] xs) (hg : n1 ≤ g ∧ g < n2) (hn : xs.length ≤ 1000000) :
    Tells 37 #[.pointer (some ⟨g, 0, none⟩)] xs n1 n2 w := by
  intro l J Jx W hW hJ hY h0
  have x0 := (row.keep hW (fun h => h hg)).cell 0
  (try simp only [List.getElem?_cons_zero] at x0)
  have HLL := Lib.hid ((rList_lawful rGPair_lawful).keep hl hW (fun b hb h => h hb))
  have HYY := Lib.hid hY
  have HJJ := Lib.hid hJ
  clear hl hY hJ row hW
  refine callsIn_of_wp Try.func37 rfl trivial ?_
  simp only [Try.ntmps37, List.size_toArray, List.length_cons, List.length_nil, Nat.reduceAdd, Nat.reduceSub, Array.replicate_succ, Array.replicate_zero, List.push_toArray, List.append_toArray, List.nil_append, List.cons_append]
  gi_wp2
  gi_loopw [7] (fun i wr => ∃ k : Nat, k ≤ xs.length ∧ i = .int .i64 k ∧ J k wr ∧ Keep (Off n1 n2) W wr) (fun i _ => xs.length - (intOf i).toNat)
  case atStart => exact ⟨0, by omega, rfl, h0, Keep.refl _ _⟩
  case round =>
    clear x0
    obtain ⟨k, hk, rfl, hJk, kk⟩ := hrel
    by_cases hlt : k < xs.length
    · have hi0 : (0 : Int) ≤ (k : Int) := by omega
      have hi1 : (k : Int) < (xs.length : Int) := by omega
      obtain ⟨b, o, _, cx, e1, -, hb, rx, hcx⟩ := rList_at rGPair_lawful (by decide) ((rList_lawful rGPair_lawful).keep HLL.out kk (fun b hb h => h hb)) k hlt
      simp only [List.cons.injEq, Value.slice.injEq, and_true] at e1
      obtain ⟨rfl, -, -⟩ := e1
      have HX1 : Hid (xs[k] = xs[k]) := rfl
      obtain ⟨x, hx⟩ : ∃ x, xs[k] = x := ⟨_, rfl⟩
      rw [hx] at rx
      have HX := Lib.hid hx
      clear hx HX1
      have rx2 := rx
      obtain ⟨aK, cK, aV, cV, rfl, hK, hV, hver, -⟩ := rGPair_open rx
      have y0 := hcx 0 _ rfl
      have y1 := hcx 1 _ rfl
      have y2 := hcx 2 _ rfl
      (try simp only [Nat.add_zero] at y0)
      have kA : Keep Nix wr (wr.alloc (.cells #[.slice aK x.fKey.length cK, .slice aV x.fValue.length cV, .int .i64 x.fVersion] 29)) := (Keep.refl Nix wr).alloc _
      have rowX := RowIs.alloc wr #[.slice aK x.fKey.length cK, .slice aV x.fValue.length cV, .int .i64 x.fVersion] 29
      have z0 := rowX.cell 0
      (try simp only [List.getElem?_cons_zero] at z0)
      have z1 := rowX.cell 1
      (try simp only [List.getElem?_cons_succ] at z1); (try simp only [List.getElem?_cons_zero] at z1)
      have z2 := rowX.cell 2
      (try simp only [List.getElem?_cons_succ] at z2); (try simp only [List.getElem?_cons_zero] at z2)
      have HO := Lib.hid (own_p x [.slice aK x.fKey.length cK, .slice aV x.fValue.length cV, .int .i64 x.fVersion] (wr.alloc (.cells #[.slice aK x.fKey.length cK, .slice aV x.fValue.length cV, .int .i64 x.fVersion] 29)) (rGPair_lawful.nix rx2 kA))
      have hsk := kk.size
      have hsA := kA.size
      clear hcx hK hV hver rx2 rx rowX
      gi_wp2
      refine ⟨trivial, (callsIn_wide.2 HO.out).mono ?_⟩
      rintro e w2 ⟨cn, rfl, hcn, k2⟩
      have hs2 := k2.size
      have hcn2 : OwnP w2 wr.heap.size cn x := by
        obtain ⟨a1, c1, a2, c2, e, o1, o2, r⟩ := hcn
        exact ⟨a1, c1, a2, c2, e, own_from o1 (by omega), own_from o2 (by omega), r⟩
      obtain ⟨fn, tmps, assign, body, hy, hR⟩ := HYY.out k hlt cn wr w2 hJk (kA.trans k2) (by omega) (by rw [HX.out]; exact hcn2)
      clear HO hcn hcn2 y0 y1 y2 z0 z1 z2
      gi_wp2
      refine hR.mono ?_
      rintro e W3 (⟨rfl, hJ3, hk3⟩ | ⟨rfl, hJx3⟩)
      · have kk3 : Keep (Off n1 n2) W W3 := ((kk.trans kA.nix).trans k2.nix).trans hk3
        clear hR hy
        gi_wp2
        go_roundw
        case rel => exact ⟨k + 1, by omega, by go_num, hJ3, kk3⟩
        case measure => simp [intOf]; omega
      · clear hR hy
        gi_wp2
        refine bodyPost_ret (results_none rfl _ _ _) rfl ?_
        exact ⟨⟨_, rfl⟩, .inr hJx3⟩
    · obtain rfl : k = xs.length := by omega
      gi_wp2
      go_end0
      exact ⟨⟨_, rfl⟩, .inl hJk⟩
end Go.Proofs.Ythkocgpbpgfocaa
