/- DEDUP: awake; a nil machine. Printed by mac.py. -/
import Derived.Test.YthchpdflnpfjkaaQDed3
import Derived.Test.YthchpdflnpfjkaaQGoods
import Derived.Test.YthchpdflnpfjkaaQOutC
import Derived.Lib.SlBytesConst
namespace Go.Proofs.Ythchpdflnpfjkaa
open Go.RowKit

theorem Lies.mark (w : World) (cs : Array Value) (t : TypeId) (m : Nat × Nat) (p : Nat → Prop) (hp : p w.heap.size) : Lies (w.alloc (.cells cs t m)) p (some ⟨w.heap.size, 0, none⟩) cs.toList :=
  fun _ => ⟨w.heap.size, 0, rfl, hp, by simp, fun j u hu => (cell_of_row _ w.heap.size _ cs t m (heap_alloc_new _ _)).trans (by rw [Nat.zero_add]; simpa using hu)⟩
set_option maxRecDepth 100000 in
theorem IsTape.made {w : World} {b : Nat} (h : RowIs w b 27 [.slice none 0 0]) : IsTape w b none [] :=
  ⟨⟨none, 0, h, World.ownsRow_nil _ _ _ _, rfl⟩, (fun h => nomatch h), (fun _ h => nomatch h)⟩
theorem takeCall (x : GCall) (h : okGCall x) : takeP pGCall zGCall (encGCall x) = (x, 0) := good_GCall.take_back zGCall x h
theorem ok_call {c s : Int} {d : List UInt8} (hc : isU64 c) (hs : isU64 s) (hd : okT d) : okGCall ⟨c, s, d⟩ := ⟨⟨hc, hs⟩, hd⟩
set_option maxRecDepth 100000 in
set_option maxHeartbeats 4000000 in
theorem dawake_c (w : World) : Calls Try.prog 9 #[] w fun e w' => e = .returned (.bool true) ∧ Keep Nix w w' := by
  have kc := fun (w : World) (C : Array Value) (n c : Nat) => Lib.run_convert_bytes_const (P := Try.prog) w 31 5 C n c Try.underlying31 Try.underlying5
  go_enter Try.func9, Try.ntmps9
  go_wp2_with fail
  have row0 := RowIs.alloc w #[.slice none 0 0] 27
  go_fit (new_c w.heap.size _ (IsTape.made row0))
  rintro e w1 ⟨bD, O, rfl, hm, hO, k1⟩
  have kk : Keep Nix w w1 := ((Keep.refl Nix w).alloc _).trans k1
  clear k1 row0
  go_wp2_with fail
  have hx : rGCall (w1.alloc (.cells #[.int .u8 120] 5 (1, 2))) (fun b => b = w1.heap.size) [.int .u64 1, .int .u64 1, .slice (some ⟨w1.heap.size, 0, none⟩) 1 1] ⟨1, 1, [120]⟩ :=
    ⟨[_], [_], [_], rfl, ⟨rfl, rfl⟩, ⟨rfl, rfl⟩, some ⟨w1.heap.size, 0, none⟩, 1, rfl, Lies.mark w1 #[.int .u8 120] _ _ _ rfl, by decide, by decide⟩
  have hlen : (encGCall ⟨1, 1, [120]⟩).length ≤ far := by decide +kernel
  go_fit (oTCall_c _ (fun b => b = w1.heap.size) (fun b hb => by simp; omega) ⟨1, 1, [120]⟩ _ hx hlen)
  rintro e w2 ⟨a, cap, rfl, own, k2⟩
  have k12 : Keep Nix w1 w2 := ((Keep.refl Nix w1).alloc _).trans k2
  have hm2 := hm.keep k12 (fun _ _ => id)
  replace kk := kk.trans k12
  have ho1 := hm.lt
  have hlies := Lies.of_owned own
  clear hx k2 k12 hm
  have hlt2 : ∀ b, OwnB (.slice a (encGCall ⟨1, 1, [120]⟩).length cap) b → ¬ O b := fun b hb hO' => by have h1 := (own.lt b hb).1; have h2 := ho1 b hO'; simp at h1; omega
  have hd := do_ok O bD w.heap.size 0 [] (fun _ => none) a _ cap (encGCall ⟨1, 1, [120]⟩) ⟨1, 1, [120]⟩ w2 rfl hlies (by decide +kernel) hm2 (by decide) (by decide) (takeCall _ (ok_call ⟨by decide, by decide⟩ ⟨by decide, by decide⟩ (by decide)))
  have e1 : doS [] (fun _ => none) ⟨1, 1, [120]⟩ = ([[120]], upd (fun _ => none) 1 (1, [1, 0, 120]), [1, 0, 120]) := by rfl
  rw [e1] at hd
  go_wp2_with fail
  go_fit hd
  rintro e w3 ⟨a3, c3, m3, O3, rfl, hm3, -, own3, mach3, k3, hO3, -⟩
  have hcv := conv_bytes (P := Try.prog) (l := [1, 0, 120]) Try.underlying31 Try.underlying5 Try.underlying9 (cap := c3) rfl (Lies.of_owned own3)
  have hlies3 := (hlies.mono (q := OwnB (.slice a (encGCall ⟨1, 1, [120]⟩).length cap)) (fun b hb => hb.2)).keep k3 hlt2
  have hcv : (convert 31 9 (.slice a3 3 c3)).run Try.prog w3 = .ok (.string { data := #[1, 0, 120] }) w3 := hcv
  have hd2 := do_ok O3 bD w.heap.size 1 [[120]] (upd (fun _ => none) 1 (1, [1, 0, 120])) a _ cap (encGCall ⟨1, 1, [120]⟩) ⟨1, 1, [120]⟩ w3 rfl hlies3 (by decide +kernel) mach3 (by decide) (by decide) (takeCall _ (ok_call ⟨by decide, by decide⟩ ⟨by decide, by decide⟩ (by decide)))
  have e2 : doS [[120]] (upd (fun _ => none) 1 (1, [1, 0, 120])) ⟨1, 1, [120]⟩ = ([[120]], upd (fun _ => none) 1 (1, [1, 0, 120]), [1, 0, 120]) := by rfl
  rw [e2] at hd2
  have hO0 : ∀ b, O b → w.heap.size ≤ b := fun b hb => (hO b hb).elim (fun e => by omega) (fun h => by simp at h; omega)
  have hO30 : ∀ b, O3 b → w.heap.size ≤ b := fun b hb => (hO3 b hb).1.elim (hO0 b) (fun h => Nat.le_trans kk.size h)
  have kk3 : Keep Nix w w3 := kk.then k3 (fun i hi h => by have := hO0 i h; omega)
  clear hd
  go_wp2_with fail
  go_fit hd2
  rintro e w4 ⟨a4, c4, m4, O4, rfl, -, -, own4, -, k4, -, -⟩
  have hcv4 := conv_bytes (P := Try.prog) (l := [1, 0, 120]) Try.underlying31 Try.underlying5 Try.underlying9 (cap := c4) rfl (Lies.of_owned own4)
  have hcv4 : (convert 31 9 (.slice a4 3 c4)).run Try.prog w4 = .ok (.string { data := #[1, 0, 120] }) w4 := hcv4
  have kk4 : Keep Nix w w4 := kk3.then k4 (fun i hi h => by have := hO30 i h; omega)
  clear hd2 hcv
  go_wp2_with fail
  go_ret
  exact ⟨rfl, kk4⟩
theorem saveNil_c (w : World) : Calls Try.prog 14 #[.pointer none] w fun e w' => e = .returned (.slice none 0 0) ∧ w = w' := by
  go_enter Try.func14, Try.ntmps14
  go_wp2_with fail
  go_ret
  exact ⟨rfl, rfl⟩
theorem loadNil_c (v : Value) (w : World) : Calls Try.prog 15 #[.pointer none, v] w fun e w' => e = .returned (.bool false) ∧ w = w' := by
  go_enter Try.func15, Try.ntmps15
  go_wp2_with fail
  go_ret
  exact ⟨rfl, rfl⟩
namespace dedupNil
set_option maxRecDepth 100000 in
set_option maxHeartbeats 4000000 in
theorem walk' {p : Nat → Prop} (W : World) (a : Option Addr) (n cap : Nat) (l : List UInt8) (hn : l.length = n) (ha : Lies W p a (l.map bv)) (hr : n ≤ 140737488351232) (c s : Int) :
    Calls Try.prog 7 #[.slice a n cap, .int .u64 c, .int .u64 s] W fun e w' => e = .returned (.bool true) ∧ Keep Nix W w' := by
  go_enter Try.func7, Try.ntmps7
  go_wp2_with fail
  go_fit (toldNil_c c s W)
  rintro e w1 ⟨rfl, rfl⟩
  go_wp2_with fail
  go_fit (dawake_c W)
  rintro e w1 ⟨rfl, k1⟩
  have ha1 := ha.keep k1 (fun _ _ => id)
  go_wp2_with fail
  go_fit (do_nil a n cap l w1 hn ha1 (by omega))
  rintro e w2 ⟨rfl, k2⟩
  have kk := k1.trans k2
  clear k1 k2 ha1 ha
  go_wp2_with fail
  go_fit (saveNil_c w2)
  rintro e w3 ⟨rfl, rfl⟩
  go_wp2_with fail
  go_fit (loadNil_c _ w2)
  rintro e w3 ⟨rfl, rfl⟩
  go_wp2_with fail
  go_ret
  exact ⟨rfl, kk⟩
theorem walk {m0 m1 m2 : Nat} (W : World) (v0 v1 v2 : Value) (h0 : Arg Try.prog W m0 31 v0) (h1 : Arg Try.prog W m1 33 v1) (h2 : Arg Try.prog W m2 33 v2) :
    Calls Try.prog 7 #[v0, v1, v2] W fun e w' => e = .returned (.bool true) ∧ Keep Nix W w' := by
  obtain ⟨a, n, cap, rfl, h3⟩ := h0.slice Try.underlying31
  obtain ⟨l, hn, hl, h4, h5, -⟩ := bytes_in Try.underlying31 Try.underlying5 (by kernel_rfl) (by kernel_rfl) h3
  obtain ⟨c, rfl, -⟩ := h1.int Try.underlying33
  obtain ⟨s, rfl, -⟩ := h2.int Try.underlying33
  exact walk' W a n cap l hn hl (by omega) c s
end dedupNil
end Go.Proofs.Ythchpdflnpfjkaa
