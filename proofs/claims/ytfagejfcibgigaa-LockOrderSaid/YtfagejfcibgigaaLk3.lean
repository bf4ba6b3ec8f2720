/- LOCK: what a lock reads and writes. Printed by mac.py. -/
import Derived.Test.YtfagejfcibgigaaLk2
namespace Go.Proofs.Ytfagejfcibgigaa
open Go.RowKit

def wrB (h : GHeld) (key : List UInt8) : Bool := h.fWrites.any (fun x => decide (x.fKey = key))
def rdB (h : GHeld) (key : List UInt8) : Bool := h.fKeys.any (fun k => decide (k = key)) || h.fSpans.any (fun s => withinF s key)
def toB (h : GHeld) (s : GSpan) : Bool := h.fWrites.any (fun x => withinF s x.fKey)
theorem equal_c {p q : Nat → Prop} (a b : Option Addr) (n ca m cb : Nat) (la lb : List UInt8) (w : World) (hn : la.length = n) (hm : lb.length = m) (ha : Lies w p a (la.map bv)) (hb : Lies w q b (lb.map bv)) :
    Calls Try.prog 68 #[.slice a n ca, .slice b m cb] w fun e w' => e = .returned (.bool (decide (la = lb))) ∧ w = w' := by
  have h1 := conv_bytes (P := Try.prog) Try.underlying42 Try.underlying5 Try.underlying9 (cap := ca) hn ha
  have h2 := conv_bytes (P := Try.prog) Try.underlying42 Try.underlying5 Try.underlying9 (cap := cb) hm hb
  clear ha hb hn hm
  go_enter Try.func68, Try.ntmps68
  go_wp2
  go_ret
  exact ⟨ret_bool (strB_eq _ _), rfl⟩
theorem writes1_c {p q : Nat → Prop} (x : GWrite) (cs : List Value) (b : Nat) (a : Option Addr) (cap : Nat) (l : List UInt8) (w : World) (hx : rGWrite w p cs x) (hb : b < w.heap.size) (hc : w.cell? ⟨b, 0, none⟩ = some (.slice a l.length cap)) (hl : Lies w q a (l.map bv)) :
    Calls Try.prog 70 #[.agg cs.toArray, .pointer (some ⟨b, 0, none⟩)] w fun e w' => e = .returned (.bool (decide (x.fKey = l))) ∧ Keep Nix w w' := by
  obtain ⟨aK, cK, aV, cV, rfl, hk, -⟩ := rGWrite_open hx
  have kk : Keep Nix w (w.alloc (.cells #[.slice aK x.fKey.length cK, .slice aV x.fValue.length cV, .bool x.fDrop] 48)) := (Keep.refl Nix w).alloc _
  have row0 : RowIs (w.alloc (.cells #[.slice aK x.fKey.length cK, .slice aV x.fValue.length cV, .bool x.fDrop] 48)) w.heap.size 48 [.slice aK x.fKey.length cK, .slice aV x.fValue.length cV, .bool x.fDrop] := RowIs.alloc w _ _
  have c0 : ((w.alloc (.cells #[.slice aK x.fKey.length cK, .slice aV x.fValue.length cV, .bool x.fDrop] 48))).cell? ⟨b, 0, none⟩ = some (.slice a l.length cap) := (kk.cell (p := ⟨b, 0, none⟩) hb id).trans hc
  have hE := equal_c aK a x.fKey.length cK l.length cap x.fKey l _ rfl rfl (hk.1.keep kk (fun _ _ h => h)) (hl.keep kk (fun _ _ h => h))
  have x0 := row0.cell 0
  (try simp only [List.getElem?_cons_zero] at x0)
  clear hx hc hl hk row0
  go_enter Try.func70, Try.ntmps70
  go_wp2_with fail
  go_fit hE
  rintro e w2 ⟨rfl, rfl⟩
  go_wp2_with fail
  go_ret
  exact ⟨rfl, kk⟩
theorem reads1_c {p q : Nat → Prop} (x : List UInt8) (ax : Option Addr) (cx : Nat) (b : Nat) (a : Option Addr) (cap : Nat) (l : List UInt8) (w : World) (hx : Lies w p ax (x.map bv)) (_hb : b < w.heap.size) (hc : w.cell? ⟨b, 0, none⟩ = some (.slice a l.length cap)) (hl : Lies w q a (l.map bv)) :
    Calls Try.prog 67 #[.slice ax x.length cx, .pointer (some ⟨b, 0, none⟩)] w fun e w' => e = .returned (.bool (decide (x = l))) ∧ Keep Nix w w' := by
  have hE := equal_c ax a x.length cx l.length cap x l w rfl rfl hx hl
  clear hx hl
  go_enter Try.func67, Try.ntmps67
  go_wp2_with fail
  go_fit hE
  rintro e w2 ⟨rfl, rfl⟩
  go_wp2_with fail
  go_ret
  exact ⟨rfl, Keep.refl _ _⟩
theorem reads2_c {p q : Nat → Prop} (s : GSpan) (cs : List Value) (b : Nat) (a : Option Addr) (cap : Nat) (l : List UInt8) (w : World) (hx : rGSpan w p cs s) (hb : b < w.heap.size) (hc : w.cell? ⟨b, 0, none⟩ = some (.slice a l.length cap)) (hl : Lies w q a (l.map bv)) :
    Calls Try.prog 69 #[.agg cs.toArray, .pointer (some ⟨b, 0, none⟩)] w fun e w' => e = .returned (.bool (withinF s l)) ∧ Keep Nix w w' := by
  have hx2 := hx
  obtain ⟨sF, dF, sT, dT, rfl, -⟩ := rGSpan_open hx
  have kk : Keep Nix w (w.alloc (.cells #[.slice sF s.fFrom.length dF, .slice sT s.fTo.length dT] 46)) := (Keep.refl Nix w).alloc _
  have row0 : RowIs (w.alloc (.cells #[.slice sF s.fFrom.length dF, .slice sT s.fTo.length dT] 46)) w.heap.size 46 [.slice sF s.fFrom.length dF, .slice sT s.fTo.length dT] := RowIs.alloc w _ _
  have c0 : ((w.alloc (.cells #[.slice sF s.fFrom.length dF, .slice sT s.fTo.length dT] 46))).cell? ⟨b, 0, none⟩ = some (.slice a l.length cap) := (kk.cell (p := ⟨b, 0, none⟩) hb id).trans hc
  have hE := in_c s [.slice sF s.fFrom.length dF, .slice sT s.fTo.length dT] a cap l _ (rGSpan_lawful.nix hx2 kk) (hl.keep kk (fun _ _ h => h))
  have x0 := row0.cell 0
  (try simp only [List.getElem?_cons_zero] at x0)
  have x1 := row0.cell 1
  (try simp only [List.getElem?_cons_succ] at x1); (try simp only [List.getElem?_cons_zero] at x1)
  clear hx hx2 hc hl row0
  go_enter Try.func69, Try.ntmps69
  go_wp2_with fail
  go_fit hE
  rintro e w2 ⟨rfl, k2⟩
  go_wp2_with fail
  go_ret
  exact ⟨rfl, kk.trans k2⟩
set_option maxRecDepth 100000 in
theorem writes_c {p q : Nat → Prop} (h : GHeld) (csh : List Value) (a : Option Addr) (cap : Nat) (l : List UInt8) (w : World) (hh : rGHeld w p csh h) (hl : Lies w q a (l.map bv)) :
    Calls Try.prog 40 #[.agg csh.toArray, .slice a l.length cap] w fun e w' => e = .returned (.bool (wrB h l)) ∧ Keep Nix w w' := by
  obtain ⟨aK, cK, aS, cS, aW, cW, rfl, hT, hK, hS, hW, -⟩ := rGHeld_open hh
  have kk : Keep Nix w ((w.alloc (.cells #[.int .u64 h.fTxn, .slice aK h.fKeys.length cK, .slice aS h.fSpans.length cS, .slice aW h.fWrites.length cW] 28)).alloc (.cells #[.slice a l.length cap] 42)) := ((Keep.refl Nix w).alloc _).alloc _
  have row0 : RowIs ((w.alloc (.cells #[.int .u64 h.fTxn, .slice aK h.fKeys.length cK, .slice aS h.fSpans.length cS, .slice aW h.fWrites.length cW] 28)).alloc (.cells #[.slice a l.length cap] 42)) w.heap.size 28 [.int .u64 h.fTxn, .slice aK h.fKeys.length cK, .slice aS h.fSpans.length cS, .slice aW h.fWrites.length cW] := (RowIs.alloc w _ _).keep ((Keep.refl Nix _).alloc _) id
  have row1 : RowIs ((w.alloc (.cells #[.int .u64 h.fTxn, .slice aK h.fKeys.length cK, .slice aS h.fSpans.length cS, .slice aW h.fWrites.length cW] 28)).alloc (.cells #[.slice a l.length cap] 42)) (w.heap.size + 1) 42 [.slice a l.length cap] := by
    have h := RowIs.alloc (w.alloc (.cells #[.int .u64 h.fTxn, .slice aK h.fKeys.length cK, .slice aS h.fSpans.length cS, .slice aW h.fWrites.length cW] 28)) #[.slice a l.length cap] 42
    rw [World.size_alloc] at h
    exact h
  have hl1 := hl.keep kk (fun _ _ h => h)
  have hcall := cfWrite_c aW h.fWrites.length cW h.fWrites 70 (.pointer (some ⟨w.heap.size + 1, 0, none⟩)) (fun x => decide (x.fKey = l)) ((w.alloc (.cells #[.int .u64 h.fTxn, .slice aK h.fKeys.length cK, .slice aS h.fSpans.length cS, .slice aW h.fWrites.length cW] 28)).alloc (.cells #[.slice a l.length cap] 42)) ((rList_lawful rGWrite_lawful).nix hW kk) (fun args w => by rfl) (fun w' x cs k hx rx => writes1_c x cs _ a cap l w' rx (row1.keep k id).lt ((row1.keep k id).cell 0) (hl1.keep k (fun _ _ h => h)))
  have HC := Lib.hid hcall
  have x3 := row0.cell 3
  (try simp only [List.getElem?_cons_succ] at x3); (try simp only [List.getElem?_cons_zero] at x3)
  clear hcall hT hK hS hW hh hl hl1 row0 row1
  go_enter Try.func40, Try.ntmps40
  go_wp2_with fail
  go_fit HC.out
  rintro e w1 ⟨rfl, k1⟩
  go_wp2_with fail
  go_ret
  exact ⟨rfl, kk.trans k1⟩
set_option maxRecDepth 100000 in
theorem reads_c {p q : Nat → Prop} (h : GHeld) (csh : List Value) (a : Option Addr) (cap : Nat) (l : List UInt8) (w : World) (hh : rGHeld w p csh h) (hl : Lies w q a (l.map bv)) :
    Calls Try.prog 39 #[.agg csh.toArray, .slice a l.length cap] w fun e w' => e = .returned (.bool (rdB h l)) ∧ Keep Nix w w' := by
  obtain ⟨aK, cK, aS, cS, aW, cW, rfl, hT, hK, hS, hW, -⟩ := rGHeld_open hh
  have kk : Keep Nix w ((w.alloc (.cells #[.int .u64 h.fTxn, .slice aK h.fKeys.length cK, .slice aS h.fSpans.length cS, .slice aW h.fWrites.length cW] 28)).alloc (.cells #[.slice a l.length cap] 42)) := ((Keep.refl Nix w).alloc _).alloc _
  have row0 : RowIs ((w.alloc (.cells #[.int .u64 h.fTxn, .slice aK h.fKeys.length cK, .slice aS h.fSpans.length cS, .slice aW h.fWrites.length cW] 28)).alloc (.cells #[.slice a l.length cap] 42)) w.heap.size 28 [.int .u64 h.fTxn, .slice aK h.fKeys.length cK, .slice aS h.fSpans.length cS, .slice aW h.fWrites.length cW] := (RowIs.alloc w _ _).keep ((Keep.refl Nix _).alloc _) id
  have row1 : RowIs ((w.alloc (.cells #[.int .u64 h.fTxn, .slice aK h.fKeys.length cK, .slice aS h.fSpans.length cS, .slice aW h.fWrites.length cW] 28)).alloc (.cells #[.slice a l.length cap] 42)) (w.heap.size + 1) 42 [.slice a l.length cap] := by
    have h := RowIs.alloc (w.alloc (.cells #[.int .u64 h.fTxn, .slice aK h.fKeys.length cK, .slice aS h.fSpans.length cS, .slice aW h.fWrites.length cW] 28)) #[.slice a l.length cap] 42
    rw [World.size_alloc] at h
    exact h
  have hl1 := hl.keep kk (fun _ _ h => h)
  have hcall := cfBytes_c aK h.fKeys.length cK h.fKeys 67 (.pointer (some ⟨w.heap.size + 1, 0, none⟩)) (fun x => decide (x = l)) ((w.alloc (.cells #[.int .u64 h.fTxn, .slice aK h.fKeys.length cK, .slice aS h.fSpans.length cS, .slice aW h.fWrites.length cW] 28)).alloc (.cells #[.slice a l.length cap] 42)) ((rList_lawful rBytes_lawful).nix hK kk) (fun args w => by rfl) (fun w' x ax cx k hx rx => reads1_c x ax cx _ a cap l w' rx (row1.keep k id).lt ((row1.keep k id).cell 0) (hl1.keep k (fun _ _ h => h)))
  have HC2 : Hid (∀ w2, Keep Nix ((w.alloc (.cells #[.int .u64 h.fTxn, .slice aK h.fKeys.length cK, .slice aS h.fSpans.length cS, .slice aW h.fWrites.length cW] 28)).alloc (.cells #[.slice a l.length cap] 42)) w2 → Calls Try.prog 52 #[.slice aS h.fSpans.length cS, .func (.func 69) #[] #[.pointer (some ⟨w.heap.size + 1, 0, none⟩)]] w2 fun e w' => e = .returned (.bool (h.fSpans.any (fun s => withinF s l))) ∧ Keep Nix w2 w') := fun w2 k2 =>
    cfSpan_c aS h.fSpans.length cS h.fSpans 69 (.pointer (some ⟨w.heap.size + 1, 0, none⟩)) (fun s => withinF s l) w2 ((rList_lawful rGSpan_lawful).nix hS (kk.trans k2)) (fun args w => by rfl) (fun w' x cs k hx rx => reads2_c x cs _ a cap l w' rx (row1.keep (k2.trans k) id).lt ((row1.keep (k2.trans k) id).cell 0) (hl1.keep (k2.trans k) (fun _ _ h => h)))
  have HC := Lib.hid hcall
  have x1 := row0.cell 1
  (try simp only [List.getElem?_cons_succ] at x1); (try simp only [List.getElem?_cons_zero] at x1)
  have HR : Hid (rdB h l = (h.fKeys.any (fun k => decide (k = l)) || h.fSpans.any (fun s => withinF s l))) := rfl
  have HX2 : Hid (∀ w2, Keep Nix ((w.alloc (.cells #[.int .u64 h.fTxn, .slice aK h.fKeys.length cK, .slice aS h.fSpans.length cS, .slice aW h.fWrites.length cW] 28)).alloc (.cells #[.slice a l.length cap] 42)) w2 → w2.cell? ⟨w.heap.size, 2, none⟩ = some (.slice aS h.fSpans.length cS)) := fun w2 k2 => by
    have h := (row0.keep k2 id).cell 2
    simpa using h
  obtain ⟨y, HY⟩ : ∃ y, Hid (rdB h l = y) := ⟨_, rfl⟩
  rw [HY.out]
  clear hcall hT hK hS hW hh hl hl1 row0 row1
  generalize h.fKeys.any (fun k => decide (k = l)) = v1 at *
  generalize h.fSpans.any (fun s => withinF s l) = v2 at *
  cases v1 with
  | true =>
    have e : y = true := by rw [← HY.out, HR.out]; rfl
    go_enter Try.func39, Try.ntmps39
    go_wp2_with fail
    go_fit HC.out
    rintro e w1 ⟨rfl, k1⟩
    go_wp2_with fail
    go_ret
    exact ⟨ret_bool e.symm, kk.trans k1⟩
  | false =>
    have e : Hid (y = v2) := by show _ = _; rw [← HY.out, HR.out]; rfl
    go_enter Try.func39, Try.ntmps39
    go_wp2_with fail
    go_fit HC.out
    rintro e w1 ⟨rfl, k1⟩
    have hx2 := HX2.out w1 k1
    go_wp2_with fail
    go_fit (HC2.out w1 k1)
    rintro e w2 ⟨rfl, k2⟩
    go_wp2_with fail
    go_ret
    exact ⟨ret_bool e.out.symm, (kk.trans k1).trans k2⟩
end Go.Proofs.Ytfagejfcibgigaa
